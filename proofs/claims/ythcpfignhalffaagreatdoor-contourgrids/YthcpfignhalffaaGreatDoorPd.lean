/-
  A part of the proof of the statement that the claim names: see the last file.
-/
import Derived.Test.YthcpfignhalffaaGreatDoorPc
namespace Go.Proofs.YthcpfignhalffaaGreatDoor
open Go
set_option maxRecDepth 100000


theorem band {a b : Bool} (ha : a = true) (hb : b = true) : (a && b) = true := by rw [ha, hb]; rfl
theorem fact7x0 : (Rows.contourGridsRow.wf (OpenSpec.ofChange Rows.contourGridsSpec)) = true := by kernel_rfl
theorem fact7x1 : (laidOutB Tryz.pinned.checked.prog) = true := by kernel_rfl
theorem fact7x2 : (mapsRowed Tryz.pinned.checked.prog) = true := by kernel_rfl
theorem fact7x3 : (Tryz.f7.params.all (Tryz.pinned.checked.prog.readableRec ·)) = true := by kernel_rfl
theorem fact7x4 : (namedTie Tryz.pinned.checked.prog Rows.contourGridsRow.named Rows.contourGridsSpec.vars) = true := by kernel_rfl
theorem fact7x5 : ((Rows.contourGridsRow.stops == [])) = true := by kernel_rfl
theorem fact7x6 : ((Tryz.pinned.checked.prog.stops == [])) = true := by kernel_rfl
theorem fact7x7 : ((Rows.contourGridsRow.knobs == [])) = true := by kernel_rfl
theorem fact7x8 : ((Tryz.pinned.checked.prog.stopKnobs == [])) = true := by kernel_rfl
theorem fact7x9 : ((Rows.contourGridsRow.inPlace == Tryz.pinned.checked.prog.inPlace 7)) = true := by kernel_rfl
theorem fact7x10 : ((Rows.contourGridsRow.unfollowed == Tryz.pinned.checked.prog.unfollowed 7)) = true := by kernel_rfl
theorem fact7x11 : ((Rows.contourGridsRow.recurses == Tryz.pinned.checked.prog.recurses 7)) = true := by kernel_rfl
theorem fact7x12 : ((Rows.contourGridsRow.named == Tryz.pinned.checked.prog.varsNamed 7)) = true := by kernel_rfl
theorem fact7x13 : ((Rows.contourGridsRow.maps == (Tryz.f7.params.toList ++ Rows.contourGridsSpec.plain.varTypes Tryz.pinned.checked.prog).any (Tryz.pinned.checked.prog.mapsRec ·))) = true := by kernel_rfl
theorem fact7x14 : ((Rows.contourGridsRow.ifaces == (Tryz.f7.params.toList ++ Rows.contourGridsSpec.plain.varTypes Tryz.pinned.checked.prog).any (Tryz.pinned.checked.prog.ifacesRec ·))) = true := by kernel_rfl
theorem fact7x15 : ((Rows.contourGridsRow.mapsOut == Tryz.pinned.checked.prog.mapsAmong Tryz.f7.resultTypes.toList)) = true := by kernel_rfl
theorem fact7x16 : ((Rows.contourGridsRow.loops == (Tryz.f7.params.toList ++ Rows.contourGridsSpec.plain.varTypes Tryz.pinned.checked.prog).any (Tryz.pinned.checked.prog.loopsFrom ·))) = true := by kernel_rfl
theorem fact7x17 : ((Rows.contourGridsRow.wideKeys == (Tryz.f7.params.toList ++ Rows.contourGridsSpec.plain.varTypes Tryz.pinned.checked.prog ++ Tryz.f7.resultTypes.toList).any (Tryz.pinned.checked.prog.wideKeysFrom ·))) = true := by kernel_rfl
theorem fact7x18 : (Rows.contourGridsSpec.vars.all (Tryz.pinned.checked.prog.varReadable ·)) = true := by kernel_rfl
theorem fact7x19 : (Tryz.f7.resultTypes.all (fun t => Tryz.pinned.checked.prog.readableRec t && decide (t < Tryz.pinned.checked.prog.types.size))) = true := by kernel_rfl
theorem fact7x20 : ((Rows.contourGridsRow.ifacesOut == Tryz.f7.resultTypes.toList.any (Tryz.pinned.checked.prog.ifacesRec ·))) = true := by kernel_rfl
theorem fact7x21 : ((Rows.contourGridsRow.loopsOut == Tryz.f7.resultTypes.toList.any (Tryz.pinned.checked.prog.loopsFrom ·))) = true := by kernel_rfl
theorem fact7x22 : ((Rows.contourGridsRow.plainKeys == Tryz.pinned.checked.prog.plainKeys)) = true := by kernel_rfl
theorem fact7x23 : (Rows.contourGridsRow.shortTexts.isNone) = true := by kernel_rfl
theorem fact7x24 : (Tryz.pinned.checked.prog.stopsHeard) = true := by kernel_rfl
theorem fact7x25 : (Tryz.pinned.checked.prog.mayEnter) = true := by kernel_rfl
theorem fact7x26 : ((Rows.contourGridsRow.lifted == Tryz.pinned.checked.prog.liftsFinal)) = true := by kernel_rfl
theorem fact7x27 : ((Tryz.pinned.checked.prog.make == some Rows.contourGridsRow.make)) = true := by kernel_rfl
theorem fact7x28 : ((Rows.contourGridsRow.kinds == (if Rows.contourGridsRow.domain.isEmpty then [] else Tryz.f7.params.toList.map fun t => match Tryz.pinned.checked.prog.underlying t with | some (.int k) => some k | _ => none))) = true := by kernel_rfl
theorem fact7x29 : ((Rows.contourGridsRow.pinned == Rows.contourGridsRow.pinnedBy)) = true := by kernel_rfl
theorem fact7x30 : ((Rows.contourGridsRow.veiled == (Tryz.f7.params.toList ++ Rows.contourGridsSpec.plain.varTypes Tryz.pinned.checked.prog ++ Tryz.f7.resultTypes.toList).any (Tryz.pinned.checked.prog.veiledRec ·))) = true := by kernel_rfl
theorem fact7x31 : (Rows.contourGridsRow.veiledFits Tryz.pinned.checked.prog Tryz.f7.params.toList (Tryz.f7.params.toList ++ Rows.contourGridsSpec.plain.varTypes Tryz.pinned.checked.prog ++ Tryz.f7.resultTypes.toList)) = true := by kernel_rfl
theorem facts7 : joinedFacts Tryz.pinned.checked.prog 7 Tryz.f7 Rows.contourGridsSpec Rows.contourGridsRow = true := (band (band (band (band (band (band (band (band (band (band (band (band (band (band (band (band (band (band (band (band (band (band (band (band (band (band (band (band (band (band (band fact7x0 fact7x1) fact7x2) fact7x3) fact7x4) fact7x5) fact7x6) fact7x7) fact7x8) fact7x9) fact7x10) fact7x11) fact7x12) fact7x13) fact7x14) fact7x15) fact7x16) fact7x17) fact7x18) fact7x19) fact7x20) fact7x21) fact7x22) fact7x23) fact7x24) fact7x25) fact7x26) fact7x27) fact7x28) fact7x29) fact7x30) fact7x31)
theorem named7 : Tryz.pinned.checked.prog.funcNamed Rows.contourGridsRow.func = some 7 := by kernel_rfl
theorem inst7 : Tryz.f7.isInstance Tryz.pinned.checked.prog Rows.contourGridsRow.origin Rows.contourGridsRow.targs := of_decide_eq_true (by kernel_rfl)
theorem wrap7 : Tryz.f7.isWrapper Tryz.pinned.checked.prog Rows.contourGridsRow.wrapper Rows.contourGridsRow.mainSum := by
  unfold Func.isWrapper
  first | (rw [if_pos (by decide +kernel)]; kernel_rfl) | (rw [if_neg (by decide +kernel)]; exact ⟨rfl, rfl⟩)
end Go.Proofs.YthcpfignhalffaaGreatDoor
