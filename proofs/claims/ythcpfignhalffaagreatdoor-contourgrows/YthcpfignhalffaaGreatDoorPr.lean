/-
 A part of the proof of the statement that the claim names: see the last file.
-/
import Derived.Test.YthcpfignhalffaaGreatDoorPq
namespace Go.Proofs.YthcpfignhalffaaGreatDoor
open Go
set_option maxRecDepth 100000
theorem band {a b : Bool} (ha : a = true) (hb : b = true) : (a && b) = true := by rw [ha, hb]; rfl
theorem fact6x0 : (Rows.contourGrowsRow.wf (OpenSpec.ofChange Rows.contourGrowsSpec)) = true := by kernel_rfl
theorem fact6x1 : (laidOutB Tryz.pinned.checked.prog) = true := by kernel_rfl
theorem fact6x2 : (mapsRowed Tryz.pinned.checked.prog) = true := by kernel_rfl
theorem fact6x3 : (Tryz.f6.params.all (Tryz.pinned.checked.prog.readableRec ·)) = true := by kernel_rfl
theorem fact6x4 : (namedTie Tryz.pinned.checked.prog Rows.contourGrowsRow.named Rows.contourGrowsSpec.vars) = true := by kernel_rfl
theorem fact6x5 : ((Rows.contourGrowsRow.stops == [])) = true := by kernel_rfl
theorem fact6x6 : ((Tryz.pinned.checked.prog.stops == [])) = true := by kernel_rfl
theorem fact6x7 : ((Rows.contourGrowsRow.knobs == [])) = true := by kernel_rfl
theorem fact6x8 : ((Tryz.pinned.checked.prog.stopKnobs == [])) = true := by kernel_rfl
theorem fact6x9 : ((Rows.contourGrowsRow.inPlace == Tryz.pinned.checked.prog.inPlace 6)) = true := by kernel_rfl
theorem fact6x10 : ((Rows.contourGrowsRow.unfollowed == Tryz.pinned.checked.prog.unfollowed 6)) = true := by kernel_rfl
theorem fact6x11 : ((Rows.contourGrowsRow.recurses == Tryz.pinned.checked.prog.recurses 6)) = true := by kernel_rfl
theorem fact6x12 : ((Rows.contourGrowsRow.named == Tryz.pinned.checked.prog.varsNamed 6)) = true := by kernel_rfl
theorem fact6x13 : ((Rows.contourGrowsRow.maps == (Tryz.f6.params.toList ++ Rows.contourGrowsSpec.plain.varTypes Tryz.pinned.checked.prog).any (Tryz.pinned.checked.prog.mapsRec ·))) = true := by kernel_rfl
theorem fact6x14 : ((Rows.contourGrowsRow.ifaces == (Tryz.f6.params.toList ++ Rows.contourGrowsSpec.plain.varTypes Tryz.pinned.checked.prog).any (Tryz.pinned.checked.prog.ifacesRec ·))) = true := by kernel_rfl
theorem fact6x15 : ((Rows.contourGrowsRow.mapsOut == Tryz.pinned.checked.prog.mapsAmong Tryz.f6.resultTypes.toList)) = true := by kernel_rfl
theorem fact6x16 : ((Rows.contourGrowsRow.loops == (Tryz.f6.params.toList ++ Rows.contourGrowsSpec.plain.varTypes Tryz.pinned.checked.prog).any (Tryz.pinned.checked.prog.loopsFrom ·))) = true := by kernel_rfl
theorem fact6x17 : ((Rows.contourGrowsRow.wideKeys == (Tryz.f6.params.toList ++ Rows.contourGrowsSpec.plain.varTypes Tryz.pinned.checked.prog ++ Tryz.f6.resultTypes.toList).any (Tryz.pinned.checked.prog.wideKeysFrom ·))) = true := by kernel_rfl
theorem fact6x18 : (Rows.contourGrowsSpec.vars.all (Tryz.pinned.checked.prog.varReadable ·)) = true := by kernel_rfl
theorem fact6x19 : (Tryz.f6.resultTypes.all (fun t => Tryz.pinned.checked.prog.readableRec t && decide (t < Tryz.pinned.checked.prog.types.size))) = true := by kernel_rfl
theorem fact6x20 : ((Rows.contourGrowsRow.ifacesOut == Tryz.f6.resultTypes.toList.any (Tryz.pinned.checked.prog.ifacesRec ·))) = true := by kernel_rfl
theorem fact6x21 : ((Rows.contourGrowsRow.loopsOut == Tryz.f6.resultTypes.toList.any (Tryz.pinned.checked.prog.loopsFrom ·))) = true := by kernel_rfl
theorem fact6x22 : ((Rows.contourGrowsRow.plainKeys == Tryz.pinned.checked.prog.plainKeys)) = true := by kernel_rfl
theorem fact6x23 : (Rows.contourGrowsRow.shortTexts.isNone) = true := by kernel_rfl
theorem fact6x24 : (Tryz.pinned.checked.prog.stopsHeard) = true := by kernel_rfl
theorem fact6x25 : (Tryz.pinned.checked.prog.mayEnter) = true := by kernel_rfl
theorem fact6x26 : ((Rows.contourGrowsRow.lifted == Tryz.pinned.checked.prog.liftsFinal)) = true := by kernel_rfl
theorem fact6x27 : ((Tryz.pinned.checked.prog.make == some Rows.contourGrowsRow.make)) = true := by kernel_rfl
theorem fact6x28 : ((Rows.contourGrowsRow.kinds == (if Rows.contourGrowsRow.domain.isEmpty then [] else Tryz.f6.params.toList.map fun t => match Tryz.pinned.checked.prog.underlying t with | some (.int k) => some k | _ => none))) = true := by kernel_rfl
theorem fact6x29 : ((Rows.contourGrowsRow.pinned == Rows.contourGrowsRow.pinnedBy)) = true := by kernel_rfl
theorem fact6x30 : ((Rows.contourGrowsRow.veiled == (Tryz.f6.params.toList ++ Rows.contourGrowsSpec.plain.varTypes Tryz.pinned.checked.prog ++ Tryz.f6.resultTypes.toList).any (Tryz.pinned.checked.prog.veiledRec ·))) = true := by kernel_rfl
theorem fact6x31 : (Rows.contourGrowsRow.veiledFits Tryz.pinned.checked.prog Tryz.f6.params.toList (Tryz.f6.params.toList ++ Rows.contourGrowsSpec.plain.varTypes Tryz.pinned.checked.prog ++ Tryz.f6.resultTypes.toList)) = true := by kernel_rfl
theorem facts6 : joinedFacts Tryz.pinned.checked.prog 6 Tryz.f6 Rows.contourGrowsSpec Rows.contourGrowsRow = true := (band (band (band (band (band (band (band (band (band (band (band (band (band (band (band (band (band (band (band (band (band (band (band (band (band (band (band (band (band (band (band fact6x0 fact6x1) fact6x2) fact6x3) fact6x4) fact6x5) fact6x6) fact6x7) fact6x8) fact6x9) fact6x10) fact6x11) fact6x12) fact6x13) fact6x14) fact6x15) fact6x16) fact6x17) fact6x18) fact6x19) fact6x20) fact6x21) fact6x22) fact6x23) fact6x24) fact6x25) fact6x26) fact6x27) fact6x28) fact6x29) fact6x30) fact6x31)
theorem named6 : Tryz.pinned.checked.prog.funcNamed Rows.contourGrowsRow.func = some 6 := by kernel_rfl
theorem inst6 : Tryz.f6.isInstance Tryz.pinned.checked.prog Rows.contourGrowsRow.origin Rows.contourGrowsRow.targs := of_decide_eq_true (by kernel_rfl)
theorem wrap6 : Tryz.f6.isWrapper Tryz.pinned.checked.prog Rows.contourGrowsRow.wrapper Rows.contourGrowsRow.mainSum := by
 unfold Func.isWrapper
 first | (rw [if_pos (by decide +kernel)]; kernel_rfl) | (rw [if_neg (by decide +kernel)]; exact ⟨rfl, rfl⟩)
end Go.Proofs.YthcpfignhalffaaGreatDoor
