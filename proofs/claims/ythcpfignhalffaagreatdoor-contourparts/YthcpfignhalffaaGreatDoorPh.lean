/-
 A part of the proof of the statement that the claim names: see the last file.
-/
import Derived.Test.YthcpfignhalffaaGreatDoorPg
namespace Go.Proofs.YthcpfignhalffaaGreatDoor
open Go
set_option maxRecDepth 100000
theorem band {a b : Bool} (ha : a = true) (hb : b = true) : (a && b) = true := by rw [ha, hb]; rfl
theorem fact11x0 : (Rows.contourPartsRow.wf (OpenSpec.ofChange Rows.contourPartsSpec)) = true := by kernel_rfl
theorem fact11x1 : (laidOutB Tryz.pinned.checked.prog) = true := by kernel_rfl
theorem fact11x2 : (mapsRowed Tryz.pinned.checked.prog) = true := by kernel_rfl
theorem fact11x3 : (Tryz.f11.params.all (Tryz.pinned.checked.prog.readableRec ·)) = true := by kernel_rfl
theorem fact11x4 : (namedTie Tryz.pinned.checked.prog Rows.contourPartsRow.named Rows.contourPartsSpec.vars) = true := by kernel_rfl
theorem fact11x5 : ((Rows.contourPartsRow.stops == [])) = true := by kernel_rfl
theorem fact11x6 : ((Tryz.pinned.checked.prog.stops == [])) = true := by kernel_rfl
theorem fact11x7 : ((Rows.contourPartsRow.knobs == [])) = true := by kernel_rfl
theorem fact11x8 : ((Tryz.pinned.checked.prog.stopKnobs == [])) = true := by kernel_rfl
theorem fact11x9 : ((Rows.contourPartsRow.inPlace == Tryz.pinned.checked.prog.inPlace 11)) = true := by kernel_rfl
theorem fact11x10 : ((Rows.contourPartsRow.unfollowed == Tryz.pinned.checked.prog.unfollowed 11)) = true := by kernel_rfl
theorem fact11x11 : ((Rows.contourPartsRow.recurses == Tryz.pinned.checked.prog.recurses 11)) = true := by kernel_rfl
theorem fact11x12 : ((Rows.contourPartsRow.named == Tryz.pinned.checked.prog.varsNamed 11)) = true := by kernel_rfl
theorem fact11x13 : ((Rows.contourPartsRow.maps == (Tryz.f11.params.toList ++ Rows.contourPartsSpec.plain.varTypes Tryz.pinned.checked.prog).any (Tryz.pinned.checked.prog.mapsRec ·))) = true := by kernel_rfl
theorem fact11x14 : ((Rows.contourPartsRow.ifaces == (Tryz.f11.params.toList ++ Rows.contourPartsSpec.plain.varTypes Tryz.pinned.checked.prog).any (Tryz.pinned.checked.prog.ifacesRec ·))) = true := by kernel_rfl
theorem fact11x15 : ((Rows.contourPartsRow.mapsOut == Tryz.pinned.checked.prog.mapsAmong Tryz.f11.resultTypes.toList)) = true := by kernel_rfl
theorem fact11x16 : ((Rows.contourPartsRow.loops == (Tryz.f11.params.toList ++ Rows.contourPartsSpec.plain.varTypes Tryz.pinned.checked.prog).any (Tryz.pinned.checked.prog.loopsFrom ·))) = true := by kernel_rfl
theorem fact11x17 : ((Rows.contourPartsRow.wideKeys == (Tryz.f11.params.toList ++ Rows.contourPartsSpec.plain.varTypes Tryz.pinned.checked.prog ++ Tryz.f11.resultTypes.toList).any (Tryz.pinned.checked.prog.wideKeysFrom ·))) = true := by kernel_rfl
theorem fact11x18 : (Rows.contourPartsSpec.vars.all (Tryz.pinned.checked.prog.varReadable ·)) = true := by kernel_rfl
theorem fact11x19 : (Tryz.f11.resultTypes.all (fun t => Tryz.pinned.checked.prog.readableRec t && decide (t < Tryz.pinned.checked.prog.types.size))) = true := by kernel_rfl
theorem fact11x20 : ((Rows.contourPartsRow.ifacesOut == Tryz.f11.resultTypes.toList.any (Tryz.pinned.checked.prog.ifacesRec ·))) = true := by kernel_rfl
theorem fact11x21 : ((Rows.contourPartsRow.loopsOut == Tryz.f11.resultTypes.toList.any (Tryz.pinned.checked.prog.loopsFrom ·))) = true := by kernel_rfl
theorem fact11x22 : ((Rows.contourPartsRow.plainKeys == Tryz.pinned.checked.prog.plainKeys)) = true := by kernel_rfl
theorem fact11x23 : (Rows.contourPartsRow.shortTexts.isNone) = true := by kernel_rfl
theorem fact11x24 : (Tryz.pinned.checked.prog.stopsHeard) = true := by kernel_rfl
theorem fact11x25 : (Tryz.pinned.checked.prog.mayEnter) = true := by kernel_rfl
theorem fact11x26 : ((Rows.contourPartsRow.lifted == Tryz.pinned.checked.prog.liftsFinal)) = true := by kernel_rfl
theorem fact11x27 : ((Tryz.pinned.checked.prog.make == some Rows.contourPartsRow.make)) = true := by kernel_rfl
theorem fact11x28 : ((Rows.contourPartsRow.kinds == (if Rows.contourPartsRow.domain.isEmpty then [] else Tryz.f11.params.toList.map fun t => match Tryz.pinned.checked.prog.underlying t with | some (.int k) => some k | _ => none))) = true := by kernel_rfl
theorem fact11x29 : ((Rows.contourPartsRow.pinned == Rows.contourPartsRow.pinnedBy)) = true := by kernel_rfl
theorem fact11x30 : ((Rows.contourPartsRow.veiled == (Tryz.f11.params.toList ++ Rows.contourPartsSpec.plain.varTypes Tryz.pinned.checked.prog ++ Tryz.f11.resultTypes.toList).any (Tryz.pinned.checked.prog.veiledRec ·))) = true := by kernel_rfl
theorem fact11x31 : (Rows.contourPartsRow.veiledFits Tryz.pinned.checked.prog Tryz.f11.params.toList (Tryz.f11.params.toList ++ Rows.contourPartsSpec.plain.varTypes Tryz.pinned.checked.prog ++ Tryz.f11.resultTypes.toList)) = true := by kernel_rfl
theorem facts11 : joinedFacts Tryz.pinned.checked.prog 11 Tryz.f11 Rows.contourPartsSpec Rows.contourPartsRow = true := (band (band (band (band (band (band (band (band (band (band (band (band (band (band (band (band (band (band (band (band (band (band (band (band (band (band (band (band (band (band (band fact11x0 fact11x1) fact11x2) fact11x3) fact11x4) fact11x5) fact11x6) fact11x7) fact11x8) fact11x9) fact11x10) fact11x11) fact11x12) fact11x13) fact11x14) fact11x15) fact11x16) fact11x17) fact11x18) fact11x19) fact11x20) fact11x21) fact11x22) fact11x23) fact11x24) fact11x25) fact11x26) fact11x27) fact11x28) fact11x29) fact11x30) fact11x31)
theorem named11 : Tryz.pinned.checked.prog.funcNamed Rows.contourPartsRow.func = some 11 := by kernel_rfl
theorem inst11 : Tryz.f11.isInstance Tryz.pinned.checked.prog Rows.contourPartsRow.origin Rows.contourPartsRow.targs := of_decide_eq_true (by kernel_rfl)
theorem wrap11 : Tryz.f11.isWrapper Tryz.pinned.checked.prog Rows.contourPartsRow.wrapper Rows.contourPartsRow.mainSum := by
 unfold Func.isWrapper
 first | (rw [if_pos (by decide +kernel)]; kernel_rfl) | (rw [if_neg (by decide +kernel)]; exact ⟨rfl, rfl⟩)
end Go.Proofs.YthcpfignhalffaaGreatDoor
