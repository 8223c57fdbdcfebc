/-
  A part of the proof of the statement that the claim names: see the last file.
-/
import Derived.Test.YtmlglimahbjgbaaGreatDoorLh
namespace Go.Proofs.YtmlglimahbjgbaaGreatDoor
open Go
set_option maxRecDepth 100000

/-! # The row's closed facts, one by one -/

theorem band {a b : Bool} (ha : a = true) (hb : b = true) : (a && b) = true := by rw [ha, hb]; rfl
theorem fact8x0 : (Rows.townReturnsRow.wf (OpenSpec.ofChange Rows.townReturnsSpec)) = true := by kernel_rfl
theorem fact8x1 : (laidOutB Tryz.pinned.checked.prog) = true := by kernel_rfl
theorem fact8x2 : (mapsRowed Tryz.pinned.checked.prog) = true := by kernel_rfl
theorem fact8x3 : (Tryz.f8.params.all (Tryz.pinned.checked.prog.readableRec ·)) = true := by kernel_rfl
theorem fact8x4 : (namedTie Tryz.pinned.checked.prog Rows.townReturnsRow.named Rows.townReturnsSpec.vars) = true := by kernel_rfl
theorem fact8x5 : ((Rows.townReturnsRow.stops == [])) = true := by kernel_rfl
theorem fact8x6 : ((Tryz.pinned.checked.prog.stops == [])) = true := by kernel_rfl
theorem fact8x7 : ((Rows.townReturnsRow.knobs == [])) = true := by kernel_rfl
theorem fact8x8 : ((Tryz.pinned.checked.prog.stopKnobs == [])) = true := by kernel_rfl
theorem fact8x9 : ((Rows.townReturnsRow.inPlace == Tryz.pinned.checked.prog.inPlace 8)) = true := by kernel_rfl
theorem fact8x10 : ((Rows.townReturnsRow.unfollowed == Tryz.pinned.checked.prog.unfollowed 8)) = true := by kernel_rfl
theorem fact8x11 : ((Rows.townReturnsRow.recurses == Tryz.pinned.checked.prog.recurses 8)) = true := by kernel_rfl
theorem fact8x12 : ((Rows.townReturnsRow.named == Tryz.pinned.checked.prog.varsNamed 8)) = true := by kernel_rfl
theorem fact8x13 : ((Rows.townReturnsRow.maps == (Tryz.f8.params.toList ++ Rows.townReturnsSpec.plain.varTypes Tryz.pinned.checked.prog).any (Tryz.pinned.checked.prog.mapsRec ·))) = true := by kernel_rfl
theorem fact8x14 : ((Rows.townReturnsRow.ifaces == (Tryz.f8.params.toList ++ Rows.townReturnsSpec.plain.varTypes Tryz.pinned.checked.prog).any (Tryz.pinned.checked.prog.ifacesRec ·))) = true := by kernel_rfl
theorem fact8x15 : ((Rows.townReturnsRow.mapsOut == Tryz.pinned.checked.prog.mapsAmong Tryz.f8.resultTypes.toList)) = true := by kernel_rfl
theorem fact8x16 : ((Rows.townReturnsRow.loops == (Tryz.f8.params.toList ++ Rows.townReturnsSpec.plain.varTypes Tryz.pinned.checked.prog).any (Tryz.pinned.checked.prog.loopsFrom ·))) = true := by kernel_rfl
theorem fact8x17 : ((Rows.townReturnsRow.wideKeys == (Tryz.f8.params.toList ++ Rows.townReturnsSpec.plain.varTypes Tryz.pinned.checked.prog ++ Tryz.f8.resultTypes.toList).any (Tryz.pinned.checked.prog.wideKeysFrom ·))) = true := by kernel_rfl
theorem fact8x18 : (Rows.townReturnsSpec.vars.all (Tryz.pinned.checked.prog.varReadable ·)) = true := by kernel_rfl
theorem fact8x19 : (Tryz.f8.resultTypes.all (fun t => Tryz.pinned.checked.prog.readableRec t && decide (t < Tryz.pinned.checked.prog.types.size))) = true := by kernel_rfl
theorem fact8x20 : ((Rows.townReturnsRow.ifacesOut == Tryz.f8.resultTypes.toList.any (Tryz.pinned.checked.prog.ifacesRec ·))) = true := by kernel_rfl
theorem fact8x21 : ((Rows.townReturnsRow.loopsOut == Tryz.f8.resultTypes.toList.any (Tryz.pinned.checked.prog.loopsFrom ·))) = true := by kernel_rfl
theorem fact8x22 : ((Rows.townReturnsRow.plainKeys == Tryz.pinned.checked.prog.plainKeys)) = true := by kernel_rfl
theorem fact8x23 : (Rows.townReturnsRow.shortTexts.isNone) = true := by kernel_rfl
theorem fact8x24 : (Tryz.pinned.checked.prog.stopsHeard) = true := by kernel_rfl
theorem fact8x25 : (Tryz.pinned.checked.prog.mayEnter) = true := by kernel_rfl
theorem fact8x26 : ((Rows.townReturnsRow.lifted == Tryz.pinned.checked.prog.liftsFinal)) = true := by kernel_rfl
theorem fact8x27 : ((Tryz.pinned.checked.prog.make == some Rows.townReturnsRow.make)) = true := by kernel_rfl
theorem fact8x28 : ((Rows.townReturnsRow.kinds == (if Rows.townReturnsRow.domain.isEmpty then [] else Tryz.f8.params.toList.map fun t => match Tryz.pinned.checked.prog.underlying t with | some (.int k) => some k | _ => none))) = true := by kernel_rfl
theorem fact8x29 : ((Rows.townReturnsRow.pinned == Rows.townReturnsRow.pinnedBy)) = true := by kernel_rfl
theorem fact8x30 : ((Rows.townReturnsRow.veiled == (Tryz.f8.params.toList ++ Rows.townReturnsSpec.plain.varTypes Tryz.pinned.checked.prog ++ Tryz.f8.resultTypes.toList).any (Tryz.pinned.checked.prog.veiledRec ·))) = true := by kernel_rfl
theorem fact8x31 : (Rows.townReturnsRow.veiledFits Tryz.pinned.checked.prog Tryz.f8.params.toList (Tryz.f8.params.toList ++ Rows.townReturnsSpec.plain.varTypes Tryz.pinned.checked.prog ++ Tryz.f8.resultTypes.toList)) = true := by kernel_rfl
theorem facts8 : joinedFacts Tryz.pinned.checked.prog 8 Tryz.f8 Rows.townReturnsSpec Rows.townReturnsRow = true := (band (band (band (band (band (band (band (band (band (band (band (band (band (band (band (band (band (band (band (band (band (band (band (band (band (band (band (band (band (band (band fact8x0 fact8x1) fact8x2) fact8x3) fact8x4) fact8x5) fact8x6) fact8x7) fact8x8) fact8x9) fact8x10) fact8x11) fact8x12) fact8x13) fact8x14) fact8x15) fact8x16) fact8x17) fact8x18) fact8x19) fact8x20) fact8x21) fact8x22) fact8x23) fact8x24) fact8x25) fact8x26) fact8x27) fact8x28) fact8x29) fact8x30) fact8x31)
theorem named8 : Tryz.pinned.checked.prog.funcNamed Rows.townReturnsRow.func = some 8 := by kernel_rfl
theorem inst8 : Tryz.f8.isInstance Tryz.pinned.checked.prog Rows.townReturnsRow.origin Rows.townReturnsRow.targs := of_decide_eq_true (by kernel_rfl)
theorem wrap8 : Tryz.f8.isWrapper Tryz.pinned.checked.prog Rows.townReturnsRow.wrapper Rows.townReturnsRow.mainSum := by
  unfold Func.isWrapper
  first | (rw [if_pos (by decide +kernel)]; kernel_rfl) | (rw [if_neg (by decide +kernel)]; exact ⟨rfl, rfl⟩)
end Go.Proofs.YtmlglimahbjgbaaGreatDoor
