/-
  A part of the proof of the statement that the claim names: see the last file.
-/
import Derived.Test.YtifnpljmjhnbaaaGreatDoorTa
namespace Go.Proofs.YtifnpljmjhnbaaaGreatDoor
open Go
set_option maxRecDepth 100000


theorem band {a b : Bool} (ha : a = true) (hb : b = true) : (a && b) = true := by rw [ha, hb]; rfl
theorem fact8x0 : (Rows.monitorMatchesRow.wf (OpenSpec.ofChange Rows.monitorMatchesSpec)) = true := by kernel_rfl
theorem fact8x1 : (laidOutB Tryz.pinned.checked.prog) = true := by kernel_rfl
theorem fact8x2 : (mapsRowed Tryz.pinned.checked.prog) = true := by kernel_rfl
theorem fact8x3 : (Tryz.f8.params.all (Tryz.pinned.checked.prog.readableRec ·)) = true := by kernel_rfl
theorem fact8x4 : (namedTie Tryz.pinned.checked.prog Rows.monitorMatchesRow.named Rows.monitorMatchesSpec.vars) = true := by kernel_rfl
theorem fact8x5 : ((Rows.monitorMatchesRow.stops == [])) = true := by kernel_rfl
theorem fact8x6 : ((Tryz.pinned.checked.prog.stops == [])) = true := by kernel_rfl
theorem fact8x7 : ((Rows.monitorMatchesRow.knobs == [])) = true := by kernel_rfl
theorem fact8x8 : ((Tryz.pinned.checked.prog.stopKnobs == [])) = true := by kernel_rfl
theorem fact8x9 : ((Rows.monitorMatchesRow.inPlace == Tryz.pinned.checked.prog.inPlace 8)) = true := by kernel_rfl
theorem fact8x10 : ((Rows.monitorMatchesRow.unfollowed == Tryz.pinned.checked.prog.unfollowed 8)) = true := by kernel_rfl
theorem fact8x11 : ((Rows.monitorMatchesRow.recurses == Tryz.pinned.checked.prog.recurses 8)) = true := by kernel_rfl
theorem fact8x12 : ((Rows.monitorMatchesRow.named == Tryz.pinned.checked.prog.varsNamed 8)) = true := by kernel_rfl
theorem fact8x13 : ((Rows.monitorMatchesRow.maps == (Tryz.f8.params.toList ++ Rows.monitorMatchesSpec.plain.varTypes Tryz.pinned.checked.prog).any (Tryz.pinned.checked.prog.mapsRec ·))) = true := by kernel_rfl
theorem fact8x14 : ((Rows.monitorMatchesRow.ifaces == (Tryz.f8.params.toList ++ Rows.monitorMatchesSpec.plain.varTypes Tryz.pinned.checked.prog).any (Tryz.pinned.checked.prog.ifacesRec ·))) = true := by kernel_rfl
theorem fact8x15 : ((Rows.monitorMatchesRow.mapsOut == Tryz.pinned.checked.prog.mapsAmong Tryz.f8.resultTypes.toList)) = true := by kernel_rfl
theorem fact8x16 : ((Rows.monitorMatchesRow.loops == (Tryz.f8.params.toList ++ Rows.monitorMatchesSpec.plain.varTypes Tryz.pinned.checked.prog).any (Tryz.pinned.checked.prog.loopsFrom ·))) = true := by kernel_rfl
theorem fact8x17 : ((Rows.monitorMatchesRow.wideKeys == (Tryz.f8.params.toList ++ Rows.monitorMatchesSpec.plain.varTypes Tryz.pinned.checked.prog ++ Tryz.f8.resultTypes.toList).any (Tryz.pinned.checked.prog.wideKeysFrom ·))) = true := by kernel_rfl
theorem fact8x18 : (Rows.monitorMatchesSpec.vars.all (Tryz.pinned.checked.prog.varReadable ·)) = true := by kernel_rfl
theorem fact8x19 : (Tryz.f8.resultTypes.all (fun t => Tryz.pinned.checked.prog.readableRec t && decide (t < Tryz.pinned.checked.prog.types.size))) = true := by kernel_rfl
theorem fact8x20 : ((Rows.monitorMatchesRow.ifacesOut == Tryz.f8.resultTypes.toList.any (Tryz.pinned.checked.prog.ifacesRec ·))) = true := by kernel_rfl
theorem fact8x21 : ((Rows.monitorMatchesRow.loopsOut == Tryz.f8.resultTypes.toList.any (Tryz.pinned.checked.prog.loopsFrom ·))) = true := by kernel_rfl
theorem fact8x22 : ((Rows.monitorMatchesRow.plainKeys == Tryz.pinned.checked.prog.plainKeys)) = true := by kernel_rfl
theorem fact8x23 : (Rows.monitorMatchesRow.shortTexts.isNone) = true := by kernel_rfl
theorem fact8x24 : (Tryz.pinned.checked.prog.stopsHeard) = true := by kernel_rfl
theorem fact8x25 : (Tryz.pinned.checked.prog.mayEnter) = true := by kernel_rfl
theorem fact8x26 : ((Rows.monitorMatchesRow.lifted == Tryz.pinned.checked.prog.liftsFinal)) = true := by kernel_rfl
theorem fact8x27 : ((Tryz.pinned.checked.prog.make == some Rows.monitorMatchesRow.make)) = true := by kernel_rfl
theorem fact8x28 : ((Rows.monitorMatchesRow.kinds == (if Rows.monitorMatchesRow.domain.isEmpty then [] else Tryz.f8.params.toList.map fun t => match Tryz.pinned.checked.prog.underlying t with | some (.int k) => some k | _ => none))) = true := by kernel_rfl
theorem fact8x29 : ((Rows.monitorMatchesRow.pinned == Rows.monitorMatchesRow.pinnedBy)) = true := by kernel_rfl
theorem fact8x30 : ((Rows.monitorMatchesRow.veiled == (Tryz.f8.params.toList ++ Rows.monitorMatchesSpec.plain.varTypes Tryz.pinned.checked.prog ++ Tryz.f8.resultTypes.toList).any (Tryz.pinned.checked.prog.veiledRec ·))) = true := by kernel_rfl
theorem fact8x31 : (Rows.monitorMatchesRow.veiledFits Tryz.pinned.checked.prog Tryz.f8.params.toList (Tryz.f8.params.toList ++ Rows.monitorMatchesSpec.plain.varTypes Tryz.pinned.checked.prog ++ Tryz.f8.resultTypes.toList)) = true := by kernel_rfl
theorem facts8 : joinedFacts Tryz.pinned.checked.prog 8 Tryz.f8 Rows.monitorMatchesSpec Rows.monitorMatchesRow = true := (band (band (band (band (band (band (band (band (band (band (band (band (band (band (band (band (band (band (band (band (band (band (band (band (band (band (band (band (band (band (band fact8x0 fact8x1) fact8x2) fact8x3) fact8x4) fact8x5) fact8x6) fact8x7) fact8x8) fact8x9) fact8x10) fact8x11) fact8x12) fact8x13) fact8x14) fact8x15) fact8x16) fact8x17) fact8x18) fact8x19) fact8x20) fact8x21) fact8x22) fact8x23) fact8x24) fact8x25) fact8x26) fact8x27) fact8x28) fact8x29) fact8x30) fact8x31)
theorem named8 : Tryz.pinned.checked.prog.funcNamed Rows.monitorMatchesRow.func = some 8 := by kernel_rfl
theorem inst8 : Tryz.f8.isInstance Tryz.pinned.checked.prog Rows.monitorMatchesRow.origin Rows.monitorMatchesRow.targs := of_decide_eq_true (by kernel_rfl)
theorem wrap8 : Tryz.f8.isWrapper Tryz.pinned.checked.prog Rows.monitorMatchesRow.wrapper Rows.monitorMatchesRow.mainSum := by
  unfold Func.isWrapper
  first | (rw [if_pos (by decide +kernel)]; kernel_rfl) | (rw [if_neg (by decide +kernel)]; exact ⟨rfl, rfl⟩)
end Go.Proofs.YtifnpljmjhnbaaaGreatDoor
