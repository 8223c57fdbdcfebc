/-
  A part of the proof of the statement that the claim names: see the last file.
-/
import Derived.Test.YtifnpljmjhnbaaaGreatDoorR8
namespace Go.Proofs.YtifnpljmjhnbaaaGreatDoor
open Go
set_option maxRecDepth 100000


theorem band {a b : Bool} (ha : a = true) (hb : b = true) : (a && b) = true := by rw [ha, hb]; rfl
theorem fact4x0 : (Rows.monitorRecordsRow.wf (OpenSpec.ofChange Rows.monitorRecordsSpec)) = true := by kernel_rfl
theorem fact4x1 : (laidOutB Tryz.pinned.checked.prog) = true := by kernel_rfl
theorem fact4x2 : (mapsRowed Tryz.pinned.checked.prog) = true := by kernel_rfl
theorem fact4x3 : (Tryz.f4.params.all (Tryz.pinned.checked.prog.readableRec ·)) = true := by kernel_rfl
theorem fact4x4 : (namedTie Tryz.pinned.checked.prog Rows.monitorRecordsRow.named Rows.monitorRecordsSpec.vars) = true := by kernel_rfl
theorem fact4x5 : ((Rows.monitorRecordsRow.stops == [])) = true := by kernel_rfl
theorem fact4x6 : ((Tryz.pinned.checked.prog.stops == [])) = true := by kernel_rfl
theorem fact4x7 : ((Rows.monitorRecordsRow.knobs == [])) = true := by kernel_rfl
theorem fact4x8 : ((Tryz.pinned.checked.prog.stopKnobs == [])) = true := by kernel_rfl
theorem fact4x9 : ((Rows.monitorRecordsRow.inPlace == Tryz.pinned.checked.prog.inPlace 4)) = true := by kernel_rfl
theorem fact4x10 : ((Rows.monitorRecordsRow.unfollowed == Tryz.pinned.checked.prog.unfollowed 4)) = true := by kernel_rfl
theorem fact4x11 : ((Rows.monitorRecordsRow.recurses == Tryz.pinned.checked.prog.recurses 4)) = true := by kernel_rfl
theorem fact4x12 : ((Rows.monitorRecordsRow.named == Tryz.pinned.checked.prog.varsNamed 4)) = true := by kernel_rfl
theorem fact4x13 : ((Rows.monitorRecordsRow.maps == (Tryz.f4.params.toList ++ Rows.monitorRecordsSpec.plain.varTypes Tryz.pinned.checked.prog).any (Tryz.pinned.checked.prog.mapsRec ·))) = true := by kernel_rfl
theorem fact4x14 : ((Rows.monitorRecordsRow.ifaces == (Tryz.f4.params.toList ++ Rows.monitorRecordsSpec.plain.varTypes Tryz.pinned.checked.prog).any (Tryz.pinned.checked.prog.ifacesRec ·))) = true := by kernel_rfl
theorem fact4x15 : ((Rows.monitorRecordsRow.mapsOut == Tryz.pinned.checked.prog.mapsAmong Tryz.f4.resultTypes.toList)) = true := by kernel_rfl
theorem fact4x16 : ((Rows.monitorRecordsRow.loops == (Tryz.f4.params.toList ++ Rows.monitorRecordsSpec.plain.varTypes Tryz.pinned.checked.prog).any (Tryz.pinned.checked.prog.loopsFrom ·))) = true := by kernel_rfl
theorem fact4x17 : ((Rows.monitorRecordsRow.wideKeys == (Tryz.f4.params.toList ++ Rows.monitorRecordsSpec.plain.varTypes Tryz.pinned.checked.prog ++ Tryz.f4.resultTypes.toList).any (Tryz.pinned.checked.prog.wideKeysFrom ·))) = true := by kernel_rfl
theorem fact4x18 : (Rows.monitorRecordsSpec.vars.all (Tryz.pinned.checked.prog.varReadable ·)) = true := by kernel_rfl
theorem fact4x19 : (Tryz.f4.resultTypes.all (fun t => Tryz.pinned.checked.prog.readableRec t && decide (t < Tryz.pinned.checked.prog.types.size))) = true := by kernel_rfl
theorem fact4x20 : ((Rows.monitorRecordsRow.ifacesOut == Tryz.f4.resultTypes.toList.any (Tryz.pinned.checked.prog.ifacesRec ·))) = true := by kernel_rfl
theorem fact4x21 : ((Rows.monitorRecordsRow.loopsOut == Tryz.f4.resultTypes.toList.any (Tryz.pinned.checked.prog.loopsFrom ·))) = true := by kernel_rfl
theorem fact4x22 : ((Rows.monitorRecordsRow.plainKeys == Tryz.pinned.checked.prog.plainKeys)) = true := by kernel_rfl
theorem fact4x23 : (Rows.monitorRecordsRow.shortTexts.isNone) = true := by kernel_rfl
theorem fact4x24 : (Tryz.pinned.checked.prog.stopsHeard) = true := by kernel_rfl
theorem fact4x25 : (Tryz.pinned.checked.prog.mayEnter) = true := by kernel_rfl
theorem fact4x26 : ((Rows.monitorRecordsRow.lifted == Tryz.pinned.checked.prog.liftsFinal)) = true := by kernel_rfl
theorem fact4x27 : ((Tryz.pinned.checked.prog.make == some Rows.monitorRecordsRow.make)) = true := by kernel_rfl
theorem fact4x28 : ((Rows.monitorRecordsRow.kinds == (if Rows.monitorRecordsRow.domain.isEmpty then [] else Tryz.f4.params.toList.map fun t => match Tryz.pinned.checked.prog.underlying t with | some (.int k) => some k | _ => none))) = true := by kernel_rfl
theorem fact4x29 : ((Rows.monitorRecordsRow.pinned == Rows.monitorRecordsRow.pinnedBy)) = true := by kernel_rfl
theorem fact4x30 : ((Rows.monitorRecordsRow.veiled == (Tryz.f4.params.toList ++ Rows.monitorRecordsSpec.plain.varTypes Tryz.pinned.checked.prog ++ Tryz.f4.resultTypes.toList).any (Tryz.pinned.checked.prog.veiledRec ·))) = true := by kernel_rfl
theorem fact4x31 : (Rows.monitorRecordsRow.veiledFits Tryz.pinned.checked.prog Tryz.f4.params.toList (Tryz.f4.params.toList ++ Rows.monitorRecordsSpec.plain.varTypes Tryz.pinned.checked.prog ++ Tryz.f4.resultTypes.toList)) = true := by kernel_rfl
theorem facts4 : joinedFacts Tryz.pinned.checked.prog 4 Tryz.f4 Rows.monitorRecordsSpec Rows.monitorRecordsRow = true := (band (band (band (band (band (band (band (band (band (band (band (band (band (band (band (band (band (band (band (band (band (band (band (band (band (band (band (band (band (band (band fact4x0 fact4x1) fact4x2) fact4x3) fact4x4) fact4x5) fact4x6) fact4x7) fact4x8) fact4x9) fact4x10) fact4x11) fact4x12) fact4x13) fact4x14) fact4x15) fact4x16) fact4x17) fact4x18) fact4x19) fact4x20) fact4x21) fact4x22) fact4x23) fact4x24) fact4x25) fact4x26) fact4x27) fact4x28) fact4x29) fact4x30) fact4x31)
theorem named4 : Tryz.pinned.checked.prog.funcNamed Rows.monitorRecordsRow.func = some 4 := by kernel_rfl
theorem inst4 : Tryz.f4.isInstance Tryz.pinned.checked.prog Rows.monitorRecordsRow.origin Rows.monitorRecordsRow.targs := of_decide_eq_true (by kernel_rfl)
theorem wrap4 : Tryz.f4.isWrapper Tryz.pinned.checked.prog Rows.monitorRecordsRow.wrapper Rows.monitorRecordsRow.mainSum := by
  unfold Func.isWrapper
  first | (rw [if_pos (by decide +kernel)]; kernel_rfl) | (rw [if_neg (by decide +kernel)]; exact ⟨rfl, rfl⟩)
end Go.Proofs.YtifnpljmjhnbaaaGreatDoor
