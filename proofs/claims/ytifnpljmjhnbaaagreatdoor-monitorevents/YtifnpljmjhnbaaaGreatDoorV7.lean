/-
  A part of the proof of the statement that the claim names: see the last file.
-/
import Derived.Test.YtifnpljmjhnbaaaGreatDoorV6
namespace Go.Proofs.YtifnpljmjhnbaaaGreatDoor
open Go
set_option maxRecDepth 100000


theorem band {a b : Bool} (ha : a = true) (hb : b = true) : (a && b) = true := by rw [ha, hb]; rfl
theorem fact5x0 : (Rows.monitorEventsRow.wf (OpenSpec.ofChange Rows.monitorEventsSpec)) = true := by kernel_rfl
theorem fact5x1 : (laidOutB Tryz.pinned.checked.prog) = true := by kernel_rfl
theorem fact5x2 : (mapsRowed Tryz.pinned.checked.prog) = true := by kernel_rfl
theorem fact5x3 : (Tryz.f5.params.all (Tryz.pinned.checked.prog.readableRec ·)) = true := by kernel_rfl
theorem fact5x4 : (namedTie Tryz.pinned.checked.prog Rows.monitorEventsRow.named Rows.monitorEventsSpec.vars) = true := by kernel_rfl
theorem fact5x5 : ((Rows.monitorEventsRow.stops == [])) = true := by kernel_rfl
theorem fact5x6 : ((Tryz.pinned.checked.prog.stops == [])) = true := by kernel_rfl
theorem fact5x7 : ((Rows.monitorEventsRow.knobs == [])) = true := by kernel_rfl
theorem fact5x8 : ((Tryz.pinned.checked.prog.stopKnobs == [])) = true := by kernel_rfl
theorem fact5x9 : ((Rows.monitorEventsRow.inPlace == Tryz.pinned.checked.prog.inPlace 5)) = true := by kernel_rfl
theorem fact5x10 : ((Rows.monitorEventsRow.unfollowed == Tryz.pinned.checked.prog.unfollowed 5)) = true := by kernel_rfl
theorem fact5x11 : ((Rows.monitorEventsRow.recurses == Tryz.pinned.checked.prog.recurses 5)) = true := by kernel_rfl
theorem fact5x12 : ((Rows.monitorEventsRow.named == Tryz.pinned.checked.prog.varsNamed 5)) = true := by kernel_rfl
theorem fact5x13 : ((Rows.monitorEventsRow.maps == (Tryz.f5.params.toList ++ Rows.monitorEventsSpec.plain.varTypes Tryz.pinned.checked.prog).any (Tryz.pinned.checked.prog.mapsRec ·))) = true := by kernel_rfl
theorem fact5x14 : ((Rows.monitorEventsRow.ifaces == (Tryz.f5.params.toList ++ Rows.monitorEventsSpec.plain.varTypes Tryz.pinned.checked.prog).any (Tryz.pinned.checked.prog.ifacesRec ·))) = true := by kernel_rfl
theorem fact5x15 : ((Rows.monitorEventsRow.mapsOut == Tryz.pinned.checked.prog.mapsAmong Tryz.f5.resultTypes.toList)) = true := by kernel_rfl
theorem fact5x16 : ((Rows.monitorEventsRow.loops == (Tryz.f5.params.toList ++ Rows.monitorEventsSpec.plain.varTypes Tryz.pinned.checked.prog).any (Tryz.pinned.checked.prog.loopsFrom ·))) = true := by kernel_rfl
theorem fact5x17 : ((Rows.monitorEventsRow.wideKeys == (Tryz.f5.params.toList ++ Rows.monitorEventsSpec.plain.varTypes Tryz.pinned.checked.prog ++ Tryz.f5.resultTypes.toList).any (Tryz.pinned.checked.prog.wideKeysFrom ·))) = true := by kernel_rfl
theorem fact5x18 : (Rows.monitorEventsSpec.vars.all (Tryz.pinned.checked.prog.varReadable ·)) = true := by kernel_rfl
theorem fact5x19 : (Tryz.f5.resultTypes.all (fun t => Tryz.pinned.checked.prog.readableRec t && decide (t < Tryz.pinned.checked.prog.types.size))) = true := by kernel_rfl
theorem fact5x20 : ((Rows.monitorEventsRow.ifacesOut == Tryz.f5.resultTypes.toList.any (Tryz.pinned.checked.prog.ifacesRec ·))) = true := by kernel_rfl
theorem fact5x21 : ((Rows.monitorEventsRow.loopsOut == Tryz.f5.resultTypes.toList.any (Tryz.pinned.checked.prog.loopsFrom ·))) = true := by kernel_rfl
theorem fact5x22 : ((Rows.monitorEventsRow.plainKeys == Tryz.pinned.checked.prog.plainKeys)) = true := by kernel_rfl
theorem fact5x23 : (Rows.monitorEventsRow.shortTexts.isNone) = true := by kernel_rfl
theorem fact5x24 : (Tryz.pinned.checked.prog.stopsHeard) = true := by kernel_rfl
theorem fact5x25 : (Tryz.pinned.checked.prog.mayEnter) = true := by kernel_rfl
theorem fact5x26 : ((Rows.monitorEventsRow.lifted == Tryz.pinned.checked.prog.liftsFinal)) = true := by kernel_rfl
theorem fact5x27 : ((Tryz.pinned.checked.prog.make == some Rows.monitorEventsRow.make)) = true := by kernel_rfl
theorem fact5x28 : ((Rows.monitorEventsRow.kinds == (if Rows.monitorEventsRow.domain.isEmpty then [] else Tryz.f5.params.toList.map fun t => match Tryz.pinned.checked.prog.underlying t with | some (.int k) => some k | _ => none))) = true := by kernel_rfl
theorem fact5x29 : ((Rows.monitorEventsRow.pinned == Rows.monitorEventsRow.pinnedBy)) = true := by kernel_rfl
theorem fact5x30 : ((Rows.monitorEventsRow.veiled == (Tryz.f5.params.toList ++ Rows.monitorEventsSpec.plain.varTypes Tryz.pinned.checked.prog ++ Tryz.f5.resultTypes.toList).any (Tryz.pinned.checked.prog.veiledRec ·))) = true := by kernel_rfl
theorem fact5x31 : (Rows.monitorEventsRow.veiledFits Tryz.pinned.checked.prog Tryz.f5.params.toList (Tryz.f5.params.toList ++ Rows.monitorEventsSpec.plain.varTypes Tryz.pinned.checked.prog ++ Tryz.f5.resultTypes.toList)) = true := by kernel_rfl
theorem facts5 : joinedFacts Tryz.pinned.checked.prog 5 Tryz.f5 Rows.monitorEventsSpec Rows.monitorEventsRow = true := (band (band (band (band (band (band (band (band (band (band (band (band (band (band (band (band (band (band (band (band (band (band (band (band (band (band (band (band (band (band (band fact5x0 fact5x1) fact5x2) fact5x3) fact5x4) fact5x5) fact5x6) fact5x7) fact5x8) fact5x9) fact5x10) fact5x11) fact5x12) fact5x13) fact5x14) fact5x15) fact5x16) fact5x17) fact5x18) fact5x19) fact5x20) fact5x21) fact5x22) fact5x23) fact5x24) fact5x25) fact5x26) fact5x27) fact5x28) fact5x29) fact5x30) fact5x31)
theorem named5 : Tryz.pinned.checked.prog.funcNamed Rows.monitorEventsRow.func = some 5 := by kernel_rfl
theorem inst5 : Tryz.f5.isInstance Tryz.pinned.checked.prog Rows.monitorEventsRow.origin Rows.monitorEventsRow.targs := of_decide_eq_true (by kernel_rfl)
theorem wrap5 : Tryz.f5.isWrapper Tryz.pinned.checked.prog Rows.monitorEventsRow.wrapper Rows.monitorEventsRow.mainSum := by
  unfold Func.isWrapper
  first | (rw [if_pos (by decide +kernel)]; kernel_rfl) | (rw [if_neg (by decide +kernel)]; exact ⟨rfl, rfl⟩)
end Go.Proofs.YtifnpljmjhnbaaaGreatDoor
