/-
  A part of the proof of the statement that the claim names: see the last file.
-/
import Derived.Test.YtifnpljmjhnbaaaGreatDoorS7
namespace Go.Proofs.YtifnpljmjhnbaaaGreatDoor
open Go
set_option maxRecDepth 100000


theorem band {a b : Bool} (ha : a = true) (hb : b = true) : (a && b) = true := by rw [ha, hb]; rfl
theorem fact7x0 : (Rows.monitorReasonsRow.wf (OpenSpec.ofChange Rows.monitorReasonsSpec)) = true := by kernel_rfl
theorem fact7x1 : (laidOutB Tryz.pinned.checked.prog) = true := by kernel_rfl
theorem fact7x2 : (mapsRowed Tryz.pinned.checked.prog) = true := by kernel_rfl
theorem fact7x3 : (Tryz.f7.params.all (Tryz.pinned.checked.prog.readableRec ·)) = true := by kernel_rfl
theorem fact7x4 : (namedTie Tryz.pinned.checked.prog Rows.monitorReasonsRow.named Rows.monitorReasonsSpec.vars) = true := by kernel_rfl
theorem fact7x5 : ((Rows.monitorReasonsRow.stops == [])) = true := by kernel_rfl
theorem fact7x6 : ((Tryz.pinned.checked.prog.stops == [])) = true := by kernel_rfl
theorem fact7x7 : ((Rows.monitorReasonsRow.knobs == [])) = true := by kernel_rfl
theorem fact7x8 : ((Tryz.pinned.checked.prog.stopKnobs == [])) = true := by kernel_rfl
theorem fact7x9 : ((Rows.monitorReasonsRow.inPlace == Tryz.pinned.checked.prog.inPlace 7)) = true := by kernel_rfl
theorem fact7x10 : ((Rows.monitorReasonsRow.unfollowed == Tryz.pinned.checked.prog.unfollowed 7)) = true := by kernel_rfl
theorem fact7x11 : ((Rows.monitorReasonsRow.recurses == Tryz.pinned.checked.prog.recurses 7)) = true := by kernel_rfl
theorem fact7x12 : ((Rows.monitorReasonsRow.named == Tryz.pinned.checked.prog.varsNamed 7)) = true := by kernel_rfl
theorem fact7x13 : ((Rows.monitorReasonsRow.maps == (Tryz.f7.params.toList ++ Rows.monitorReasonsSpec.plain.varTypes Tryz.pinned.checked.prog).any (Tryz.pinned.checked.prog.mapsRec ·))) = true := by kernel_rfl
theorem fact7x14 : ((Rows.monitorReasonsRow.ifaces == (Tryz.f7.params.toList ++ Rows.monitorReasonsSpec.plain.varTypes Tryz.pinned.checked.prog).any (Tryz.pinned.checked.prog.ifacesRec ·))) = true := by kernel_rfl
theorem fact7x15 : ((Rows.monitorReasonsRow.mapsOut == Tryz.pinned.checked.prog.mapsAmong Tryz.f7.resultTypes.toList)) = true := by kernel_rfl
theorem fact7x16 : ((Rows.monitorReasonsRow.loops == (Tryz.f7.params.toList ++ Rows.monitorReasonsSpec.plain.varTypes Tryz.pinned.checked.prog).any (Tryz.pinned.checked.prog.loopsFrom ·))) = true := by kernel_rfl
theorem fact7x17 : ((Rows.monitorReasonsRow.wideKeys == (Tryz.f7.params.toList ++ Rows.monitorReasonsSpec.plain.varTypes Tryz.pinned.checked.prog ++ Tryz.f7.resultTypes.toList).any (Tryz.pinned.checked.prog.wideKeysFrom ·))) = true := by kernel_rfl
theorem fact7x18 : (Rows.monitorReasonsSpec.vars.all (Tryz.pinned.checked.prog.varReadable ·)) = true := by kernel_rfl
theorem fact7x19 : (Tryz.f7.resultTypes.all (fun t => Tryz.pinned.checked.prog.readableRec t && decide (t < Tryz.pinned.checked.prog.types.size))) = true := by kernel_rfl
theorem fact7x20 : ((Rows.monitorReasonsRow.ifacesOut == Tryz.f7.resultTypes.toList.any (Tryz.pinned.checked.prog.ifacesRec ·))) = true := by kernel_rfl
theorem fact7x21 : ((Rows.monitorReasonsRow.loopsOut == Tryz.f7.resultTypes.toList.any (Tryz.pinned.checked.prog.loopsFrom ·))) = true := by kernel_rfl
theorem fact7x22 : ((Rows.monitorReasonsRow.plainKeys == Tryz.pinned.checked.prog.plainKeys)) = true := by kernel_rfl
theorem fact7x23 : (Rows.monitorReasonsRow.shortTexts.isNone) = true := by kernel_rfl
theorem fact7x24 : (Tryz.pinned.checked.prog.stopsHeard) = true := by kernel_rfl
theorem fact7x25 : (Tryz.pinned.checked.prog.mayEnter) = true := by kernel_rfl
theorem fact7x26 : ((Rows.monitorReasonsRow.lifted == Tryz.pinned.checked.prog.liftsFinal)) = true := by kernel_rfl
theorem fact7x27 : ((Tryz.pinned.checked.prog.make == some Rows.monitorReasonsRow.make)) = true := by kernel_rfl
theorem fact7x28 : ((Rows.monitorReasonsRow.kinds == (if Rows.monitorReasonsRow.domain.isEmpty then [] else Tryz.f7.params.toList.map fun t => match Tryz.pinned.checked.prog.underlying t with | some (.int k) => some k | _ => none))) = true := by kernel_rfl
theorem fact7x29 : ((Rows.monitorReasonsRow.pinned == Rows.monitorReasonsRow.pinnedBy)) = true := by kernel_rfl
theorem fact7x30 : ((Rows.monitorReasonsRow.veiled == (Tryz.f7.params.toList ++ Rows.monitorReasonsSpec.plain.varTypes Tryz.pinned.checked.prog ++ Tryz.f7.resultTypes.toList).any (Tryz.pinned.checked.prog.veiledRec ·))) = true := by kernel_rfl
theorem fact7x31 : (Rows.monitorReasonsRow.veiledFits Tryz.pinned.checked.prog Tryz.f7.params.toList (Tryz.f7.params.toList ++ Rows.monitorReasonsSpec.plain.varTypes Tryz.pinned.checked.prog ++ Tryz.f7.resultTypes.toList)) = true := by kernel_rfl
theorem facts7 : joinedFacts Tryz.pinned.checked.prog 7 Tryz.f7 Rows.monitorReasonsSpec Rows.monitorReasonsRow = true := (band (band (band (band (band (band (band (band (band (band (band (band (band (band (band (band (band (band (band (band (band (band (band (band (band (band (band (band (band (band (band fact7x0 fact7x1) fact7x2) fact7x3) fact7x4) fact7x5) fact7x6) fact7x7) fact7x8) fact7x9) fact7x10) fact7x11) fact7x12) fact7x13) fact7x14) fact7x15) fact7x16) fact7x17) fact7x18) fact7x19) fact7x20) fact7x21) fact7x22) fact7x23) fact7x24) fact7x25) fact7x26) fact7x27) fact7x28) fact7x29) fact7x30) fact7x31)
theorem named7 : Tryz.pinned.checked.prog.funcNamed Rows.monitorReasonsRow.func = some 7 := by kernel_rfl
theorem inst7 : Tryz.f7.isInstance Tryz.pinned.checked.prog Rows.monitorReasonsRow.origin Rows.monitorReasonsRow.targs := of_decide_eq_true (by kernel_rfl)
theorem wrap7 : Tryz.f7.isWrapper Tryz.pinned.checked.prog Rows.monitorReasonsRow.wrapper Rows.monitorReasonsRow.mainSum := by
  unfold Func.isWrapper
  first | (rw [if_pos (by decide +kernel)]; kernel_rfl) | (rw [if_neg (by decide +kernel)]; exact ⟨rfl, rfl⟩)
end Go.Proofs.YtifnpljmjhnbaaaGreatDoor
