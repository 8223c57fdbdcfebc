/-
  A part of the proof of the statement that the claim names: see the last file.
-/
import Derived.Test.YtifnpljmjhnbaaaGreatDoorLb
namespace Go.Proofs.YtifnpljmjhnbaaaGreatDoor
open Go
set_option maxRecDepth 100000


theorem band {a b : Bool} (ha : a = true) (hb : b = true) : (a && b) = true := by rw [ha, hb]; rfl
theorem fact13x0 : (Rows.monitorStringsRow.wf (OpenSpec.ofChange Rows.monitorStringsSpec)) = true := by kernel_rfl
theorem fact13x1 : (laidOutB Tryz.pinned.checked.prog) = true := by kernel_rfl
theorem fact13x2 : (mapsRowed Tryz.pinned.checked.prog) = true := by kernel_rfl
theorem fact13x3 : (Tryz.f13.params.all (Tryz.pinned.checked.prog.readableRec ·)) = true := by kernel_rfl
theorem fact13x4 : (namedTie Tryz.pinned.checked.prog Rows.monitorStringsRow.named Rows.monitorStringsSpec.vars) = true := by kernel_rfl
theorem fact13x5 : ((Rows.monitorStringsRow.stops == [])) = true := by kernel_rfl
theorem fact13x6 : ((Tryz.pinned.checked.prog.stops == [])) = true := by kernel_rfl
theorem fact13x7 : ((Rows.monitorStringsRow.knobs == [])) = true := by kernel_rfl
theorem fact13x8 : ((Tryz.pinned.checked.prog.stopKnobs == [])) = true := by kernel_rfl
theorem fact13x9 : ((Rows.monitorStringsRow.inPlace == Tryz.pinned.checked.prog.inPlace 13)) = true := by kernel_rfl
theorem fact13x10 : ((Rows.monitorStringsRow.unfollowed == Tryz.pinned.checked.prog.unfollowed 13)) = true := by kernel_rfl
theorem fact13x11 : ((Rows.monitorStringsRow.recurses == Tryz.pinned.checked.prog.recurses 13)) = true := by kernel_rfl
theorem fact13x12 : ((Rows.monitorStringsRow.named == Tryz.pinned.checked.prog.varsNamed 13)) = true := by kernel_rfl
theorem fact13x13 : ((Rows.monitorStringsRow.maps == (Tryz.f13.params.toList ++ Rows.monitorStringsSpec.plain.varTypes Tryz.pinned.checked.prog).any (Tryz.pinned.checked.prog.mapsRec ·))) = true := by kernel_rfl
theorem fact13x14 : ((Rows.monitorStringsRow.ifaces == (Tryz.f13.params.toList ++ Rows.monitorStringsSpec.plain.varTypes Tryz.pinned.checked.prog).any (Tryz.pinned.checked.prog.ifacesRec ·))) = true := by kernel_rfl
theorem fact13x15 : ((Rows.monitorStringsRow.mapsOut == Tryz.pinned.checked.prog.mapsAmong Tryz.f13.resultTypes.toList)) = true := by kernel_rfl
theorem fact13x16 : ((Rows.monitorStringsRow.loops == (Tryz.f13.params.toList ++ Rows.monitorStringsSpec.plain.varTypes Tryz.pinned.checked.prog).any (Tryz.pinned.checked.prog.loopsFrom ·))) = true := by kernel_rfl
theorem fact13x17 : ((Rows.monitorStringsRow.wideKeys == (Tryz.f13.params.toList ++ Rows.monitorStringsSpec.plain.varTypes Tryz.pinned.checked.prog ++ Tryz.f13.resultTypes.toList).any (Tryz.pinned.checked.prog.wideKeysFrom ·))) = true := by kernel_rfl
theorem fact13x18 : (Rows.monitorStringsSpec.vars.all (Tryz.pinned.checked.prog.varReadable ·)) = true := by kernel_rfl
theorem fact13x19 : (Tryz.f13.resultTypes.all (fun t => Tryz.pinned.checked.prog.readableRec t && decide (t < Tryz.pinned.checked.prog.types.size))) = true := by kernel_rfl
theorem fact13x20 : ((Rows.monitorStringsRow.ifacesOut == Tryz.f13.resultTypes.toList.any (Tryz.pinned.checked.prog.ifacesRec ·))) = true := by kernel_rfl
theorem fact13x21 : ((Rows.monitorStringsRow.loopsOut == Tryz.f13.resultTypes.toList.any (Tryz.pinned.checked.prog.loopsFrom ·))) = true := by kernel_rfl
theorem fact13x22 : ((Rows.monitorStringsRow.plainKeys == Tryz.pinned.checked.prog.plainKeys)) = true := by kernel_rfl
theorem fact13x23 : (Rows.monitorStringsRow.shortTexts.isNone) = true := by kernel_rfl
theorem fact13x24 : (Tryz.pinned.checked.prog.stopsHeard) = true := by kernel_rfl
theorem fact13x25 : (Tryz.pinned.checked.prog.mayEnter) = true := by kernel_rfl
theorem fact13x26 : ((Rows.monitorStringsRow.lifted == Tryz.pinned.checked.prog.liftsFinal)) = true := by kernel_rfl
theorem fact13x27 : ((Tryz.pinned.checked.prog.make == some Rows.monitorStringsRow.make)) = true := by kernel_rfl
theorem fact13x28 : ((Rows.monitorStringsRow.kinds == (if Rows.monitorStringsRow.domain.isEmpty then [] else Tryz.f13.params.toList.map fun t => match Tryz.pinned.checked.prog.underlying t with | some (.int k) => some k | _ => none))) = true := by kernel_rfl
theorem fact13x29 : ((Rows.monitorStringsRow.pinned == Rows.monitorStringsRow.pinnedBy)) = true := by kernel_rfl
theorem fact13x30 : ((Rows.monitorStringsRow.veiled == (Tryz.f13.params.toList ++ Rows.monitorStringsSpec.plain.varTypes Tryz.pinned.checked.prog ++ Tryz.f13.resultTypes.toList).any (Tryz.pinned.checked.prog.veiledRec ·))) = true := by kernel_rfl
theorem fact13x31 : (Rows.monitorStringsRow.veiledFits Tryz.pinned.checked.prog Tryz.f13.params.toList (Tryz.f13.params.toList ++ Rows.monitorStringsSpec.plain.varTypes Tryz.pinned.checked.prog ++ Tryz.f13.resultTypes.toList)) = true := by kernel_rfl
theorem facts13 : joinedFacts Tryz.pinned.checked.prog 13 Tryz.f13 Rows.monitorStringsSpec Rows.monitorStringsRow = true := (band (band (band (band (band (band (band (band (band (band (band (band (band (band (band (band (band (band (band (band (band (band (band (band (band (band (band (band (band (band (band fact13x0 fact13x1) fact13x2) fact13x3) fact13x4) fact13x5) fact13x6) fact13x7) fact13x8) fact13x9) fact13x10) fact13x11) fact13x12) fact13x13) fact13x14) fact13x15) fact13x16) fact13x17) fact13x18) fact13x19) fact13x20) fact13x21) fact13x22) fact13x23) fact13x24) fact13x25) fact13x26) fact13x27) fact13x28) fact13x29) fact13x30) fact13x31)
theorem named13 : Tryz.pinned.checked.prog.funcNamed Rows.monitorStringsRow.func = some 13 := by kernel_rfl
theorem inst13 : Tryz.f13.isInstance Tryz.pinned.checked.prog Rows.monitorStringsRow.origin Rows.monitorStringsRow.targs := of_decide_eq_true (by kernel_rfl)
theorem wrap13 : Tryz.f13.isWrapper Tryz.pinned.checked.prog Rows.monitorStringsRow.wrapper Rows.monitorStringsRow.mainSum := by
  unfold Func.isWrapper
  first | (rw [if_pos (by decide +kernel)]; kernel_rfl) | (rw [if_neg (by decide +kernel)]; exact ⟨rfl, rfl⟩)
end Go.Proofs.YtifnpljmjhnbaaaGreatDoor
