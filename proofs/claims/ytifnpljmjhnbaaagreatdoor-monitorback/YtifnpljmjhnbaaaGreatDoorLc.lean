/-
  A part of the proof of the statement that the claim names: see the last file.
-/
import Derived.Test.YtifnpljmjhnbaaaGreatDoorLb
namespace Go.Proofs.YtifnpljmjhnbaaaGreatDoor
open Go
set_option maxRecDepth 100000


theorem band {a b : Bool} (ha : a = true) (hb : b = true) : (a && b) = true := by rw [ha, hb]; rfl
theorem fact14x0 : (Rows.monitorBackRow.wf (OpenSpec.ofChange Rows.monitorBackSpec)) = true := by kernel_rfl
theorem fact14x1 : (laidOutB Tryz.pinned.checked.prog) = true := by kernel_rfl
theorem fact14x2 : (mapsRowed Tryz.pinned.checked.prog) = true := by kernel_rfl
theorem fact14x3 : (Tryz.f14.params.all (Tryz.pinned.checked.prog.readableRec ·)) = true := by kernel_rfl
theorem fact14x4 : (namedTie Tryz.pinned.checked.prog Rows.monitorBackRow.named Rows.monitorBackSpec.vars) = true := by kernel_rfl
theorem fact14x5 : ((Rows.monitorBackRow.stops == [])) = true := by kernel_rfl
theorem fact14x6 : ((Tryz.pinned.checked.prog.stops == [])) = true := by kernel_rfl
theorem fact14x7 : ((Rows.monitorBackRow.knobs == [])) = true := by kernel_rfl
theorem fact14x8 : ((Tryz.pinned.checked.prog.stopKnobs == [])) = true := by kernel_rfl
theorem fact14x9 : ((Rows.monitorBackRow.inPlace == Tryz.pinned.checked.prog.inPlace 14)) = true := by kernel_rfl
theorem fact14x10 : ((Rows.monitorBackRow.unfollowed == Tryz.pinned.checked.prog.unfollowed 14)) = true := by kernel_rfl
theorem fact14x11 : ((Rows.monitorBackRow.recurses == Tryz.pinned.checked.prog.recurses 14)) = true := by kernel_rfl
theorem fact14x12 : ((Rows.monitorBackRow.named == Tryz.pinned.checked.prog.varsNamed 14)) = true := by kernel_rfl
theorem fact14x13 : ((Rows.monitorBackRow.maps == (Tryz.f14.params.toList ++ Rows.monitorBackSpec.plain.varTypes Tryz.pinned.checked.prog).any (Tryz.pinned.checked.prog.mapsRec ·))) = true := by kernel_rfl
theorem fact14x14 : ((Rows.monitorBackRow.ifaces == (Tryz.f14.params.toList ++ Rows.monitorBackSpec.plain.varTypes Tryz.pinned.checked.prog).any (Tryz.pinned.checked.prog.ifacesRec ·))) = true := by kernel_rfl
theorem fact14x15 : ((Rows.monitorBackRow.mapsOut == Tryz.pinned.checked.prog.mapsAmong Tryz.f14.resultTypes.toList)) = true := by kernel_rfl
theorem fact14x16 : ((Rows.monitorBackRow.loops == (Tryz.f14.params.toList ++ Rows.monitorBackSpec.plain.varTypes Tryz.pinned.checked.prog).any (Tryz.pinned.checked.prog.loopsFrom ·))) = true := by kernel_rfl
theorem fact14x17 : ((Rows.monitorBackRow.wideKeys == (Tryz.f14.params.toList ++ Rows.monitorBackSpec.plain.varTypes Tryz.pinned.checked.prog ++ Tryz.f14.resultTypes.toList).any (Tryz.pinned.checked.prog.wideKeysFrom ·))) = true := by kernel_rfl
theorem fact14x18 : (Rows.monitorBackSpec.vars.all (Tryz.pinned.checked.prog.varReadable ·)) = true := by kernel_rfl
theorem fact14x19 : (Tryz.f14.resultTypes.all (fun t => Tryz.pinned.checked.prog.readableRec t && decide (t < Tryz.pinned.checked.prog.types.size))) = true := by kernel_rfl
theorem fact14x20 : ((Rows.monitorBackRow.ifacesOut == Tryz.f14.resultTypes.toList.any (Tryz.pinned.checked.prog.ifacesRec ·))) = true := by kernel_rfl
theorem fact14x21 : ((Rows.monitorBackRow.loopsOut == Tryz.f14.resultTypes.toList.any (Tryz.pinned.checked.prog.loopsFrom ·))) = true := by kernel_rfl
theorem fact14x22 : ((Rows.monitorBackRow.plainKeys == Tryz.pinned.checked.prog.plainKeys)) = true := by kernel_rfl
theorem fact14x23 : (Rows.monitorBackRow.shortTexts.isNone) = true := by kernel_rfl
theorem fact14x24 : (Tryz.pinned.checked.prog.stopsHeard) = true := by kernel_rfl
theorem fact14x25 : (Tryz.pinned.checked.prog.mayEnter) = true := by kernel_rfl
theorem fact14x26 : ((Rows.monitorBackRow.lifted == Tryz.pinned.checked.prog.liftsFinal)) = true := by kernel_rfl
theorem fact14x27 : ((Tryz.pinned.checked.prog.make == some Rows.monitorBackRow.make)) = true := by kernel_rfl
theorem fact14x28 : ((Rows.monitorBackRow.kinds == (if Rows.monitorBackRow.domain.isEmpty then [] else Tryz.f14.params.toList.map fun t => match Tryz.pinned.checked.prog.underlying t with | some (.int k) => some k | _ => none))) = true := by kernel_rfl
theorem fact14x29 : ((Rows.monitorBackRow.pinned == Rows.monitorBackRow.pinnedBy)) = true := by kernel_rfl
theorem fact14x30 : ((Rows.monitorBackRow.veiled == (Tryz.f14.params.toList ++ Rows.monitorBackSpec.plain.varTypes Tryz.pinned.checked.prog ++ Tryz.f14.resultTypes.toList).any (Tryz.pinned.checked.prog.veiledRec ·))) = true := by kernel_rfl
theorem fact14x31 : (Rows.monitorBackRow.veiledFits Tryz.pinned.checked.prog Tryz.f14.params.toList (Tryz.f14.params.toList ++ Rows.monitorBackSpec.plain.varTypes Tryz.pinned.checked.prog ++ Tryz.f14.resultTypes.toList)) = true := by kernel_rfl
theorem facts14 : joinedFacts Tryz.pinned.checked.prog 14 Tryz.f14 Rows.monitorBackSpec Rows.monitorBackRow = true := (band (band (band (band (band (band (band (band (band (band (band (band (band (band (band (band (band (band (band (band (band (band (band (band (band (band (band (band (band (band (band fact14x0 fact14x1) fact14x2) fact14x3) fact14x4) fact14x5) fact14x6) fact14x7) fact14x8) fact14x9) fact14x10) fact14x11) fact14x12) fact14x13) fact14x14) fact14x15) fact14x16) fact14x17) fact14x18) fact14x19) fact14x20) fact14x21) fact14x22) fact14x23) fact14x24) fact14x25) fact14x26) fact14x27) fact14x28) fact14x29) fact14x30) fact14x31)
theorem named14 : Tryz.pinned.checked.prog.funcNamed Rows.monitorBackRow.func = some 14 := by kernel_rfl
theorem inst14 : Tryz.f14.isInstance Tryz.pinned.checked.prog Rows.monitorBackRow.origin Rows.monitorBackRow.targs := of_decide_eq_true (by kernel_rfl)
theorem wrap14 : Tryz.f14.isWrapper Tryz.pinned.checked.prog Rows.monitorBackRow.wrapper Rows.monitorBackRow.mainSum := by
  unfold Func.isWrapper
  first | (rw [if_pos (by decide +kernel)]; kernel_rfl) | (rw [if_neg (by decide +kernel)]; exact ⟨rfl, rfl⟩)
end Go.Proofs.YtifnpljmjhnbaaaGreatDoor
