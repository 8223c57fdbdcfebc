/-
 A part of the proof of the statement that the claim names: see the last file.
-/
import Derived.Test.YtifnpljmjhnbaaaGreatDoorBh
namespace Go.Proofs.YtifnpljmjhnbaaaGreatDoor
open Go
set_option maxRecDepth 100000
theorem band {a b : Bool} (ha : a = true) (hb : b = true) : (a && b) = true := by rw [ha,hb]; rfl
theorem fact9x0 : (Rows.monitorBestRow.wf (OpenSpec.ofChange Rows.monitorBestSpec)) = true := by kernel_rfl
theorem fact9x1 : (laidOutB Tryz.pinned.checked.prog) = true := by kernel_rfl
theorem fact9x2 : (mapsRowed Tryz.pinned.checked.prog) = true := by kernel_rfl
theorem fact9x3 : (Tryz.f9.params.all (Tryz.pinned.checked.prog.readableRec ·)) = true := by kernel_rfl
theorem fact9x4 : (namedTie Tryz.pinned.checked.prog Rows.monitorBestRow.named Rows.monitorBestSpec.vars) = true := by kernel_rfl
theorem fact9x5 : ((Rows.monitorBestRow.stops == [])) = true := by kernel_rfl
theorem fact9x6 : ((Tryz.pinned.checked.prog.stops == [])) = true := by kernel_rfl
theorem fact9x7 : ((Rows.monitorBestRow.knobs == [])) = true := by kernel_rfl
theorem fact9x8 : ((Tryz.pinned.checked.prog.stopKnobs == [])) = true := by kernel_rfl
theorem fact9x9 : ((Rows.monitorBestRow.inPlace == Tryz.pinned.checked.prog.inPlace 9)) = true := by kernel_rfl
theorem fact9x10 : ((Rows.monitorBestRow.unfollowed == Tryz.pinned.checked.prog.unfollowed 9)) = true := by kernel_rfl
theorem fact9x11 : ((Rows.monitorBestRow.recurses == Tryz.pinned.checked.prog.recurses 9)) = true := by kernel_rfl
theorem fact9x12 : ((Rows.monitorBestRow.named == Tryz.pinned.checked.prog.varsNamed 9)) = true := by kernel_rfl
theorem fact9x13 : ((Rows.monitorBestRow.maps == (Tryz.f9.params.toList ++ Rows.monitorBestSpec.plain.varTypes Tryz.pinned.checked.prog).any (Tryz.pinned.checked.prog.mapsRec ·))) = true := by kernel_rfl
theorem fact9x14 : ((Rows.monitorBestRow.ifaces == (Tryz.f9.params.toList ++ Rows.monitorBestSpec.plain.varTypes Tryz.pinned.checked.prog).any (Tryz.pinned.checked.prog.ifacesRec ·))) = true := by kernel_rfl
theorem fact9x15 : ((Rows.monitorBestRow.mapsOut == Tryz.pinned.checked.prog.mapsAmong Tryz.f9.resultTypes.toList)) = true := by kernel_rfl
theorem fact9x16 : ((Rows.monitorBestRow.loops == (Tryz.f9.params.toList ++ Rows.monitorBestSpec.plain.varTypes Tryz.pinned.checked.prog).any (Tryz.pinned.checked.prog.loopsFrom ·))) = true := by kernel_rfl
theorem fact9x17 : ((Rows.monitorBestRow.wideKeys == (Tryz.f9.params.toList ++ Rows.monitorBestSpec.plain.varTypes Tryz.pinned.checked.prog ++ Tryz.f9.resultTypes.toList).any (Tryz.pinned.checked.prog.wideKeysFrom ·))) = true := by kernel_rfl
theorem fact9x18 : (Rows.monitorBestSpec.vars.all (Tryz.pinned.checked.prog.varReadable ·)) = true := by kernel_rfl
theorem fact9x19 : (Tryz.f9.resultTypes.all (fun t => Tryz.pinned.checked.prog.readableRec t && decide (t < Tryz.pinned.checked.prog.types.size))) = true := by kernel_rfl
theorem fact9x20 : ((Rows.monitorBestRow.ifacesOut == Tryz.f9.resultTypes.toList.any (Tryz.pinned.checked.prog.ifacesRec ·))) = true := by kernel_rfl
theorem fact9x21 : ((Rows.monitorBestRow.loopsOut == Tryz.f9.resultTypes.toList.any (Tryz.pinned.checked.prog.loopsFrom ·))) = true := by kernel_rfl
theorem fact9x22 : ((Rows.monitorBestRow.plainKeys == Tryz.pinned.checked.prog.plainKeys)) = true := by kernel_rfl
theorem fact9x23 : (Rows.monitorBestRow.shortTexts.isNone) = true := by kernel_rfl
theorem fact9x24 : (Tryz.pinned.checked.prog.stopsHeard) = true := by kernel_rfl
theorem fact9x25 : (Tryz.pinned.checked.prog.mayEnter) = true := by kernel_rfl
theorem fact9x26 : ((Rows.monitorBestRow.lifted == Tryz.pinned.checked.prog.liftsFinal)) = true := by kernel_rfl
theorem fact9x27 : ((Tryz.pinned.checked.prog.make == some Rows.monitorBestRow.make)) = true := by kernel_rfl
theorem fact9x28 : ((Rows.monitorBestRow.kinds == (if Rows.monitorBestRow.domain.isEmpty then [] else Tryz.f9.params.toList.map fun t => match Tryz.pinned.checked.prog.underlying t with | some (.int k) => some k | _ => none))) = true := by kernel_rfl
theorem fact9x29 : ((Rows.monitorBestRow.pinned == Rows.monitorBestRow.pinnedBy)) = true := by kernel_rfl
theorem fact9x30 : ((Rows.monitorBestRow.veiled == (Tryz.f9.params.toList ++ Rows.monitorBestSpec.plain.varTypes Tryz.pinned.checked.prog ++ Tryz.f9.resultTypes.toList).any (Tryz.pinned.checked.prog.veiledRec ·))) = true := by kernel_rfl
theorem fact9x31 : (Rows.monitorBestRow.veiledFits Tryz.pinned.checked.prog Tryz.f9.params.toList (Tryz.f9.params.toList ++ Rows.monitorBestSpec.plain.varTypes Tryz.pinned.checked.prog ++ Tryz.f9.resultTypes.toList)) = true := by kernel_rfl
theorem facts9 : joinedFacts Tryz.pinned.checked.prog 9 Tryz.f9 Rows.monitorBestSpec Rows.monitorBestRow = true := (band (band (band (band (band (band (band (band (band (band (band (band (band (band (band (band (band (band (band (band (band (band (band (band (band (band (band (band (band (band (band fact9x0 fact9x1) fact9x2) fact9x3) fact9x4) fact9x5) fact9x6) fact9x7) fact9x8) fact9x9) fact9x10) fact9x11) fact9x12) fact9x13) fact9x14) fact9x15) fact9x16) fact9x17) fact9x18) fact9x19) fact9x20) fact9x21) fact9x22) fact9x23) fact9x24) fact9x25) fact9x26) fact9x27) fact9x28) fact9x29) fact9x30) fact9x31)
theorem named9 : Tryz.pinned.checked.prog.funcNamed Rows.monitorBestRow.func = some 9 := by kernel_rfl
theorem inst9 : Tryz.f9.isInstance Tryz.pinned.checked.prog Rows.monitorBestRow.origin Rows.monitorBestRow.targs := of_decide_eq_true (by kernel_rfl)
theorem wrap9 : Tryz.f9.isWrapper Tryz.pinned.checked.prog Rows.monitorBestRow.wrapper Rows.monitorBestRow.mainSum := by
 unfold Func.isWrapper
 first | (rw [if_pos (by decide +kernel)]; kernel_rfl) | (rw [if_neg (by decide +kernel)]; exact ⟨rfl,rfl⟩)
end Go.Proofs.YtifnpljmjhnbaaaGreatDoor
