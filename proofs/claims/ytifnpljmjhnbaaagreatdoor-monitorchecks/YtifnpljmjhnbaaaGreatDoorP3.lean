/-
  A part of the proof of the statement that the claim names: see the last file.
-/
import Derived.Test.YtifnpljmjhnbaaaGreatDoorP2
namespace Go.Proofs.YtifnpljmjhnbaaaGreatDoor
open Go
set_option maxRecDepth 100000


theorem band {a b : Bool} (ha : a = true) (hb : b = true) : (a && b) = true := by rw [ha, hb]; rfl
theorem fact3x0 : (Rows.monitorChecksRow.wf (OpenSpec.ofChange Rows.monitorChecksSpec)) = true := by kernel_rfl
theorem fact3x1 : (laidOutB Tryz.pinned.checked.prog) = true := by kernel_rfl
theorem fact3x2 : (mapsRowed Tryz.pinned.checked.prog) = true := by kernel_rfl
theorem fact3x3 : (Tryz.f3.params.all (Tryz.pinned.checked.prog.readableRec ·)) = true := by kernel_rfl
theorem fact3x4 : (namedTie Tryz.pinned.checked.prog Rows.monitorChecksRow.named Rows.monitorChecksSpec.vars) = true := by kernel_rfl
theorem fact3x5 : ((Rows.monitorChecksRow.stops == [])) = true := by kernel_rfl
theorem fact3x6 : ((Tryz.pinned.checked.prog.stops == [])) = true := by kernel_rfl
theorem fact3x7 : ((Rows.monitorChecksRow.knobs == [])) = true := by kernel_rfl
theorem fact3x8 : ((Tryz.pinned.checked.prog.stopKnobs == [])) = true := by kernel_rfl
theorem fact3x9 : ((Rows.monitorChecksRow.inPlace == Tryz.pinned.checked.prog.inPlace 3)) = true := by kernel_rfl
theorem fact3x10 : ((Rows.monitorChecksRow.unfollowed == Tryz.pinned.checked.prog.unfollowed 3)) = true := by kernel_rfl
theorem fact3x11 : ((Rows.monitorChecksRow.recurses == Tryz.pinned.checked.prog.recurses 3)) = true := by kernel_rfl
theorem fact3x12 : ((Rows.monitorChecksRow.named == Tryz.pinned.checked.prog.varsNamed 3)) = true := by kernel_rfl
theorem fact3x13 : ((Rows.monitorChecksRow.maps == (Tryz.f3.params.toList ++ Rows.monitorChecksSpec.plain.varTypes Tryz.pinned.checked.prog).any (Tryz.pinned.checked.prog.mapsRec ·))) = true := by kernel_rfl
theorem fact3x14 : ((Rows.monitorChecksRow.ifaces == (Tryz.f3.params.toList ++ Rows.monitorChecksSpec.plain.varTypes Tryz.pinned.checked.prog).any (Tryz.pinned.checked.prog.ifacesRec ·))) = true := by kernel_rfl
theorem fact3x15 : ((Rows.monitorChecksRow.mapsOut == Tryz.pinned.checked.prog.mapsAmong Tryz.f3.resultTypes.toList)) = true := by kernel_rfl
theorem fact3x16 : ((Rows.monitorChecksRow.loops == (Tryz.f3.params.toList ++ Rows.monitorChecksSpec.plain.varTypes Tryz.pinned.checked.prog).any (Tryz.pinned.checked.prog.loopsFrom ·))) = true := by kernel_rfl
theorem fact3x17 : ((Rows.monitorChecksRow.wideKeys == (Tryz.f3.params.toList ++ Rows.monitorChecksSpec.plain.varTypes Tryz.pinned.checked.prog ++ Tryz.f3.resultTypes.toList).any (Tryz.pinned.checked.prog.wideKeysFrom ·))) = true := by kernel_rfl
theorem fact3x18 : (Rows.monitorChecksSpec.vars.all (Tryz.pinned.checked.prog.varReadable ·)) = true := by kernel_rfl
theorem fact3x19 : (Tryz.f3.resultTypes.all (fun t => Tryz.pinned.checked.prog.readableRec t && decide (t < Tryz.pinned.checked.prog.types.size))) = true := by kernel_rfl
theorem fact3x20 : ((Rows.monitorChecksRow.ifacesOut == Tryz.f3.resultTypes.toList.any (Tryz.pinned.checked.prog.ifacesRec ·))) = true := by kernel_rfl
theorem fact3x21 : ((Rows.monitorChecksRow.loopsOut == Tryz.f3.resultTypes.toList.any (Tryz.pinned.checked.prog.loopsFrom ·))) = true := by kernel_rfl
theorem fact3x22 : ((Rows.monitorChecksRow.plainKeys == Tryz.pinned.checked.prog.plainKeys)) = true := by kernel_rfl
theorem fact3x23 : (Rows.monitorChecksRow.shortTexts.isNone) = true := by kernel_rfl
theorem fact3x24 : (Tryz.pinned.checked.prog.stopsHeard) = true := by kernel_rfl
theorem fact3x25 : (Tryz.pinned.checked.prog.mayEnter) = true := by kernel_rfl
theorem fact3x26 : ((Rows.monitorChecksRow.lifted == Tryz.pinned.checked.prog.liftsFinal)) = true := by kernel_rfl
theorem fact3x27 : ((Tryz.pinned.checked.prog.make == some Rows.monitorChecksRow.make)) = true := by kernel_rfl
theorem fact3x28 : ((Rows.monitorChecksRow.kinds == (if Rows.monitorChecksRow.domain.isEmpty then [] else Tryz.f3.params.toList.map fun t => match Tryz.pinned.checked.prog.underlying t with | some (.int k) => some k | _ => none))) = true := by kernel_rfl
theorem fact3x29 : ((Rows.monitorChecksRow.pinned == Rows.monitorChecksRow.pinnedBy)) = true := by kernel_rfl
theorem fact3x30 : ((Rows.monitorChecksRow.veiled == (Tryz.f3.params.toList ++ Rows.monitorChecksSpec.plain.varTypes Tryz.pinned.checked.prog ++ Tryz.f3.resultTypes.toList).any (Tryz.pinned.checked.prog.veiledRec ·))) = true := by kernel_rfl
theorem fact3x31 : (Rows.monitorChecksRow.veiledFits Tryz.pinned.checked.prog Tryz.f3.params.toList (Tryz.f3.params.toList ++ Rows.monitorChecksSpec.plain.varTypes Tryz.pinned.checked.prog ++ Tryz.f3.resultTypes.toList)) = true := by kernel_rfl
theorem facts3 : joinedFacts Tryz.pinned.checked.prog 3 Tryz.f3 Rows.monitorChecksSpec Rows.monitorChecksRow = true := (band (band (band (band (band (band (band (band (band (band (band (band (band (band (band (band (band (band (band (band (band (band (band (band (band (band (band (band (band (band (band fact3x0 fact3x1) fact3x2) fact3x3) fact3x4) fact3x5) fact3x6) fact3x7) fact3x8) fact3x9) fact3x10) fact3x11) fact3x12) fact3x13) fact3x14) fact3x15) fact3x16) fact3x17) fact3x18) fact3x19) fact3x20) fact3x21) fact3x22) fact3x23) fact3x24) fact3x25) fact3x26) fact3x27) fact3x28) fact3x29) fact3x30) fact3x31)
theorem named3 : Tryz.pinned.checked.prog.funcNamed Rows.monitorChecksRow.func = some 3 := by kernel_rfl
theorem inst3 : Tryz.f3.isInstance Tryz.pinned.checked.prog Rows.monitorChecksRow.origin Rows.monitorChecksRow.targs := of_decide_eq_true (by kernel_rfl)
theorem wrap3 : Tryz.f3.isWrapper Tryz.pinned.checked.prog Rows.monitorChecksRow.wrapper Rows.monitorChecksRow.mainSum := by
  unfold Func.isWrapper
  first | (rw [if_pos (by decide +kernel)]; kernel_rfl) | (rw [if_neg (by decide +kernel)]; exact ⟨rfl, rfl⟩)
end Go.Proofs.YtifnpljmjhnbaaaGreatDoor
