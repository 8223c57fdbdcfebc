/-
 A part of the proof of the statement that the claim names: see the last file.
-/
import Derived.Test.YtifnpljmjhnbaaaGreatDoorD6
namespace Go.Proofs.YtifnpljmjhnbaaaGreatDoor
open Go
set_option maxRecDepth 100000
theorem band {a b:Bool} (ha:a = true) (hb:b = true):(a && b) = true:=by rw [ha,hb];rfl
theorem fact12x0:(Rows.monitorProvedRow.wf (OpenSpec.ofChange Rows.monitorProvedSpec)) = true:=by kernel_rfl
theorem fact12x1:(laidOutB Tryz.pinned.checked.prog) = true:=by kernel_rfl
theorem fact12x2:(mapsRowed Tryz.pinned.checked.prog) = true:=by kernel_rfl
theorem fact12x3:(Tryz.f12.params.all (Tryz.pinned.checked.prog.readableRec ·)) = true:=by kernel_rfl
theorem fact12x4:(namedTie Tryz.pinned.checked.prog Rows.monitorProvedRow.named Rows.monitorProvedSpec.vars) = true:=by kernel_rfl
theorem fact12x5:((Rows.monitorProvedRow.stops == [])) = true:=by kernel_rfl
theorem fact12x6:((Tryz.pinned.checked.prog.stops == [])) = true:=by kernel_rfl
theorem fact12x7:((Rows.monitorProvedRow.knobs == [])) = true:=by kernel_rfl
theorem fact12x8:((Tryz.pinned.checked.prog.stopKnobs == [])) = true:=by kernel_rfl
theorem fact12x9:((Rows.monitorProvedRow.inPlace == Tryz.pinned.checked.prog.inPlace 12)) = true:=by kernel_rfl
theorem fact12x10:((Rows.monitorProvedRow.unfollowed == Tryz.pinned.checked.prog.unfollowed 12)) = true:=by kernel_rfl
theorem fact12x11:((Rows.monitorProvedRow.recurses == Tryz.pinned.checked.prog.recurses 12)) = true:=by kernel_rfl
theorem fact12x12:((Rows.monitorProvedRow.named == Tryz.pinned.checked.prog.varsNamed 12)) = true:=by kernel_rfl
theorem fact12x13:((Rows.monitorProvedRow.maps == (Tryz.f12.params.toList++Rows.monitorProvedSpec.plain.varTypes Tryz.pinned.checked.prog).any (Tryz.pinned.checked.prog.mapsRec ·))) = true:=by kernel_rfl
theorem fact12x14:((Rows.monitorProvedRow.ifaces == (Tryz.f12.params.toList++Rows.monitorProvedSpec.plain.varTypes Tryz.pinned.checked.prog).any (Tryz.pinned.checked.prog.ifacesRec ·))) = true:=by kernel_rfl
theorem fact12x15:((Rows.monitorProvedRow.mapsOut == Tryz.pinned.checked.prog.mapsAmong Tryz.f12.resultTypes.toList)) = true:=by kernel_rfl
theorem fact12x16:((Rows.monitorProvedRow.loops == (Tryz.f12.params.toList++Rows.monitorProvedSpec.plain.varTypes Tryz.pinned.checked.prog).any (Tryz.pinned.checked.prog.loopsFrom ·))) = true:=by kernel_rfl
theorem fact12x17:((Rows.monitorProvedRow.wideKeys == (Tryz.f12.params.toList++Rows.monitorProvedSpec.plain.varTypes Tryz.pinned.checked.prog++Tryz.f12.resultTypes.toList).any (Tryz.pinned.checked.prog.wideKeysFrom ·))) = true:=by kernel_rfl
theorem fact12x18:(Rows.monitorProvedSpec.vars.all (Tryz.pinned.checked.prog.varReadable ·)) = true:=by kernel_rfl
theorem fact12x19:(Tryz.f12.resultTypes.all (fun t=>Tryz.pinned.checked.prog.readableRec t && decide (t < Tryz.pinned.checked.prog.types.size))) = true:=by kernel_rfl
theorem fact12x20:((Rows.monitorProvedRow.ifacesOut == Tryz.f12.resultTypes.toList.any (Tryz.pinned.checked.prog.ifacesRec ·))) = true:=by kernel_rfl
theorem fact12x21:((Rows.monitorProvedRow.loopsOut == Tryz.f12.resultTypes.toList.any (Tryz.pinned.checked.prog.loopsFrom ·))) = true:=by kernel_rfl
theorem fact12x22:((Rows.monitorProvedRow.plainKeys == Tryz.pinned.checked.prog.plainKeys)) = true:=by kernel_rfl
theorem fact12x23:(Rows.monitorProvedRow.shortTexts.isNone) = true:=by kernel_rfl
theorem fact12x24:(Tryz.pinned.checked.prog.stopsHeard) = true:=by kernel_rfl
theorem fact12x25:(Tryz.pinned.checked.prog.mayEnter) = true:=by kernel_rfl
theorem fact12x26:((Rows.monitorProvedRow.lifted == Tryz.pinned.checked.prog.liftsFinal)) = true:=by kernel_rfl
theorem fact12x27:((Tryz.pinned.checked.prog.make == some Rows.monitorProvedRow.make)) = true:=by kernel_rfl
theorem fact12x28:((Rows.monitorProvedRow.kinds == (if Rows.monitorProvedRow.domain.isEmpty then [] else Tryz.f12.params.toList.map fun t=>match Tryz.pinned.checked.prog.underlying t with | some (.int k)=>some k | _=>none))) = true:=by kernel_rfl
theorem fact12x29:((Rows.monitorProvedRow.pinned == Rows.monitorProvedRow.pinnedBy)) = true:=by kernel_rfl
theorem fact12x30:((Rows.monitorProvedRow.veiled == (Tryz.f12.params.toList++Rows.monitorProvedSpec.plain.varTypes Tryz.pinned.checked.prog++Tryz.f12.resultTypes.toList).any (Tryz.pinned.checked.prog.veiledRec ·))) = true:=by kernel_rfl
theorem fact12x31:(Rows.monitorProvedRow.veiledFits Tryz.pinned.checked.prog Tryz.f12.params.toList (Tryz.f12.params.toList++Rows.monitorProvedSpec.plain.varTypes Tryz.pinned.checked.prog++Tryz.f12.resultTypes.toList)) = true:=by kernel_rfl
theorem facts12:joinedFacts Tryz.pinned.checked.prog 12 Tryz.f12 Rows.monitorProvedSpec Rows.monitorProvedRow = true:=(band (band (band (band (band (band (band (band (band (band (band (band (band (band (band (band (band (band (band (band (band (band (band (band (band (band (band (band (band (band (band fact12x0 fact12x1) fact12x2) fact12x3) fact12x4) fact12x5) fact12x6) fact12x7) fact12x8) fact12x9) fact12x10) fact12x11) fact12x12) fact12x13) fact12x14) fact12x15) fact12x16) fact12x17) fact12x18) fact12x19) fact12x20) fact12x21) fact12x22) fact12x23) fact12x24) fact12x25) fact12x26) fact12x27) fact12x28) fact12x29) fact12x30) fact12x31)
theorem named12:Tryz.pinned.checked.prog.funcNamed Rows.monitorProvedRow.func = some 12:=by kernel_rfl
theorem inst12:Tryz.f12.isInstance Tryz.pinned.checked.prog Rows.monitorProvedRow.origin Rows.monitorProvedRow.targs:=of_decide_eq_true (by kernel_rfl)
theorem wrap12:Tryz.f12.isWrapper Tryz.pinned.checked.prog Rows.monitorProvedRow.wrapper Rows.monitorProvedRow.mainSum:=by
 unfold Func.isWrapper
 first | (rw [if_pos (by decide +kernel)];kernel_rfl) | (rw [if_neg (by decide +kernel)];exact ⟨rfl,rfl⟩)
end Go.Proofs.YtifnpljmjhnbaaaGreatDoor
