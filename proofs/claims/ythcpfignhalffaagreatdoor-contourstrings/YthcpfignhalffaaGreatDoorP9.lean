/-
 A part of the proof of the statement that the claim names: see the last file.
-/
import Derived.Test.YthcpfignhalffaaGreatDoorP8
namespace Go.Proofs.YthcpfignhalffaaGreatDoor
open Go
set_option maxRecDepth 100000
theorem band {a b : Bool} (ha : a = true) (hb : b = true) : (a && b) = true := by rw [ha, hb]; rfl
theorem fact10x0 : (Rows.contourStringsRow.wf (OpenSpec.ofChange Rows.contourStringsSpec)) = true := by kernel_rfl
theorem fact10x1 : (laidOutB Tryz.pinned.checked.prog) = true := by kernel_rfl
theorem fact10x2 : (mapsRowed Tryz.pinned.checked.prog) = true := by kernel_rfl
theorem fact10x3 : (Tryz.f10.params.all (Tryz.pinned.checked.prog.readableRec ·)) = true := by kernel_rfl
theorem fact10x4 : (namedTie Tryz.pinned.checked.prog Rows.contourStringsRow.named Rows.contourStringsSpec.vars) = true := by kernel_rfl
theorem fact10x5 : ((Rows.contourStringsRow.stops == [])) = true := by kernel_rfl
theorem fact10x6 : ((Tryz.pinned.checked.prog.stops == [])) = true := by kernel_rfl
theorem fact10x7 : ((Rows.contourStringsRow.knobs == [])) = true := by kernel_rfl
theorem fact10x8 : ((Tryz.pinned.checked.prog.stopKnobs == [])) = true := by kernel_rfl
theorem fact10x9 : ((Rows.contourStringsRow.inPlace == Tryz.pinned.checked.prog.inPlace 10)) = true := by kernel_rfl
theorem fact10x10 : ((Rows.contourStringsRow.unfollowed == Tryz.pinned.checked.prog.unfollowed 10)) = true := by kernel_rfl
theorem fact10x11 : ((Rows.contourStringsRow.recurses == Tryz.pinned.checked.prog.recurses 10)) = true := by kernel_rfl
theorem fact10x12 : ((Rows.contourStringsRow.named == Tryz.pinned.checked.prog.varsNamed 10)) = true := by kernel_rfl
theorem fact10x13 : ((Rows.contourStringsRow.maps == (Tryz.f10.params.toList ++ Rows.contourStringsSpec.plain.varTypes Tryz.pinned.checked.prog).any (Tryz.pinned.checked.prog.mapsRec ·))) = true := by kernel_rfl
theorem fact10x14 : ((Rows.contourStringsRow.ifaces == (Tryz.f10.params.toList ++ Rows.contourStringsSpec.plain.varTypes Tryz.pinned.checked.prog).any (Tryz.pinned.checked.prog.ifacesRec ·))) = true := by kernel_rfl
theorem fact10x15 : ((Rows.contourStringsRow.mapsOut == Tryz.pinned.checked.prog.mapsAmong Tryz.f10.resultTypes.toList)) = true := by kernel_rfl
theorem fact10x16 : ((Rows.contourStringsRow.loops == (Tryz.f10.params.toList ++ Rows.contourStringsSpec.plain.varTypes Tryz.pinned.checked.prog).any (Tryz.pinned.checked.prog.loopsFrom ·))) = true := by kernel_rfl
theorem fact10x17 : ((Rows.contourStringsRow.wideKeys == (Tryz.f10.params.toList ++ Rows.contourStringsSpec.plain.varTypes Tryz.pinned.checked.prog ++ Tryz.f10.resultTypes.toList).any (Tryz.pinned.checked.prog.wideKeysFrom ·))) = true := by kernel_rfl
theorem fact10x18 : (Rows.contourStringsSpec.vars.all (Tryz.pinned.checked.prog.varReadable ·)) = true := by kernel_rfl
theorem fact10x19 : (Tryz.f10.resultTypes.all (fun t => Tryz.pinned.checked.prog.readableRec t && decide (t < Tryz.pinned.checked.prog.types.size))) = true := by kernel_rfl
theorem fact10x20 : ((Rows.contourStringsRow.ifacesOut == Tryz.f10.resultTypes.toList.any (Tryz.pinned.checked.prog.ifacesRec ·))) = true := by kernel_rfl
theorem fact10x21 : ((Rows.contourStringsRow.loopsOut == Tryz.f10.resultTypes.toList.any (Tryz.pinned.checked.prog.loopsFrom ·))) = true := by kernel_rfl
theorem fact10x22 : ((Rows.contourStringsRow.plainKeys == Tryz.pinned.checked.prog.plainKeys)) = true := by kernel_rfl
theorem fact10x23 : (Rows.contourStringsRow.shortTexts.isNone) = true := by kernel_rfl
theorem fact10x24 : (Tryz.pinned.checked.prog.stopsHeard) = true := by kernel_rfl
theorem fact10x25 : (Tryz.pinned.checked.prog.mayEnter) = true := by kernel_rfl
theorem fact10x26 : ((Rows.contourStringsRow.lifted == Tryz.pinned.checked.prog.liftsFinal)) = true := by kernel_rfl
theorem fact10x27 : ((Tryz.pinned.checked.prog.make == some Rows.contourStringsRow.make)) = true := by kernel_rfl
theorem fact10x28 : ((Rows.contourStringsRow.kinds == (if Rows.contourStringsRow.domain.isEmpty then [] else Tryz.f10.params.toList.map fun t => match Tryz.pinned.checked.prog.underlying t with | some (.int k) => some k | _ => none))) = true := by kernel_rfl
theorem fact10x29 : ((Rows.contourStringsRow.pinned == Rows.contourStringsRow.pinnedBy)) = true := by kernel_rfl
theorem fact10x30 : ((Rows.contourStringsRow.veiled == (Tryz.f10.params.toList ++ Rows.contourStringsSpec.plain.varTypes Tryz.pinned.checked.prog ++ Tryz.f10.resultTypes.toList).any (Tryz.pinned.checked.prog.veiledRec ·))) = true := by kernel_rfl
theorem fact10x31 : (Rows.contourStringsRow.veiledFits Tryz.pinned.checked.prog Tryz.f10.params.toList (Tryz.f10.params.toList ++ Rows.contourStringsSpec.plain.varTypes Tryz.pinned.checked.prog ++ Tryz.f10.resultTypes.toList)) = true := by kernel_rfl
theorem facts10 : joinedFacts Tryz.pinned.checked.prog 10 Tryz.f10 Rows.contourStringsSpec Rows.contourStringsRow = true := (band (band (band (band (band (band (band (band (band (band (band (band (band (band (band (band (band (band (band (band (band (band (band (band (band (band (band (band (band (band (band fact10x0 fact10x1) fact10x2) fact10x3) fact10x4) fact10x5) fact10x6) fact10x7) fact10x8) fact10x9) fact10x10) fact10x11) fact10x12) fact10x13) fact10x14) fact10x15) fact10x16) fact10x17) fact10x18) fact10x19) fact10x20) fact10x21) fact10x22) fact10x23) fact10x24) fact10x25) fact10x26) fact10x27) fact10x28) fact10x29) fact10x30) fact10x31)
theorem named10 : Tryz.pinned.checked.prog.funcNamed Rows.contourStringsRow.func = some 10 := by kernel_rfl
theorem inst10 : Tryz.f10.isInstance Tryz.pinned.checked.prog Rows.contourStringsRow.origin Rows.contourStringsRow.targs := of_decide_eq_true (by kernel_rfl)
theorem wrap10 : Tryz.f10.isWrapper Tryz.pinned.checked.prog Rows.contourStringsRow.wrapper Rows.contourStringsRow.mainSum := by
 unfold Func.isWrapper
 first | (rw [if_pos (by decide +kernel)]; kernel_rfl) | (rw [if_neg (by decide +kernel)]; exact ⟨rfl, rfl⟩)
end Go.Proofs.YthcpfignhalffaaGreatDoor
