/-
 A part of the proof of the statement that the claim names: see the last file.
-/
import Derived.Test.YthcpfignhalffaaGreatDoorP7
import Derived.Test.YthcpfignhalffaaGreatDoorAm5
import Derived.Test.YthcpfignhalffaaGreatDoorP6
namespace Go.Proofs.YthcpfignhalffaaGreatDoor
open Go Go.Am Go.RowKit Go.ChangeShapes Go.WideShapes Go.ChangeAt
set_option maxRecDepth 100000
theorem params10_eq : Tryz.f10.params.toList = [24, 9] := by kernel_rfl
abbrev ss10x0 : List Sh := [.c ik, .c ik, .v intK]
theorem ag10x0 : aggT Tryz.prog 24 = true := by kernel_rfl
theorem sh10x0 : leavesS Tryz.prog 8 24 = some ss10x0 := by kernel_rfl
theorem sh10x1 : shOk Tryz.prog 9 (.c .str) = true := by kernel_rfl
theorem law10_all {w0 : World} (h0 : Lib0 w0) (x0 : ArgT ss10x0) (x1 : El .str) : FnD (cfg w0) 10 [.agg (toShs ss10x0 x0), .val (toV .str x1)] (Bo true) :=
 law10_fn h0 ⟨x0.1, x0.2.1, x0.2.2.1⟩ x1
theorem lifted (os : Os) (started : os.Started) (H : Type) (enc : TypeId × Value → H) :
  ReturnsInHanded {} Tryz.checked os 10 .any (fun w args => (Rows.contourStringsSpec.pre enc Tryz.prog Tryz.f10 [] false w args ∧ laidMetH Tryz.prog Rows.contourStringsRow.laid w) ∧ sizedMet enc Tryz.prog Tryz.f10 (OpenSpec.ofChange Rows.contourStringsSpec) false w args)
   (Rows.contourStringsSpec.post enc Tryz.prog Tryz.f10 false true false false) := by
 refine returnsInHanded_of_change_and (C := Tryz.checked) (X := fun w _ => laidMetH Tryz.prog Rows.contourStringsRow.laid w) (fun _ _ _ hh h => h.of_heap hh) own started (by kernel_rfl) Tryz.func10
  (ChangeSpec.witness_shaped (enc := enc) (C := Tryz.checked) (os := os) (X := fun w _ => laidMetH Tryz.prog Rows.contourStringsRow.laid w) false (worldS os) #[.agg #[iv 0, iv 0, .slice none 0 0], .string ByteArray.empty] 8 (worldS_os os) (shaped_s os _) (by kernel_rfl) (by kernel_rfl) (by kernel_rfl) (door_s os _)) ?_
 intro W base args ds gs before hval0 hW _ _ hL _
 have hval : ∀ (j : Nat) t v, Tryz.f10.params.toList[j]? = some t → args.toList[j]? = some v → Value.okWide Tryz.prog W .any base t v := fun j t v h1 h2 => hval0 j t v (by simpa using h1) (by simpa using h2)
 have hW' := hW
 obtain ⟨p, q, hA0, hV, rfl, hfz, hnd⟩ := hW
 have hA : DataW.TrodAll enc Tryz.prog W 0 (fun _ => true) true Tryz.f10.params.toList args.toList ds p := hA0
 obtain ⟨rfl, rfl⟩ := trodVars_none hV
 have hA2 := hA
 rw [params10_eq] at hA2 hval
 obtain ⟨v0, vs1, d0, ds1, p0, q0, e1, rfl, _, t0, hA3⟩ := ChangeShapes.trodAll_cons hA2
 obtain ⟨v1, vs2, d1, ds2, p1, q1, e2, rfl, _, t1, hA4⟩ := ChangeShapes.trodAll_cons hA3
 obtain ⟨rfl, rfl, _⟩ := ChangeShapes.trodAll_nil hA4
 subst e2
 obtain ⟨x0, hx0, a0⟩ := s_imp ag10x0 sh10x0 (hval 0 24 v0 rfl (by rw [e1]; rfl)) t0
 obtain ⟨x1, hx1, a1⟩ := c_imp sh10x1 (hval 1 9 v1 rfl (by rw [e1]; rfl)) t1
 have h0 := lib_s hL
 have hb := base_s hL
 have himp : ImpsOK (cfg W).G (cfg W).GB W [.agg (toShs ss10x0 x0), .val (toV .str x1)] args.toList := by
  rw [e1]
  exact ImpsOK.cons (a0 _ _) (ImpsOK.cons (a1 _ _) ⟨rfl, fun j d u h => by simp at h⟩)
 refine (fnD_below (C := cfg W) rfl (law10_all h0 x0 x1) hb himp).mono fun e' W' ⟨he, hB⟩ => ?_
 subst he
 exact ⟨_, rfl, ⟨_, _, _, [], _, [], hW', trodAll_mk1 (shut_bool Tryz.underlying4 true), all_below laidOut hB _ _ _ _ (by kernel_rfl) hA (fun x hx => by simpa using hW'.lt x (by simpa using hx)), rfl, hB.frame _, fun h => by cases h⟩⟩
end Go.Proofs.YthcpfignhalffaaGreatDoor
