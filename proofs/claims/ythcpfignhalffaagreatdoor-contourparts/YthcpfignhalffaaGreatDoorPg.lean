/-
 A part of the proof of the statement that the claim names: see the last file.
-/
import Derived.Test.YthcpfignhalffaaGreatDoorPf
import Derived.Test.YthcpfignhalffaaGreatDoorAm5
import Derived.Test.YthcpfignhalffaaGreatDoorPe
namespace Go.Proofs.YthcpfignhalffaaGreatDoor
open Go Go.Am Go.RowKit Go.ChangeShapes Go.WideShapes Go.ChangeAt
set_option maxRecDepth 100000
theorem params11_eq : Tryz.f11.params.toList = [24, 158] := by kernel_rfl
abbrev ss11x0 : List Sh := [.c ik, .c ik, .v intK]
theorem ag11x0 : aggT Tryz.prog 24 = true := by kernel_rfl
theorem sh11x0 : leavesS Tryz.prog 8 24 = some ss11x0 := by kernel_rfl
abbrev ks11x1 : List Kd := [.int .u8, .int .u8, .int .u8, .int .u8]
theorem sh11x1 : shOk Tryz.prog 158 (.b ks11x1) = true := by kernel_rfl
theorem law11_all {w0 : World} (h0 : Lib0 w0) (x0 : ArgT ss11x0) (x1 : Tup ks11x1) (hx1 : WfT ks11x1 x1) : FnD (cfg w0) 11 [.agg (toShs ss11x0 x0), .agg ((toVs ks11x1 x1).map .val)] (Bo true) :=
 law11_fn h0 ⟨x0.1, x0.2.1, x0.2.2.1⟩ x1 (u8s_of hx1)
theorem lifted (os : Os) (started : os.Started) (H : Type) (enc : TypeId × Value → H) :
  ReturnsInHanded {} Tryz.checked os 11 .any (fun w args => (Rows.contourPartsSpec.pre enc Tryz.prog Tryz.f11 [] false w args ∧ laidMetH Tryz.prog Rows.contourPartsRow.laid w) ∧ sizedMet enc Tryz.prog Tryz.f11 (OpenSpec.ofChange Rows.contourPartsSpec) false w args)
   (Rows.contourPartsSpec.post enc Tryz.prog Tryz.f11 false true false false) := by
 refine returnsInHanded_of_change_and (C := Tryz.checked) (X := fun w _ => laidMetH Tryz.prog Rows.contourPartsRow.laid w) (fun _ _ _ hh h => h.of_heap hh) own started (by kernel_rfl) Tryz.func11
  (ChangeSpec.witness_shaped (enc := enc) (C := Tryz.checked) (os := os) (X := fun w _ => laidMetH Tryz.prog Rows.contourPartsRow.laid w) false (worldS os) #[.agg #[iv 0, iv 0, .slice none 0 0], .agg #[.int .u8 0, .int .u8 0, .int .u8 0, .int .u8 0]] 8 (worldS_os os) (shaped_s os _) (by kernel_rfl) (by kernel_rfl) (by kernel_rfl) (door_s os _)) ?_
 intro W base args ds gs before hval0 hW _ _ hL _
 have hval : ∀ (j : Nat) t v, Tryz.f11.params.toList[j]? = some t → args.toList[j]? = some v → Value.okWide Tryz.prog W .any base t v := fun j t v h1 h2 => hval0 j t v (by simpa using h1) (by simpa using h2)
 have hW' := hW
 obtain ⟨p, q, hA0, hV, rfl, hfz, hnd⟩ := hW
 have hA : DataW.TrodAll enc Tryz.prog W 0 (fun _ => true) true Tryz.f11.params.toList args.toList ds p := hA0
 obtain ⟨rfl, rfl⟩ := trodVars_none hV
 have hA2 := hA
 rw [params11_eq] at hA2 hval
 obtain ⟨v0, vs1, d0, ds1, p0, q0, e1, rfl, _, t0, hA3⟩ := ChangeShapes.trodAll_cons hA2
 obtain ⟨v1, vs2, d1, ds2, p1, q1, e2, rfl, _, t1, hA4⟩ := ChangeShapes.trodAll_cons hA3
 obtain ⟨rfl, rfl, _⟩ := ChangeShapes.trodAll_nil hA4
 subst e2
 obtain ⟨x0, hx0, a0⟩ := s_imp ag11x0 sh11x0 (hval 0 24 v0 rfl (by rw [e1]; rfl)) t0
 obtain ⟨x1, hx1, a1⟩ := b_imp sh11x1 (hval 1 158 v1 rfl (by rw [e1]; rfl)) t1
 have h0 := lib_s hL
 have hb := base_s hL
 have himp : ImpsOK (cfg W).G (cfg W).GB W [.agg (toShs ss11x0 x0), .agg ((toVs ks11x1 x1).map .val)] args.toList := by
  rw [e1]
  exact ImpsOK.cons (a0 _ _) (ImpsOK.cons (a1 _ _) ⟨rfl, fun j d u h => by simp at h⟩)
 refine (fnD_below (C := cfg W) rfl (law11_all h0 x0 x1 hx1) hb himp).mono fun e' W' ⟨he, hB⟩ => ?_
 subst he
 exact ⟨_, rfl, ⟨_, _, _, [], _, [], hW', trodAll_mk1 (shut_bool Tryz.underlying4 true), all_below laidOut hB _ _ _ _ (by kernel_rfl) hA (fun x hx => by simpa using hW'.lt x (by simpa using hx)), rfl, hB.frame _, fun h => by cases h⟩⟩
end Go.Proofs.YthcpfignhalffaaGreatDoor
