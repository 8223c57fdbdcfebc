/-
  A part of the proof of the statement that the claim names: see the last file.
-/
import Derived.Test.YtifnpljmjhnbaaaGreatDoorM7
import Derived.Test.YtifnpljmjhnbaaaGreatDoorV6
namespace Go.Proofs.YtifnpljmjhnbaaaGreatDoor
open Go Go.Am Go.RowKit Go.ChangeShapes Go.WideShapes Go.ChangeAt
set_option maxRecDepth 100000


theorem params6_eq : Tryz.f6.params.toList = [70, 70, 71] := by kernel_rfl
abbrev ks6x0 : List Kd := [.float .f32]
theorem sh6x0 : shOk Tryz.prog 70 (.v ks6x0) = true := by kernel_rfl
abbrev ks6x1 : List Kd := [.float .f32]
theorem sh6x1 : shOk Tryz.prog 70 (.v ks6x1) = true := by kernel_rfl
abbrev ks6x2 : List Kd := [.int .i64, .int .i64]
theorem sh6x2 : shOk Tryz.prog 71 (.b ks6x2) = true := by kernel_rfl
theorem laid6 : Rows.monitorLagsRow.laid = Rows.monitorChecksRow.laid := rfl
theorem law6_all {w0 : World} (h0 : Lib0 w0) (x0 : List (Tup ks6x0)) (x1 : List (Tup ks6x1)) (x2 : Tup ks6x2) : FnD (cfg w0) 6 [.vec ks6x0 x0, .vec ks6x1 x1, .agg ((toVs ks6x2 x2).map .val)] (Bo true) :=
  law6_fn h0 x0 x1 x2.1 x2.2.1

theorem lifted (os : Os) (started : os.Started) (H : Type) (enc : TypeId × Value → H) :
    ReturnsInHanded {} Tryz.checked os 6 .any (fun w args => (Rows.monitorLagsSpec.pre enc Tryz.prog Tryz.f6 [] false w args ∧ laidMetH Tryz.prog Rows.monitorLagsRow.laid w) ∧ sizedMet enc Tryz.prog Tryz.f6 (OpenSpec.ofChange Rows.monitorLagsSpec) false w args)
      (Rows.monitorLagsSpec.post enc Tryz.prog Tryz.f6 false true false false) := by
  refine returnsInHanded_of_change_and (C := Tryz.checked) (X := fun w _ => laidMetH Tryz.prog Rows.monitorLagsRow.laid w) (fun _ _ _ hh h => h.of_heap hh) own started (by kernel_rfl) Tryz.func6
    (ChangeSpec.witness_shaped (enc := enc) (C := Tryz.checked) (os := os) (X := fun w _ => laidMetH Tryz.prog Rows.monitorLagsRow.laid w) false (World.doorLaid Tryz.prog 600 os) #[.slice none 0 0, .slice none 0 0, .agg #[.int .i64 0, .int .i64 0]] 8 rfl (World.shaped_of_RefB (by kernel_rfl) (by kernel_rfl)) (by kernel_rfl) (by kernel_rfl) (by kernel_rfl) (door_met os _)) ?_
  intro W base args ds gs before hval0 hW _ _ hL _
  have hval : ∀ (j : Nat) t v, Tryz.f6.params.toList[j]? = some t → args.toList[j]? = some v → Value.okWide Tryz.prog W .any base t v := fun j t v h1 h2 => hval0 j t v (by simpa using h1) (by simpa using h2)
  have hW' := hW
  obtain ⟨p, q, hA0, hV, rfl, hfz, hnd⟩ := hW
  have hA : DataW.TrodAll enc Tryz.prog W 0 (fun _ => true) true Tryz.f6.params.toList args.toList ds p := hA0
  obtain ⟨rfl, rfl⟩ := trodVars_none hV
  have hA2 := hA
  rw [params6_eq] at hA2 hval
  obtain ⟨v0, vs1, d0, ds1, p0, q0, e1, rfl, _, t0, hA3⟩ := ChangeShapes.trodAll_cons hA2
  obtain ⟨v1, vs2, d1, ds2, p1, q1, e2, rfl, _, t1, hA4⟩ := ChangeShapes.trodAll_cons hA3
  obtain ⟨v2, vs3, d2, ds3, p2, q2, e3, rfl, _, t2, hA5⟩ := ChangeShapes.trodAll_cons hA4
  obtain ⟨rfl, rfl, _⟩ := ChangeShapes.trodAll_nil hA5
  subst e3
  subst e2
  obtain ⟨x0, hx0, a0⟩ := v_imp sh6x0 (hval 0 70 v0 rfl (by rw [e1]; rfl)) t0
  obtain ⟨x1, hx1, a1⟩ := v_imp sh6x1 (hval 1 70 v1 rfl (by rw [e1]; rfl)) t1
  obtain ⟨x2, hx2, a2⟩ := b_imp sh6x2 (hval 2 71 v2 rfl (by rw [e1]; rfl)) t2
  have h0 := lib_of hL
  have hb := base_of hL
  have himp : ImpsOK (cfg W).G (cfg W).GB W [.vec ks6x0 x0, .vec ks6x1 x1, .agg ((toVs ks6x2 x2).map .val)] args.toList := by
    rw [e1]
    exact ImpsOK.cons (a0 _ _) (ImpsOK.cons (a1 _ _) (ImpsOK.cons (a2 _ _) ⟨rfl, fun j d u h => by simp at h⟩))
  refine (fnD_below (C := cfg W) rfl (law6_all h0 x0 x1 x2) hb himp).mono fun e' W' ⟨he, hB⟩ => ?_
  subst he
  exact ⟨_, rfl, ⟨_, _, _, [], _, [], hW', trodAll_mk1 (shut_bool Tryz.underlying4 true), all_below laidOut hB _ _ _ _ (by kernel_rfl) hA (fun x hx => by simpa using hW'.lt x (by simpa using hx)), rfl, hB.frame _, fun h => by cases h⟩⟩
end Go.Proofs.YtifnpljmjhnbaaaGreatDoor
