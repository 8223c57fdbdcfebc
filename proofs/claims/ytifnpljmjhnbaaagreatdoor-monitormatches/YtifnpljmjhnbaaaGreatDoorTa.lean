/-
  A part of the proof of the statement that the claim names: see the last file.
-/
import Derived.Test.YtifnpljmjhnbaaaGreatDoorM7
import Derived.Test.YtifnpljmjhnbaaaGreatDoorAm7
import Derived.Test.YtifnpljmjhnbaaaGreatDoorT9
namespace Go.Proofs.YtifnpljmjhnbaaaGreatDoor
open Go Go.Am Go.RowKit Go.ChangeShapes Go.WideShapes Go.ChangeAt
set_option maxRecDepth 100000


theorem params8_eq : Tryz.f8.params.toList = [64, 86, 115] := by kernel_rfl
abbrev ks8x0 : List Kd := [ik, ik, ik, ik, ik, ik]
theorem sh8x0 : shOk Tryz.prog 64 (.v ks8x0) = true := by kernel_rfl
abbrev ks8x1 : List Kd := [.str, ik, ik, ik, ik]
theorem sh8x1 : shOk Tryz.prog 86 (.v ks8x1) = true := by kernel_rfl
abbrev ss8x2 : List Sh := [.c ik, .v [ik], .v [ik], .v [ik]]
theorem ag8x2 : aggT Tryz.prog 115 = true := by kernel_rfl
theorem sh8x2 : leavesX Tryz.prog 8 115 = some ss8x2 := by kernel_rfl
theorem laid8 : Rows.monitorMatchesRow.laid = Rows.monitorChecksRow.laid := rfl
theorem law8_all {w0 : World} (h0 : Lib0 w0) (x0 : List (Tup ks8x0)) (x1 : List (Tup ks8x1)) (hl1 : x1.length ≤ maxLen) (x2 : ArgT ss8x2) : FnD (cfg w0) 8 [.vec ks8x0 x0, .vec ks8x1 x1, .agg (toShs ss8x2 x2)] (Bo true) :=
  law8_fn h0 x0 x1 ⟨x2.1, x2.2.1, x2.2.2.1, x2.2.2.2.1⟩ hl1

theorem lifted (os : Os) (started : os.Started) (H : Type) (enc : TypeId × Value → H) :
    ReturnsInHanded {} Tryz.checked os 8 .any (fun w args => (Rows.monitorMatchesSpec.pre enc Tryz.prog Tryz.f8 [] false w args ∧ laidMetH Tryz.prog Rows.monitorMatchesRow.laid w) ∧ sizedMet enc Tryz.prog Tryz.f8 (OpenSpec.ofChange Rows.monitorMatchesSpec) false w args)
      (Rows.monitorMatchesSpec.post enc Tryz.prog Tryz.f8 false true false false) := by
  refine returnsInHanded_of_change_and (C := Tryz.checked) (X := fun w _ => laidMetH Tryz.prog Rows.monitorMatchesRow.laid w) (fun _ _ _ hh h => h.of_heap hh) own started (by kernel_rfl) Tryz.func8
    (ChangeSpec.witness_shaped (enc := enc) (C := Tryz.checked) (os := os) (X := fun w _ => laidMetH Tryz.prog Rows.monitorMatchesRow.laid w) false (World.doorLaid Tryz.prog 600 os) #[.slice none 0 0, .slice none 0 0, .agg #[iv 0, .slice none 0 0, .slice none 0 0, .slice none 0 0]] 8 rfl (World.shaped_of_RefB (by kernel_rfl) (by kernel_rfl)) (by kernel_rfl) (by kernel_rfl) (by kernel_rfl) (door_met os _)) ?_
  intro W base args ds gs before hval0 hW _ _ hL _
  have hval : ∀ (j : Nat) t v, Tryz.f8.params.toList[j]? = some t → args.toList[j]? = some v → Value.okWide Tryz.prog W .any base t v := fun j t v h1 h2 => hval0 j t v (by simpa using h1) (by simpa using h2)
  have hW' := hW
  obtain ⟨p, q, hA0, hV, rfl, hfz, hnd⟩ := hW
  have hA : DataW.TrodAll enc Tryz.prog W 0 (fun _ => true) true Tryz.f8.params.toList args.toList ds p := hA0
  obtain ⟨rfl, rfl⟩ := trodVars_none hV
  have hA2 := hA
  rw [params8_eq] at hA2 hval
  obtain ⟨v0, vs1, d0, ds1, p0, q0, e1, rfl, _, t0, hA3⟩ := ChangeShapes.trodAll_cons hA2
  obtain ⟨v1, vs2, d1, ds2, p1, q1, e2, rfl, _, t1, hA4⟩ := ChangeShapes.trodAll_cons hA3
  obtain ⟨v2, vs3, d2, ds3, p2, q2, e3, rfl, _, t2, hA5⟩ := ChangeShapes.trodAll_cons hA4
  obtain ⟨rfl, rfl, _⟩ := ChangeShapes.trodAll_nil hA5
  subst e3
  subst e2
  obtain ⟨x0, hx0, a0⟩ := v_imp sh8x0 (hval 0 64 v0 rfl (by rw [e1]; rfl)) t0
  obtain ⟨x1, hl1, hx1, a1⟩ := v_impW sh8x1 (hval 1 86 v1 rfl (by rw [e1]; rfl)) t1
  obtain ⟨x2, hx2, a2⟩ := x_imp ag8x2 sh8x2 (hval 2 115 v2 rfl (by rw [e1]; rfl)) t2
  have h0 := lib_of hL
  have hb := base_of hL
  have himp : ImpsOK (cfg W).G (cfg W).GB W [.vec ks8x0 x0, .vec ks8x1 x1, .agg (toShs ss8x2 x2)] args.toList := by
    rw [e1]
    exact ImpsOK.cons (a0 _ _) (ImpsOK.cons (a1 _ _) (ImpsOK.cons (a2 _ _) ⟨rfl, fun j d u h => by simp at h⟩))
  refine (fnD_below (C := cfg W) rfl (law8_all h0 x0 x1 hl1 x2) hb himp).mono fun e' W' ⟨he, hB⟩ => ?_
  subst he
  exact ⟨_, rfl, ⟨_, _, _, [], _, [], hW', trodAll_mk1 (shut_bool Tryz.underlying4 true), all_below laidOut hB _ _ _ _ (by kernel_rfl) hA (fun x hx => by simpa using hW'.lt x (by simpa using hx)), rfl, hB.frame _, fun h => by cases h⟩⟩
end Go.Proofs.YtifnpljmjhnbaaaGreatDoor
