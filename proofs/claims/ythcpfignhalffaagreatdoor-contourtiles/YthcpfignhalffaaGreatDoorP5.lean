/-
  A part of the proof of the statement that the claim names: see the last file.
-/
import Derived.Test.YthcpfignhalffaaGreatDoorP4
import Derived.Test.YthcpfignhalffaaGreatDoorP2
namespace Go.Proofs.YthcpfignhalffaaGreatDoor
open Go Go.Am Go.RowKit Go.ChangeShapes Go.WideShapes Go.ChangeAt
set_option maxRecDepth 100000


theorem law9_fn {w0 : World} (h0 : Lib0 w0) (a b : Gr) (bx : Bx) (x y : Int) : FnD (cfg w0) 9 [gD a, gD b, spotD bx x y] (Bo true) :=
  fnD_k (cfg_ok w0) h0 (cs := csU) (csU_gd h0) (g := 9) (fd := fnOf Tryz.f9) rfl ((run9 a b bx x y).trans (law9_true a b bx x y))

abbrev ssG : List Sh := [.c ik, .c ik, .v intK]
abbrev spK : List Kd := [ik, ik, ik, ik, ik, ik]
theorem params9_eq : Tryz.f9.params.toList = [24, 24, 139] := by kernel_rfl
theorem lvG : leavesS Tryz.prog 8 24 = some ssG := by kernel_rfl
theorem aggG : aggT Tryz.prog 24 = true := by kernel_rfl
theorem shSp : shOk Tryz.prog 139 (.b spK) = true := by kernel_rfl

abbrev arg9 : Array Value := #[.agg #[iv 0, iv 0, .slice none 0 0], .agg #[iv 0, iv 0, .slice none 0 0], .agg #[iv 0, iv 0, iv 0, iv 0, iv 0, iv 0]]

theorem law9_all {w0 : World} (h0 : Lib0 w0) (a b : ArgT ssG) (s : Tup spK) : FnD (cfg w0) 9 [.agg (toShs ssG a), .agg (toShs ssG b), .agg ((toVs spK s).map .val)] (Bo true) :=
  law9_fn h0 ⟨a.1, a.2.1, a.2.2.1⟩ ⟨b.1, b.2.1, b.2.2.1⟩ ⟨s.1, s.2.1, s.2.2.1, s.2.2.2.1⟩ s.2.2.2.2.1 s.2.2.2.2.2.1

theorem lifted (os : Os) (started : os.Started) (H : Type) (enc : TypeId × Value → H) :
    ReturnsInHanded {} Tryz.checked os 9 .any (fun w args => (Rows.contourTilesSpec.pre enc Tryz.prog Tryz.f9 [] false w args ∧ laidMetH Tryz.prog Rows.contourTilesRow.laid w) ∧ sizedMet enc Tryz.prog Tryz.f9 (OpenSpec.ofChange Rows.contourTilesSpec) false w args)
      (Rows.contourTilesSpec.post enc Tryz.prog Tryz.f9 false true false false) := by
  refine returnsInHanded_of_change_and (C := Tryz.checked) (X := fun w _ => laidMetH Tryz.prog Rows.contourTilesRow.laid w) (fun _ _ _ hh h => h.of_heap hh) own started (by kernel_rfl) Tryz.func9
    (ChangeSpec.witness_shaped (enc := enc) (C := Tryz.checked) (os := os) (X := fun w _ => laidMetH Tryz.prog Rows.contourTilesRow.laid w) false (World.doorLaid Tryz.prog 600 os) arg9 8 rfl (World.shaped_of_RefB (by kernel_rfl) (by kernel_rfl)) (by kernel_rfl) (by kernel_rfl) (by kernel_rfl) (door_met os _)) ?_
  intro W base args ds gs before hval0 hW _ _ hL _
  have hval : ∀ (j : Nat) t v, Tryz.f9.params.toList[j]? = some t → args.toList[j]? = some v → Value.okWide Tryz.prog W .any base t v := fun j t v h1 h2 => hval0 j t v (by simpa using h1) (by simpa using h2)
  have hW' := hW
  obtain ⟨p, q, hA0, hV, rfl, hfz, hnd⟩ := hW
  have hA : DataW.TrodAll enc Tryz.prog W 0 (fun _ => true) true Tryz.f9.params.toList args.toList ds p := hA0
  obtain ⟨rfl, rfl⟩ := trodVars_none hV
  have hA2 := hA
  rw [params9_eq] at hA2 hval
  obtain ⟨v0, vs1, d0, ds1, p0, q0, e1, rfl, _, t0, hA3⟩ := ChangeShapes.trodAll_cons hA2
  obtain ⟨v1, vs2, d1, ds2, p1, q1, e2, rfl, _, t1, hA4⟩ := ChangeShapes.trodAll_cons hA3
  obtain ⟨v2, vs3, d2, ds3, p2, q2, e3, rfl, _, t2, hA5⟩ := ChangeShapes.trodAll_cons hA4
  obtain ⟨rfl, rfl, _⟩ := ChangeShapes.trodAll_nil hA5
  subst e3
  subst e2
  obtain ⟨a, _, a0⟩ := s_imp aggG lvG (hval 0 24 v0 rfl (by rw [e1]; rfl)) t0
  obtain ⟨b, _, a1⟩ := s_imp aggG lvG (hval 1 24 v1 rfl (by rw [e1]; rfl)) t1
  obtain ⟨s, _, a2⟩ := b_imp shSp (hval 2 139 v2 rfl (by rw [e1]; rfl)) t2
  have h0 := lib_of hL
  have hb := base_of hL
  have himp : ImpsOK (cfg W).G (cfg W).GB W [.agg (toShs ssG a), .agg (toShs ssG b), .agg ((toVs spK s).map .val)] args.toList := by
    rw [e1]
    exact ImpsOK.cons (a0 _ _) (ImpsOK.cons (a1 _ _) (ImpsOK.cons (a2 _ _) ⟨rfl, fun j d u h => by simp at h⟩))
  refine (fnD_below (C := cfg W) rfl (law9_all h0 a b s) hb himp).mono fun e' W' ⟨he, hB⟩ => ?_
  subst he
  exact ⟨_, rfl, ⟨_, _, _, [], _, [], hW', trodAll_mk1 (shut_bool Tryz.underlying4 true), all_below laidOut hB _ _ _ _ (by kernel_rfl) hA (fun x hx => by simpa using hW'.lt x (by simpa using hx)), rfl, hB.frame _, fun h => by cases h⟩⟩
end Go.Proofs.YthcpfignhalffaaGreatDoor
