/-
  A part of the proof of the statement that the claim names: see the last file.
-/
import Derived.Test.YthcpfignhalffaaGreatDoorP6
import Derived.Test.YthcpfignhalffaaGreatDoorP5
namespace Go.Proofs.YthcpfignhalffaaGreatDoor
open Go Go.Am Go.RowKit Go.ChangeShapes Go.WideShapes Go.ChangeAt
set_option maxRecDepth 100000


abbrev ssG : List Sh := [.c ik, .c ik, .v intK]
abbrev ssC : List Sh := [.v ptK, .c ik, .v intK]
theorem laid4 : Rows.contourAreasRow.laid = Rows.contourTilesRow.laid := rfl
theorem params4_eq : Tryz.f4.params.toList = [55, 24, 58] := by kernel_rfl
theorem lvG : leavesS Tryz.prog 8 24 = some ssG := by kernel_rfl
theorem aggG : aggT Tryz.prog 24 = true := by kernel_rfl
theorem lvC : leavesS Tryz.prog 8 58 = some ssC := by kernel_rfl
theorem aggC : aggT Tryz.prog 58 = true := by kernel_rfl
theorem shPg : shOk Tryz.prog 55 (.v ptK) = true := by kernel_rfl

abbrev arg4 : Array Value := #[.slice none 0 0, .agg #[iv 0, iv 0, .slice none 0 0], .agg #[.slice none 0 0, iv 0, .slice none 0 0]]

theorem law4_all {w0 : World} (h0 : Lib0 w0) (p : List (Tup ptK)) (g : ArgT ssG) (c : ArgT ssC) : FnD (cfg w0) 4 [.vec ptK p, .agg (toShs ssG g), .agg (toShs ssC c)] (Bo true) :=
  law4_fn h0 p ⟨g.1, g.2.1, g.2.2.1⟩ c.1 c.2.1 c.2.2.1

theorem lifted (os : Os) (started : os.Started) (H : Type) (enc : TypeId × Value → H) :
    ReturnsInHanded {} Tryz.checked os 4 .any (fun w args => (Rows.contourAreasSpec.pre enc Tryz.prog Tryz.f4 [] false w args ∧ laidMetH Tryz.prog Rows.contourAreasRow.laid w) ∧ sizedMet enc Tryz.prog Tryz.f4 (OpenSpec.ofChange Rows.contourAreasSpec) false w args)
      (Rows.contourAreasSpec.post enc Tryz.prog Tryz.f4 false true false false) := by
  refine returnsInHanded_of_change_and (C := Tryz.checked) (X := fun w _ => laidMetH Tryz.prog Rows.contourAreasRow.laid w) (fun _ _ _ hh h => h.of_heap hh) own started (by kernel_rfl) Tryz.func4
    (ChangeSpec.witness_shaped (enc := enc) (C := Tryz.checked) (os := os) (X := fun w _ => laidMetH Tryz.prog Rows.contourAreasRow.laid w) false (World.doorLaid Tryz.prog 600 os) arg4 8 rfl (World.shaped_of_RefB (by kernel_rfl) (by kernel_rfl)) (by kernel_rfl) (by kernel_rfl) (by kernel_rfl) (door_met os _)) ?_
  intro W base args ds gs before hval0 hW _ _ hL _
  have hval : ∀ (j : Nat) t v, Tryz.f4.params.toList[j]? = some t → args.toList[j]? = some v → Value.okWide Tryz.prog W .any base t v := fun j t v h1 h2 => hval0 j t v (by simpa using h1) (by simpa using h2)
  have hW' := hW
  obtain ⟨p, q, hA0, hV, rfl, hfz, hnd⟩ := hW
  have hA : DataW.TrodAll enc Tryz.prog W 0 (fun _ => true) true Tryz.f4.params.toList args.toList ds p := hA0
  obtain ⟨rfl, rfl⟩ := trodVars_none hV
  have hA2 := hA
  rw [params4_eq] at hA2 hval
  obtain ⟨v0, vs1, d0, ds1, p0, q0, e1, rfl, _, t0, hA3⟩ := ChangeShapes.trodAll_cons hA2
  obtain ⟨v1, vs2, d1, ds2, p1, q1, e2, rfl, _, t1, hA4⟩ := ChangeShapes.trodAll_cons hA3
  obtain ⟨v2, vs3, d2, ds3, p2, q2, e3, rfl, _, t2, hA5⟩ := ChangeShapes.trodAll_cons hA4
  obtain ⟨rfl, rfl, _⟩ := ChangeShapes.trodAll_nil hA5
  subst e3
  subst e2
  obtain ⟨a, _, a0⟩ := v_imp shPg (hval 0 55 v0 rfl (by rw [e1]; rfl)) t0
  obtain ⟨b, _, a1⟩ := s_imp aggG lvG (hval 1 24 v1 rfl (by rw [e1]; rfl)) t1
  obtain ⟨s, _, a2⟩ := s_imp aggC lvC (hval 2 58 v2 rfl (by rw [e1]; rfl)) t2
  have h0 := lib_of hL
  have hb := base_of hL
  have himp : ImpsOK (cfg W).G (cfg W).GB W [.vec ptK a, .agg (toShs ssG b), .agg (toShs ssC s)] args.toList := by
    rw [e1]
    exact ImpsOK.cons (a0 _ _) (ImpsOK.cons (a1 _ _) (ImpsOK.cons (a2 _ _) ⟨rfl, fun j d u h => by simp at h⟩))
  refine (fnD_below (C := cfg W) rfl (law4_all h0 a b s) hb himp).mono fun e' W' ⟨he, hB⟩ => ?_
  subst he
  exact ⟨_, rfl, ⟨_, _, _, [], _, [], hW', trodAll_mk1 (shut_bool Tryz.underlying4 true), all_below laidOut hB _ _ _ _ (by kernel_rfl) hA (fun x hx => by simpa using hW'.lt x (by simpa using hx)), rfl, hB.frame _, fun h => by cases h⟩⟩
end Go.Proofs.YthcpfignhalffaaGreatDoor
