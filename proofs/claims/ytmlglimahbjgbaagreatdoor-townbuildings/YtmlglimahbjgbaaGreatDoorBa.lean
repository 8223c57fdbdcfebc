/-
  A part of the proof of the statement that the claim names: see the last file.
-/
import Derived.Test.YtmlglimahbjgbaaGreatDoorB9
import Derived.Test.YtmlglimahbjgbaaGreatDoorT9
namespace Go.Proofs.YtmlglimahbjgbaaGreatDoor
open Go Go.Am Go.Town Go.RowKit Go.ChangeShapes Go.WideShapes Go.ChangeAt
set_option maxRecDepth 100000


theorem laid7 : Rows.townBuildingsRow.laid = Rows.townPathsRow.laid := rfl
theorem params7_eq : Tryz.f7.params.toList = [111, 118, 52] := by kernel_rfl
theorem elB : Tryz.prog.underlying 111 = some (.slice 114) := by kernel_rfl
theorem lvB : leavesS Tryz.prog 8 114 = some ssB := by kernel_rfl
theorem lvP : leavesS Tryz.prog 8 118 = some ssP := by kernel_rfl
theorem aggP : aggT Tryz.prog 118 = true := by kernel_rfl
theorem sizeB : Tryz.prog.cellsOf 114 = ssB.length := by kernel_rfl
theorem shW : shOk Tryz.prog 52 (.v wallK) = true := by kernel_rfl

abbrev arg7 : Array Value := #[.slice none 0 0, .agg #[.string ByteArray.empty, .slice none 0 0, iv 0, iv 0, iv 0, iv 0, iv 0, iv 0, iv 0, iv 0], .slice none 0 0]

theorem lifted (os : Os) (started : os.Started) (H : Type) (enc : TypeId × Value → H) :
    ReturnsInHanded {} Tryz.checked os 7 .any (fun w args => (Rows.townBuildingsSpec.pre enc Tryz.prog Tryz.f7 [] false w args ∧ laidMetH Tryz.prog Rows.townBuildingsRow.laid w) ∧ sizedMet enc Tryz.prog Tryz.f7 (OpenSpec.ofChange Rows.townBuildingsSpec) false w args)
      (Rows.townBuildingsSpec.post enc Tryz.prog Tryz.f7 false true false false) := by
  refine returnsInHanded_of_change_and (C := Tryz.checked) (X := fun w _ => laidMetH Tryz.prog Rows.townBuildingsRow.laid w) (fun _ _ _ hh h => h.of_heap hh) own started (by kernel_rfl) Tryz.func7
    (ChangeSpec.witness_shaped (enc := enc) (C := Tryz.checked) (os := os) (X := fun w _ => laidMetH Tryz.prog Rows.townBuildingsRow.laid w) false (World.doorLaid Tryz.prog 600 os) arg7 8 rfl (World.shaped_of_RefB (by kernel_rfl) (by kernel_rfl)) (by kernel_rfl) (by kernel_rfl) (by kernel_rfl) (door_met os _)) ?_
  intro W base args ds gs before hval0 hW _ _ hL _
  have hval : ∀ (j : Nat) t v, Tryz.f7.params.toList[j]? = some t → args.toList[j]? = some v → Value.okWide Tryz.prog W .any base t v := fun j t v h1 h2 => hval0 j t v (by simpa using h1) (by simpa using h2)
  have hW' := hW
  obtain ⟨p, q, hA0, hV, rfl, hfz, hnd⟩ := hW
  have hA : DataW.TrodAll enc Tryz.prog W 0 (fun _ => true) true Tryz.f7.params.toList args.toList ds p := hA0
  obtain ⟨rfl, rfl⟩ := trodVars_none hV
  have hA2 := hA
  rw [params7_eq] at hA2 hval
  obtain ⟨v0, vs1, d0, ds1, p0, q0, e1, rfl, _, t0, hA3⟩ := ChangeShapes.trodAll_cons hA2
  obtain ⟨v1, vs2, d1, ds2, p1, q1, e2, rfl, _, t1, hA4⟩ := ChangeShapes.trodAll_cons hA3
  obtain ⟨v2, vs3, d2, ds3, p2, q2, e3, rfl, _, t2, hA5⟩ := ChangeShapes.trodAll_cons hA4
  obtain ⟨rfl, rfl, _⟩ := ChangeShapes.trodAll_nil hA5
  subst e3
  subst e2
  have a0 := sl_arg elB lvB sizeB (by decide) (hval 0 111 v0 rfl (by rw [e1]; rfl)) t0
  obtain ⟨a, _, a1⟩ := s_imp aggP lvP (hval 1 118 v1 rfl (by rw [e1]; rfl)) t1
  obtain ⟨near, _, a2⟩ := v_imp shW (hval 2 52 v2 rfl (by rw [e1]; rfl)) t2
  have h0 := lib_of hL
  have hb := base_of hL
  obtain ⟨d, hd, hF⟩ := law7_all h0 (awake_good h0) a0 a near
  have himp : ImpsOK (cfg W).G (cfg W).GB W [d, .agg (toShs ssP a), .vec wallK near] args.toList := by
    rw [e1]
    exact ImpsOK.cons (hd _ _) (ImpsOK.cons (a1 _ _) (ImpsOK.cons (a2 _ _) ⟨rfl, fun j d u h => by simp at h⟩))
  refine (fnD_below (C := cfg W) rfl hF hb himp).mono fun e' W' ⟨he, hB⟩ => ?_
  subst he
  exact ⟨_, rfl, ⟨_, _, _, [], _, [], hW', trodAll_mk1 (shut_bool Tryz.underlying4 true), all_below laidOut hB _ _ _ _ (by kernel_rfl) hA (fun x hx => by simpa using hW'.lt x (by simpa using hx)), rfl, hB.frame _, fun h => by cases h⟩⟩

end Go.Proofs.YtmlglimahbjgbaaGreatDoor
