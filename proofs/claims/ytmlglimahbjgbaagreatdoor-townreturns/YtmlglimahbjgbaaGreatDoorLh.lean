/-
  A part of the proof of the statement that the claim names: see the last file.
-/
import Derived.Test.YtmlglimahbjgbaaGreatDoorLg
import Derived.Test.YtmlglimahbjgbaaGreatDoorT9
namespace Go.Proofs.YtmlglimahbjgbaaGreatDoor
open Go Go.Am Go.Town Go.RowKit Go.ChangeShapes Go.WideShapes Go.ChangeAt
set_option maxRecDepth 100000

/-! # The card -/

theorem laid8 : Rows.townReturnsRow.laid = Rows.townPathsRow.laid := rfl
theorem sh8_ok : shOks Tryz.prog Tryz.f8.params.toList sh8 = true := by kernel_rfl

abbrev arg8 : Array Value := #[.slice none 0 0, .slice none 0 0, .agg #[iv 0, iv 0, iv 0, iv 0, iv 0, iv 0, iv 0, iv 0]]

theorem lifted (os : Os) (started : os.Started) (H : Type) (enc : TypeId × Value → H) :
    ReturnsInHanded {} Tryz.checked os 8 .any (fun w args => (Rows.townReturnsSpec.pre enc Tryz.prog Tryz.f8 [] false w args ∧ laidMetH Tryz.prog Rows.townReturnsRow.laid w) ∧ sizedMet enc Tryz.prog Tryz.f8 (OpenSpec.ofChange Rows.townReturnsSpec) false w args)
      (Rows.townReturnsSpec.post enc Tryz.prog Tryz.f8 false true false false) := by
  refine returnsInHanded_of_change_and (C := Tryz.checked) (X := fun w _ => laidMetH Tryz.prog Rows.townReturnsRow.laid w) (fun _ _ _ hh h => h.of_heap hh) own started (by kernel_rfl) Tryz.func8
    (ChangeSpec.witness_shaped (enc := enc) (C := Tryz.checked) (os := os) (X := fun w _ => laidMetH Tryz.prog Rows.townReturnsRow.laid w) false (World.doorLaid Tryz.prog 600 os) arg8 8 rfl (World.shaped_of_RefB (by kernel_rfl) (by kernel_rfl)) (by kernel_rfl) (by kernel_rfl) (by kernel_rfl) (door_met os _)) ?_
  intro W base args ds gs before hval0 hW _ _ hL _
  have hval : ∀ (j : Nat) t v, Tryz.f8.params[j]? = some t → args[j]? = some v → Value.okWide Tryz.prog W .any base t v := hval0
  have hW' := hW
  obtain ⟨p, q, hA0, hV, rfl, hfz, hnd⟩ := hW
  have hA : DataW.TrodAll enc Tryz.prog W 0 (fun _ => true) true Tryz.f8.params.toList args.toList ds p := hA0
  obtain ⟨rfl, rfl⟩ := trodVars_none hV
  obtain ⟨a, hwf, ha⟩ := args_imp _ sh8 _ _ _ sh8_ok hA (fun j t v hj hj' => hval j t v (by simpa using hj) (by simpa using hj'))
  obtain ⟨d0, d1, d2, rfl⟩ := len_three ((all_len _ _ _ _ hA).trans (by kernel_rfl : Tryz.f8.params.toList.length = 3))
  have h0 := lib_of hL
  have hb := base_of hL
  refine (fnD_below (C := cfg W) rfl (law8_all h0 (awake_good h0) a hwf) hb (ha _ _)).mono fun e' W' ⟨he, hB⟩ => ?_
  subst he
  exact ⟨_, rfl, ⟨_, _, _, [], _, [], hW', trodAll_mk1 (shut_bool Tryz.underlying4 true), all_below laidOut hB _ _ _ _ (by kernel_rfl) hA (fun x hx => by simpa using hW'.lt x (by simpa using hx)), rfl, hB.frame _, fun h => by cases h⟩⟩

end Go.Proofs.YtmlglimahbjgbaaGreatDoor
