/-
  A part of the proof of the statement that the claim names: see the last file.
-/
import Derived.Test.YthcpfignhalffaaGreatDoorPb
import Derived.Test.YthcpfignhalffaaGreatDoorPa
namespace Go.Proofs.YthcpfignhalffaaGreatDoor
open Go Go.Am Go.RowKit Go.ChangeShapes Go.WideShapes Go.ChangeAt
set_option maxRecDepth 100000


abbrev ssG : List Sh := [.c ik, .c ik, .v intK]
abbrev ptsK : List Kd := [ik, ik]
theorem laid7 : Rows.contourGridsRow.laid = Rows.contourTilesRow.laid := rfl
theorem params7_eq : Tryz.f7.params.toList = [24, 27, 78] := by kernel_rfl
theorem lvG : leavesS Tryz.prog 8 24 = some ssG := by kernel_rfl
theorem aggG : aggT Tryz.prog 24 = true := by kernel_rfl
theorem shP27 : shOk Tryz.prog 27 (.b ptsK) = true := by kernel_rfl
theorem shP78 : shOk Tryz.prog 78 (.b ptsK) = true := by kernel_rfl

abbrev arg7 : Array Value := #[.agg #[iv 0, iv 0, .slice none 0 0], .agg #[iv 0, iv 0], .agg #[iv 0, iv 0]]

theorem law7_all {w0 : World} (h0 : Lib0 w0) (g : ArgT ssG) (p n : Tup ptsK) : FnD (cfg w0) 7 [.agg (toShs ssG g), .agg ((toVs ptsK p).map .val), .agg ((toVs ptsK n).map .val)] (Bo true) :=
  law7_fn h0 ⟨g.1, g.2.1, g.2.2.1⟩ p.1 p.2.1 n.1 n.2.1

theorem lifted (os : Os) (started : os.Started) (H : Type) (enc : TypeId × Value → H) :
    ReturnsInHanded {} Tryz.checked os 7 .any (fun w args => (Rows.contourGridsSpec.pre enc Tryz.prog Tryz.f7 [] false w args ∧ laidMetH Tryz.prog Rows.contourGridsRow.laid w) ∧ sizedMet enc Tryz.prog Tryz.f7 (OpenSpec.ofChange Rows.contourGridsSpec) false w args)
      (Rows.contourGridsSpec.post enc Tryz.prog Tryz.f7 false true false false) := by
  refine returnsInHanded_of_change_and (C := Tryz.checked) (X := fun w _ => laidMetH Tryz.prog Rows.contourGridsRow.laid w) (fun _ _ _ hh h => h.of_heap hh) own started (by kernel_rfl) Tryz.func7
    (ChangeSpec.witness_shaped (enc := enc) (C := Tryz.checked) (os := os) (X := fun w _ => laidMetH Tryz.prog Rows.contourGridsRow.laid w) false (World.doorLaid Tryz.prog 600 os) arg7 8 rfl (World.shaped_of_RefB (by kernel_rfl) (by kernel_rfl)) (by kernel_rfl) (by kernel_rfl) (by kernel_rfl) (door_met os _)) ?_
  intro W base args ds gs before hval0 hW _ _ hL _
  have hval : ∀ (j : Nat) t v, Tryz.f7.params.toList[j]? = some t → args.toList[j]? = some v → Value.okWide Tryz.prog W .any base t v := fun j t v h1 h2 => hval0 j t v (by simpa using h1) (by simpa using h2)
  have hW' := hW
  obtain ⟨p, q, hA0, hV, rfl, hfz, hnd⟩ := hW
  have hA : DataW.TrodAll enc Tryz.prog W 0 (fun _ => true) true Tryz.f7.params.toList args.toList ds p := hA0
  obtain ⟨rfl, rfl⟩ := trodVars_none hV
  have hA2 := hA
  rw [params7_eq] at hA2 hval
  obtain ⟨v0, vs1, d0, ds1, p0, q0, e1, rfl, _, t0, hA3⟩ := ChangeShapes.trodAll_cons hA2
  obtain ⟨v1, vs2, d1, ds2, p1, q1, e2, rfl, _, t1, hA4⟩ := ChangeShapes.trodAll_cons hA3
  obtain ⟨v2, vs3, d2, ds3, p2, q2, e3, rfl, _, t2, hA5⟩ := ChangeShapes.trodAll_cons hA4
  obtain ⟨rfl, rfl, _⟩ := ChangeShapes.trodAll_nil hA5
  subst e3
  subst e2
  obtain ⟨a, _, a0⟩ := s_imp aggG lvG (hval 0 24 v0 rfl (by rw [e1]; rfl)) t0
  obtain ⟨b, _, a1⟩ := b_imp shP27 (hval 1 27 v1 rfl (by rw [e1]; rfl)) t1
  obtain ⟨s, _, a2⟩ := b_imp shP78 (hval 2 78 v2 rfl (by rw [e1]; rfl)) t2
  have h0 := lib_of hL
  have hb := base_of hL
  have himp : ImpsOK (cfg W).G (cfg W).GB W [.agg (toShs ssG a), .agg ((toVs ptsK b).map .val), .agg ((toVs ptsK s).map .val)] args.toList := by
    rw [e1]
    exact ImpsOK.cons (a0 _ _) (ImpsOK.cons (a1 _ _) (ImpsOK.cons (a2 _ _) ⟨rfl, fun j d u h => by simp at h⟩))
  refine (fnD_below (C := cfg W) rfl (law7_all h0 a b s) hb himp).mono fun e' W' ⟨he, hB⟩ => ?_
  subst he
  exact ⟨_, rfl, ⟨_, _, _, [], _, [], hW', trodAll_mk1 (shut_bool Tryz.underlying4 true), all_below laidOut hB _ _ _ _ (by kernel_rfl) hA (fun x hx => by simpa using hW'.lt x (by simpa using hx)), rfl, hB.frame _, fun h => by cases h⟩⟩
end Go.Proofs.YthcpfignhalffaaGreatDoor
