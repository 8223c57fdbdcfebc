/-
  A part of the proof of the statement that the claim names: see the last file.
-/
import Derived.Test.YthcpfignhalffaaGreatDoorP9
import Derived.Test.YthcpfignhalffaaGreatDoorP8
namespace Go.Proofs.YthcpfignhalffaaGreatDoor
open Go Go.Am
set_option maxRecDepth 100000
variable {w0 : World}
noncomputable section


theorem sameI_self (l : List (Tup intK)) : sameI l l = true := by unfold sameI; simp
theorem sameF_self (l : List (Tup flK)) : sameF l l = true := by unfold sameF; simp
theorem le_lb {g : Gr} (hc : chkG g = 0) : g.l.map leE = g.l.map lbE := by
  obtain ⟨_, _, _, _, _, va⟩ := chk_len hc
  refine List.map_congr_left fun x hx => ?_
  have := va x hx
  show t1 (levR (i1 x)) = t1 (levB (i1 x))
  rw [levR_eq this.1 this.2]
theorem ab_gt {g : Gr} (hc : chkG g = 0) (n : Int) : g.l.map (abE n) = (g.l.map lbE).map (gtE n) := by
  obtain ⟨_, _, _, _, _, va⟩ := chk_len hc
  rw [List.map_map]
  refine List.map_congr_left fun x hx => ?_
  have := va x hx
  show tb1 (decide (levR (i1 x) ≥ n)) = tb1 (decide (levB (i1 x) ≥ n))
  rw [levR_eq this.1 this.2]
theorem at_ok7 (g : Gr) (x y : Int) : numB (atX g x y).1 (atX g x y).2 (e64 g x y) (bif e64 g x y == 0 then i1 (nth g.l (ixA g x y).toNat) else 0) = true := by
  unfold numB atX
  by_cases h : e64 g x y = 0
  · rw [h]; simp
  · rw [show (e64 g x y != 0) = true by simpa using h, show (e64 g x y == 0) = false by simpa using h]; simp
theorem lv_ok7 (g : Gr) : listB (lvsX g).1 (lvsX g).2 (chkG g) (bif chkG g == 0 then g.l.map lbE else []) = true := by
  unfold listB lvsX
  by_cases h : chkG g = 0
  · rw [h]
    show (sameI (g.l.map leE) (g.l.map lbE) && ((0 : Int) == 0)) = true
    rw [le_lb h, sameI_self]; rfl
  · rw [show (chkG g != 0) = true by simpa using h, show (chkG g == 0) = false by simpa using h]
    show (sameI [] [] && (chkG g == chkG g)) = true
    rw [sameI_self]; simp
theorem ab_ok7 (g : Gr) (n : Int) : abvX g n = (bif e66 g n == 0 then (g.l.map lbE).map (gtE n) else [], e66 g n) := by
  unfold abvX
  by_cases h : e66 g n = 0
  · rw [h, ab_gt (firstZ_nil' h (chkG g) (by simp)) n]; rfl
  · rw [show (e66 g n != 0) = true by simpa using h, show (e66 g n == 0) = false by simpa using h]; rfl
def e67 (g : Gr) (m : Int) : Int := firstZ [chkG g, withinZ m 1 g.l.length]
theorem ho_ok7 {g : Gr} (hl : g.l.length ≤ 100000) (m : Int) : hotX g m = (bif e67 g m == 0 then selR g m else [], e67 g m) := by
  unfold hotX e67
  by_cases h : chkG g = 0
  · rw [h]
    show (bif hE g m != 0 then ([], hE g m) else _) = (bif firstZ [0, hE g m] == 0 then selR g m else [], firstZ [0, hE g m])
    have e : firstZ [0, hE g m] = hE g m := by
      unfold firstZ
      simp only [show ((0 : Int) != 0) = false from rfl, cond_false]
      by_cases h' : hE g m = 0
      · rw [h']; rfl
      · exact firstZ_ne h'
    rw [e]
    by_cases h' : hE g m = 0
    · have hr := within_zero (show withinZ m 1 g.l.length = 0 from h')
      rw [h', hot_sel h hl hr.2]; rfl
    · rw [show (hE g m != 0) = true by simpa using h', show (hE g m == 0) = false by simpa using h']; rfl
  · rw [firstZ_ne h, show (chkG g != 0) = true by simpa using h, show (chkG g == 0) = false by simpa using h]; rfl
theorem selR_len {g : Gr} {m : Int} (hm : m ≤ g.l.length) (hl : g.l.length ≤ 100000) : (selR g m).length ≤ 100000 := by
  unfold selR
  rw [sel_eq _ (by omega)]
  show (((srt g).take m.toNat).map fun (j : Nat) => cellR g.w (j : Int)).length ≤ _
  rw [List.length_map, List.length_take]
  omega
theorem ble5_of {n : Nat} (h : n ≤ 100000) : ble5 n = true := (Nat.ble_eq ..).mpr h

theorem endB_ok {g : Gr} {x y n m : Int} (hl : g.l.length ≤ 100000) :
    endB g x y n m (e64 g x y) (e66 g n) (e67 g m) (bif e64 g x y == 0 then i1 (nth g.l (ixA g x y).toNat) else 0) (bif chkG g == 0 then g.l.map lbE else []) (bif e66 g n == 0 then (g.l.map lbE).map (gtE n) else []) (bif e67 g m == 0 then selR g m else []) = some (Bo true) := by
  have hg : smG g = true := (Nat.ble_eq ..).mpr hl
  unfold endB
  have l1 : ble5 (lvsX g).1.length = true := by
    refine ble5_of ?_
    unfold lvsX
    cases (chkG g != 0)
    · show (g.l.map leE).length ≤ _; rw [List.length_map]; exact hl
    · exact Nat.zero_le _
  have l2 : ble5 (abvX g n).1.length = true := by
    refine ble5_of ?_
    unfold abvX
    cases (e66 g n != 0)
    · show (g.l.map (abE n)).length ≤ _; rw [List.length_map]; exact hl
    · exact Nat.zero_le _
  have l3 : ble5 (hotX g m).1.length = true := by
    refine ble5_of ?_
    unfold hotX
    cases (chkG g != 0)
    · cases (hE g m != 0)
      · show (((sortH (hotL g)).take m.toNat).map ptH).length ≤ _
        rw [List.length_map, List.length_take, sortH_len, hotL_len]; omega
      · exact Nat.zero_le _
    · exact Nat.zero_le _
  have c : cellsB (hotX g m).1 (hotX g m).2 (e67 g m) (bif e67 g m == 0 then selR g m else []) = true := by
    rw [ho_ok7 hl]
    unfold cellsB
    by_cases h : e67 g m = 0
    · rw [h]
      show (sameP (selR g m) (selR g m) && ((0 : Int) == 0)) = true
      rw [sameP_self]; rfl
    · rw [show (e67 g m != 0) = true by simpa using h, show (e67 g m == 0) = false by simpa using h]
      show (sameP [] [] && (e67 g m == e67 g m)) = true
      rw [sameP_self]; simp
  rw [l1, l2, l3, c, hg, at_ok7, lv_ok7, ab_ok7]
  simp only [sameF_self, beq_self_eq_true, cond_true]

theorem bb_ok {g : Gr} {x y n m : Int} (hl : g.l.length ≤ 100000) : bb1 g x y n m (e64 g x y) (e66 g n) (e67 g m) = some (Bo true) := by
  have hg : smG g = true := (Nat.ble_eq ..).mpr hl
  have h := endB_ok (g := g) (x := x) (y := y) (n := n) (m := m) hl
  have h4 : bb4 g x y n m (e64 g x y) (e66 g n) (e67 g m) (bif e64 g x y == 0 then i1 (nth g.l (ixA g x y).toNat) else 0) (bif chkG g == 0 then g.l.map lbE else []) (bif e66 g n == 0 then (g.l.map lbE).map (gtE n) else []) = some (Bo true) := by
    unfold bb4
    cases hz : (e67 g m == 0) with
    | false => rw [hz] at h; exact h
    | true =>
      rw [hz] at h
      have hz : e67 g m = 0 := by simpa using hz
      obtain ⟨_, h1, _, _, _, _⟩ := chk_len (firstZ_nil' hz (chkG g) (by simp))
      have hr := within_zero (firstZ_nil' hz (withinZ m 1 g.l.length) (by simp))
      rw [hg, decide_eq_false (show ¬ g.w = 0 by omega), decide_eq_true hr.2]
      exact h
  have h3 : bb3 g x y n m (e64 g x y) (e66 g n) (e67 g m) (bif e64 g x y == 0 then i1 (nth g.l (ixA g x y).toNat) else 0) (bif chkG g == 0 then g.l.map lbE else []) = some (Bo true) := by
    unfold bb3
    cases hz : (e66 g n == 0) with
    | false => rw [hz] at h4; exact h4
    | true => rw [hz] at h4; rw [hg]; exact h4
  have h2 : bb2 g x y n m (e64 g x y) (e66 g n) (e67 g m) (bif e64 g x y == 0 then i1 (nth g.l (ixA g x y).toNat) else 0) = some (Bo true) := by
    unfold bb2
    cases hz : (chkG g == 0) with
    | false => rw [hz] at h3; exact h3
    | true => rw [hz] at h3; rw [hg]; exact h3
  unfold bb1
  cases hz : (e64 g x y == 0) with
  | false => rw [hz] at h2; exact h2
  | true =>
    rw [hz] at h2
    obtain ⟨c, b⟩ := has_of (show e64 g x y = 0 by simpa using hz)
    obtain ⟨j, e, hj⟩ := ixA_ok c b
    have hin : inO g.l (ixA g x y) = true := by rw [e]; exact inO_nat hj
    rw [hin]
    exact h2
theorem law7_true (g : Gr) (x y n m : Int) : law7 g x y n m = some (Bo true) := by
  unfold law7
  cases hf : few g with
  | false => rfl
  | true =>
    have hl : (g.l.length : Int) ≤ 36 := of_decide_eq_true hf
    have hg : smG g = true := (Nat.ble_eq ..).mpr (by omega)
    rw [hg]
    exact bb_ok (by omega)
theorem law7_fn (h0 : Lib0 w0) (g : Gr) (x y n m : Int) : FnD (cfg w0) 7 [gD g, .agg [I x, I y], .agg [I n, I m]] (Bo true) :=
  fnD_k (cfg_ok w0) h0 (csB_gd h0) (fd := fnOf Tryz.f7) rfl ((run7 ..).trans (law7_true ..))
end
end Go.Proofs.YthcpfignhalffaaGreatDoor
