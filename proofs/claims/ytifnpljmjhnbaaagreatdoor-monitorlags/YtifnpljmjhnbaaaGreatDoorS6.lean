/-
  A part of the proof of the statement that the claim names: see the last file.
-/
import Derived.Test.YtifnpljmjhnbaaaGreatDoorS5
namespace Go.Proofs.YtifnpljmjhnbaaaGreatDoor
open Go Go.Am
set_option maxRecDepth 100000
variable {w0 : World}
noncomputable section

theorem firstZ_zero : ∀ {l : List Int}, firstZ l = 0 → ∀ e ∈ l, e = 0
  | [], _, e, h => by cases h
  | x :: xs, hz, e, h => by
    unfold firstZ at hz
    obtain ⟨h1, h2⟩ := first_zero hz
    rcases List.mem_cons.1 h with rfl | h
    · exact h1
    · exact firstZ_zero h2 e h
theorem ev_ok {e : Tup evK} (h : chkEv [e] = 0) : 0 ≤ ef e ∧ ef e < et e ∧ et e ≤ 100000 ∧ ef e ≤ ea e ∧ ea e ≤ et e - 1 := by
  have h : (bif errI [e] 0 != 0 then errI [e] 0 else 0) = 0 := h
  obtain ⟨h, _⟩ := first_zero h
  obtain ⟨h1, h⟩ := first_zero (show (bif spanE e != 0 then spanE e else bif ovl [e] 0 then 15 else r5 e) = 0 from h)
  obtain ⟨a, b, c⟩ := span_zero h1
  have h : r5 e = 0 := h
  have := within_zero (firstZ_zero h (atE e) (by simp))
  rw [W_id (by omega) (by omega)] at this
  exact ⟨a, b, c, this.1, this.2⟩
theorem pa_ok {p : Tup paK} (h : chkPa [p] = 0) : 0 ≤ pf p ∧ pf p < pt p ∧ pt p ≤ 100000 := by
  have h : (bif chkE [] p != 0 then chkE [] p else 0) = 0 := h
  obtain ⟨h, _⟩ := first_zero h
  obtain ⟨_, h⟩ := first_zero (show (bif nmZ (pn p) != 0 then nmZ (pn p) else restP p) = 0 from h)
  exact span_zero (firstZ_zero h (spanP p) (by simp))
theorem dist_eq {e : Tup evK} {p : Tup paK} {s : Int} (h : allZ [e] [p] s = 0) : distP e p = distR e p := by
  obtain ⟨a1, a2, a3, a4, a5⟩ := ev_ok (firstZ_zero h (chkEv [e]) (by simp))
  obtain ⟨b1, b2, b3⟩ := pa_ok (firstZ_zero h (chkPa [p]) (by simp))
  unfold distP distR
  rw [W_id (n := pt p - 1) (by omega) (by omega), W_id (n := ea e - (pt p - 1)) (by omega) (by omega), W_id (n := ea e - pt p) (by omega) (by omega), W_id (n := ea e - pt p + 1) (by omega) (by omega), show ea e - (pt p - 1) = ea e - pt p + 1 by omega]
theorem why_eq {e : Tup evK} {p : Tup paK} {s : Int} (h : allZ [e] [p] s = 0) : whyP e p s = whyR e p s := by
  unfold whyP whyR
  rw [dist_eq h]
theorem val_eq {e : Tup evK} {p : Tup paK} {s : Int} (h : allZ [e] [p] s = 0) : val55 e p s = val58 e p s := by
  unfold val55 val58
  rw [h, dist_eq h, why_eq h, somB_eq]
  rfl
theorem sameW_self (l : List (Tup strK)) : sameW l l = true := decide_eq_true rfl
theorem whyL_len (t g : Bool) : (whyL t g).length ≤ 2 := by cases t <;> cases g <;> decide
theorem rea_len (e : Tup evK) (p : Tup paK) (s : Int) : (rea e p s).1.length ≤ 100000 := by
  unfold rea
  cases (allZ [e] [p] s != 0)
  · have := whyL_len (decide (distP e p > s)) (engB e p)
    show (whyP e p s).length ≤ 100000
    unfold whyP
    omega
  · simp
theorem tail_ok {l : List (Tup evK)} {p : List (Tup paK)} (hl : gE l = true) (hp : gP p = true) (s : Int) (e : Tup evK) (f : Tup paK) : tail7 l p s e f = some (Bo true) := by
  have hc : ∀ (a : SE) (b : Int × Int), a.1.length ≤ 100000 → chain7 l p a b a.2 a.1 b = some (Bo true) := fun a b ha => by
    unfold chain7 bf
    rw [hl, hp, sameW_self, show Nat.ble a.1.length 100000 = true from (Nat.ble_eq ..).mpr ha]
    simp
  have hk := hc (rea e f s) (val55 e f s) (rea_len e f s)
  unfold tail7
  cases hz : (allZ [e] [f] s == 0) with
  | true =>
    have h0 : allZ [e] [f] s = 0 := by simpa using hz
    have hr : rea e f s = (whyP e f s, 0) := by unfold rea; rw [h0]; rfl
    rw [cond_true, h0, ← why_eq h0, ← val_eq h0]
    rw [hr] at hk ⊢
    exact hk
  | false =>
    have hne : (allZ [e] [f] s != 0) = true := by simp [bne, hz]
    have hr : rea e f s = ([], allZ [e] [f] s) := by unfold rea; rw [hne]; rfl
    have hv : val55 e f s = (0, allZ [e] [f] s) := by unfold val55; rw [hne]; rfl
    rw [cond_false]
    rw [hr, hv] at hk ⊢
    exact hk
theorem law7_true (l : List (Tup evK)) (p : List (Tup paK)) (s : Int) (hp : p.length ≤ maxLen) : law7 l p s = some (Bo true) := by
  have hw : gW p = true := (Nat.ble_eq ..).mpr (by have : maxLen = 9223372036854775807 := rfl; omega)
  unfold law7
  cases h1 : shortE l with
  | false => rfl
  | true =>
    cases h2 : shortP p with
    | false => rw [hw]; rfl
    | true =>
      have g1 : gE l = true := by
        unfold shortE at h1
        refine (Nat.ble_eq ..).mpr ?_
        simp only [Bool.or_eq_true, decide_eq_true_eq, beq_iff_eq] at h1
        omega
      have g2 : gP p = true := by
        unfold shortP at h2
        refine (Nat.ble_eq ..).mpr ?_
        simp only [Bool.and_eq_true, Bool.or_eq_true, decide_eq_true_eq, beq_iff_eq] at h2
        omega
      rw [hw]
      simp only [Bool.not_true, cond_false, cond_true]
      by_cases hl : 0 < l.length
      · rw [decide_eq_true (show (l.length : Int) > 0 by omega), show inE l 0 = true from inE_nat (j := 0) hl]
        simp only [cond_true]
        by_cases hq : 0 < p.length
        · rw [decide_eq_true (show (p.length : Int) > 0 by omega), show inP p 0 = true from inP_nat (j := 0) hq]
          simp only [cond_true, cond_false]
          exact tail_ok g1 g2 s _ _
        · rw [decide_eq_false (show ¬ (p.length : Int) > 0 by omega)]
          simp only [cond_true, cond_false]
          exact tail_ok g1 g2 s _ _
      · rw [decide_eq_false (show ¬ (l.length : Int) > 0 by omega)]
        simp only [cond_false]
        by_cases hq : 0 < p.length
        · rw [decide_eq_true (show (p.length : Int) > 0 by omega), show inP p 0 = true from inP_nat (j := 0) hq]
          simp only [cond_true, cond_false]
          exact tail_ok g1 g2 s _ _
        · rw [decide_eq_false (show ¬ (p.length : Int) > 0 by omega)]
          simp only [cond_true, cond_false]
          exact tail_ok g1 g2 s _ _
theorem law7_fn (h0 : Lib0 w0) (l : List (Tup evK)) (p : List (Tup paK)) (s : Int) (hp : p.length ≤ maxLen) : FnD (cfg w0) 7 [.vec evK l, .vec paK p, I s] (Bo true) :=
  fnD_k (cfg_ok w0) h0 (cs := cs7) ⟨gd23 h0, gd52 h0, gd53 h0, gd54 h0, gd55 h0, gd56 h0, gd57 h0, gd58 h0, gd59 h0, gd60 h0, gd61 h0, gd62 h0, gd63 h0, gd64 h0, gd65 h0, trivial⟩ (fd := fnOf Tryz.f7) rfl ((run7 ..).trans (law7_true _ _ _ hp))
end
end Go.Proofs.YtifnpljmjhnbaaaGreatDoor
