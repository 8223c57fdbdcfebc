/-
  A part of the proof of the statement that the claim names: see the last file.
-/
import Derived.Test.YtmlglimahbjgbaaGreatDoorT5
import Derived.Test.YtmlglimahbjgbaaGreatDoorT9
import Derived.Test.YtmlglimahbjgbaaGreatDoorAm4
namespace Go.Proofs.YtmlglimahbjgbaaGreatDoor
open Go Go.Am Go.Town
set_option maxRecDepth 100000

/-! # TownGrows, in plain Lean -/

theorem beside_eq {sx sy tx ty px py : Int} (a1 : -1000 ≤ sx ∧ sx ≤ 1000) (a2 : -1000 ≤ sy ∧ sy ≤ 1000) (b1 : -1000 ≤ tx ∧ tx ≤ 1000) (b2 : -1000 ≤ ty ∧ ty ≤ 1000) (p1 : -1000 ≤ px ∧ px ≤ 1000) (p2 : -1000 ≤ py ∧ py ≤ 1000) :
    besideZ sx sy tx ty 1 px py = (tx - sx) * (py - sy) - (ty - sy) * (px - sx) := by
  unfold besideZ
  rw [Int.mul_one, Int.mul_one, W_in (n := sy) (by omega) (by omega), W_in (n := sx) (by omega) (by omega), W_in (n := tx - sx) (by omega) (by omega), W_in (n := py - sy) (by omega) (by omega), W_in (n := ty - sy) (by omega) (by omega), W_in (n := px - sx) (by omega) (by omega)]
  have m1 := mul_bound (a := tx - sx) (b := py - sy) (A := 2000) (B := 2000) (by omega) (by omega) (by omega) (by omega)
  have m2 := mul_bound (a := ty - sy) (b := px - sx) (A := 2000) (B := 2000) (by omega) (by omega) (by omega) (by omega)
  generalize (tx - sx) * (py - sy) = u at *
  generalize (ty - sy) * (px - sx) = v at *
  rw [W_in (n := u) (by omega) (by omega), W_in (n := v) (by omega) (by omega), W_in (n := u - v) (by omega) (by omega)]

theorem den_nonneg {nm : ByteArray} {ax ay bx by' h e sx sy sz rx ry rz : Int} (hz : errZ nm ax ay bx by' h e sx sy sz rx ry rz = 0) :
    0 ≤ denP ax ay bx by' sx sy rx ry ∧ denP ax ay bx by' sx sy rx ry ≤ 16000000 := by
  have S := errZ_small hz
  obtain ⟨p1, p2, _⟩ := side_bound S.a1 S.a2 S.b1 S.b2 S.s1 S.s2
  obtain ⟨q1, q2, _⟩ := side_bound S.a1 S.a2 S.b1 S.b2 S.r1 S.r2
  unfold denP
  obtain ⟨d, _, _, _⟩ := numden (p := sideZ ax ay bx by' sx sy 1) (q := sideZ ax ay bx by' rx ry 1) (h := h) (sz := sz) (tz := rz) ⟨p1, p2⟩ ⟨q1, q2⟩ S.hh S.s3 S.r3
  obtain ⟨_, a1, a2⟩ := absZ_small (n := sideZ ax ay bx by' sx sy 1) ⟨p1, p2⟩
  obtain ⟨_, b1, b2⟩ := absZ_small (n := sideZ ax ay bx by' rx ry 1) ⟨q1, q2⟩
  omega

/-- A wall that is higher. -/
theorem num_up {nm nm' : ByteArray} {ax ay bx by' h e e' sx sy sz rx ry rz up : Int} (hz : errZ nm ax ay bx by' h e sx sy sz rx ry rz = 0) (hz' : errZ nm' ax ay bx by' (h + up) e' sx sy sz rx ry rz = 0) :
    numP ax ay bx by' (h + up) sx sy sz rx ry rz = numP ax ay bx by' h sx sy sz rx ry rz + up * denP ax ay bx by' sx sy rx ry := by
  have S := errZ_small hz
  have S' := errZ_small hz'
  obtain ⟨p1, p2, _⟩ := side_bound S.a1 S.a2 S.b1 S.b2 S.s1 S.s2
  obtain ⟨q1, q2, _⟩ := side_bound S.a1 S.a2 S.b1 S.b2 S.r1 S.r2
  unfold numP denP
  obtain ⟨d, n, _, _⟩ := numden (p := sideZ ax ay bx by' sx sy 1) (q := sideZ ax ay bx by' rx ry 1) (h := h) (sz := sz) (tz := rz) ⟨p1, p2⟩ ⟨q1, q2⟩ S.hh S.s3 S.r3
  obtain ⟨d', n', _, _⟩ := numden (p := sideZ ax ay bx by' sx sy 1) (q := sideZ ax ay bx by' rx ry 1) (h := h + up) (sz := sz) (tz := rz) ⟨p1, p2⟩ ⟨q1, q2⟩ S'.hh S.s3 S.r3
  rw [n, n', d]
  generalize absZ (sideZ ax ay bx by' sx sy 1) = A
  generalize absZ (sideZ ax ay bx by' rx ry 1) = B
  grind

theorem cut_up {nm nm' : ByteArray} {ax ay bx by' h e e' sx sy sz rx ry rz up : Int} (hup : 0 ≤ up) (hz : errZ nm ax ay bx by' h e sx sy sz rx ry rz = 0) (hz' : errZ nm' ax ay bx by' (h + up) e' sx sy sz rx ry rz = 0)
    (hc : cutP ax ay bx by' h sx sy sz rx ry rz = true) : cutP ax ay bx by' (h + up) sx sy sz rx ry rz = true := by
  unfold cutP at hc ⊢
  simp only [Bool.and_eq_true, decide_eq_true_eq] at hc ⊢
  refine ⟨hc.1, ?_⟩
  rw [num_up hz hz']
  obtain ⟨d1, _⟩ := den_nonneg hz
  have : 0 ≤ up * denP ax ay bx by' sx sy rx ry := Int.mul_nonneg hup d1
  omega

theorem ceil_mono {a b c : Int} (hc : 0 < c) (h : a ≤ b) : ceilZ a c ≤ ceilZ b c := by
  unfold ceilZ
  have := Int.ediv_le_ediv hc (show -b ≤ -a by omega)
  omega

theorem dep_pos {ax ay bx by' h sx sy sz rx ry rz : Int} (hc : cutP ax ay bx by' h sx sy sz rx ry rz = true) : 1 ≤ depP ax ay bx by' h sx sy sz rx ry rz := by
  unfold depP maxI
  rw [hc]
  simp only [cond_true]
  split <;> omega

theorem dep_up {nm nm' : ByteArray} {ax ay bx by' h e e' sx sy sz rx ry rz up : Int} (hup : 0 ≤ up) (hz : errZ nm ax ay bx by' h e sx sy sz rx ry rz = 0) (hz' : errZ nm' ax ay bx by' (h + up) e' sx sy sz rx ry rz = 0) :
    depP ax ay bx by' h sx sy sz rx ry rz ≤ depP ax ay bx by' (h + up) sx sy sz rx ry rz := by
  cases hc : cutP ax ay bx by' h sx sy sz rx ry rz with
  | false =>
    have e1 : depP ax ay bx by' h sx sy sz rx ry rz = 0 := by unfold depP; rw [hc]; rfl
    rw [e1]
    cases hc' : cutP ax ay bx by' (h + up) sx sy sz rx ry rz with
    | false => unfold depP; rw [hc']; exact Int.le_refl _
    | true => have := dep_pos hc'; omega
  | true =>
    have hc' := cut_up hup hz hz' hc
    have hm : meetP ax ay bx by' sx sy rx ry = true := by unfold cutP at hc; simp only [Bool.and_eq_true] at hc; exact hc.1
    obtain ⟨_, hd, _⟩ := quoG_iff.1 (cut_facts hz hm)
    obtain ⟨d1, _⟩ := den_nonneg hz
    have hn : 0 ≤ up * denP ax ay bx by' sx sy rx ry := Int.mul_nonneg hup d1
    have hce := ceil_mono (a := numP ax ay bx by' h sx sy sz rx ry rz) (b := numP ax ay bx by' (h + up) sx sy sz rx ry rz) hd (by rw [num_up hz hz']; omega)
    unfold depP
    rw [hc, hc']
    simp only [cond_true]
    generalize ceilZ (numP ax ay bx by' h sx sy sz rx ry rz) (denP ax ay bx by' sx sy rx ry) = x at *
    generalize ceilZ (numP ax ay bx by' (h + up) sx sy sz rx ry rz) (denP ax ay bx by' sx sy rx ry) = y at *
    generalize cornerL ax ay sx sy sz rx ry rz = u
    generalize cornerL bx by' sx sy sz rx ry rz = v
    unfold maxI minI
    repeat' split
    all_goals omega

theorem gcd_up (a b u : Int) : gcdZ (a + u * b) b = gcdZ a b := by
  unfold gcdZ
  show ((Int.gcd (a + u * b) b : Nat) : Int) = ((Int.gcd a b : Nat) : Int)
  congr 1
  simp

theorem ex_up {nm nm' : ByteArray} {ax ay bx by' h e e' sx sy sz rx ry rz up : Int} (hz : errZ nm ax ay bx by' h e sx sy sz rx ry rz = 0) (hz' : errZ nm' ax ay bx by' (h + up) e' sx sy sz rx ry rz = 0)
    (hc : cutP ax ay bx by' h sx sy sz rx ry rz = true) : exDen ax ay bx by' (h + up) sx sy sz rx ry rz = exDen ax ay bx by' h sx sy sz rx ry rz ∧
    exNum ax ay bx by' (h + up) sx sy sz rx ry rz = exNum ax ay bx by' h sx sy sz rx ry rz + up * exDen ax ay bx by' h sx sy sz rx ry rz ∧
    -16000000000 ≤ exNum ax ay bx by' h sx sy sz rx ry rz ∧ exNum ax ay bx by' h sx sy sz rx ry rz ≤ 16000000000 ∧ 0 ≤ exDen ax ay bx by' h sx sy sz rx ry rz ∧ exDen ax ay bx by' h sx sy sz rx ry rz ≤ 16000000 := by
  have hm : meetP ax ay bx by' sx sy rx ry = true := by unfold cutP at hc; simp only [Bool.and_eq_true] at hc; exact hc.1
  obtain ⟨_, hd, _⟩ := quoG_iff.1 (cut_facts hz hm)
  obtain ⟨d1, d2⟩ := den_nonneg hz
  have S := errZ_small hz
  obtain ⟨p1, p2, _⟩ := side_bound S.a1 S.a2 S.b1 S.b2 S.s1 S.s2
  obtain ⟨q1, q2, _⟩ := side_bound S.a1 S.a2 S.b1 S.b2 S.r1 S.r2
  have hn : -16000000000 ≤ numP ax ay bx by' h sx sy sz rx ry rz ∧ numP ax ay bx by' h sx sy sz rx ry rz ≤ 16000000000 := by
    unfold numP
    obtain ⟨_, _, n1, n2⟩ := numden (p := sideZ ax ay bx by' sx sy 1) (q := sideZ ax ay bx by' rx ry 1) (h := h) (sz := sz) (tz := rz) ⟨p1, p2⟩ ⟨q1, q2⟩ S.hh S.s3 S.r3
    exact ⟨n1, n2⟩
  unfold exDen exNum
  rw [num_up hz hz']
  generalize numP ax ay bx by' h sx sy sz rx ry rz = N at *
  generalize denP ax ay bx by' sx sy rx ry = Dn at *
  rw [gcd_up]
  have hg := gcdZ_pos (a := N) hd
  have da : gcdZ N Dn ∣ N := by unfold gcdZ; exact Int.ofNat_dvd_left.2 (Nat.gcd_dvd_left _ _)
  have db : gcdZ N Dn ∣ Dn := by unfold gcdZ; exact Int.ofNat_dvd_left.2 (Nat.gcd_dvd_right _ _)
  have t1 := tdiv_le (a := N) hg
  have t2 := tdiv_le (a := Dn) hg
  generalize gcdZ N Dn = g at *
  obtain ⟨x, rfl⟩ := da
  obtain ⟨y, rfl⟩ := db
  have hg0 : g ≠ 0 := by omega
  rw [show g * x + up * (g * y) = g * (x + up * y) by grind, Int.mul_tdiv_cancel_left _ hg0, Int.mul_tdiv_cancel_left _ hg0, Int.mul_tdiv_cancel_left _ hg0] at *
  have hy : 0 < y := Int.pos_of_mul_pos_right hd (by omega)
  refine ⟨rfl, rfl, ?_, ?_, by omega, ?_⟩ <;> omega

/-- All moved. -/
theorem side_move {ax ay bx by' px py dx dy : Int} (a1 : -1000 ≤ ax ∧ ax ≤ 1000) (a2 : -1000 ≤ ay ∧ ay ≤ 1000) (b1 : -1000 ≤ bx ∧ bx ≤ 1000) (b2 : -1000 ≤ by' ∧ by' ≤ 1000) (p1 : -1000 ≤ px ∧ px ≤ 1000) (p2 : -1000 ≤ py ∧ py ≤ 1000)
    (a1' : -1000 ≤ ax + dx ∧ ax + dx ≤ 1000) (a2' : -1000 ≤ ay + dy ∧ ay + dy ≤ 1000) (b1' : -1000 ≤ bx + dx ∧ bx + dx ≤ 1000) (b2' : -1000 ≤ by' + dy ∧ by' + dy ≤ 1000) (p1' : -1000 ≤ px + dx ∧ px + dx ≤ 1000) (p2' : -1000 ≤ py + dy ∧ py + dy ≤ 1000) :
    sideZ (ax + dx) (ay + dy) (bx + dx) (by' + dy) (px + dx) (py + dy) 1 = sideZ ax ay bx by' px py 1 := by
  rw [(side_bound a1' a2' b1' b2' p1' p2').2.2, (side_bound a1 a2 b1 b2 p1 p2).2.2, show bx + dx - (ax + dx) = bx - ax by omega, show py + dy - (ay + dy) = py - ay by omega, show by' + dy - (ay + dy) = by' - ay by omega, show px + dx - (ax + dx) = px - ax by omega]

theorem beside_move {ax ay bx by' px py dx dy : Int} (a1 : -1000 ≤ ax ∧ ax ≤ 1000) (a2 : -1000 ≤ ay ∧ ay ≤ 1000) (b1 : -1000 ≤ bx ∧ bx ≤ 1000) (b2 : -1000 ≤ by' ∧ by' ≤ 1000) (p1 : -1000 ≤ px ∧ px ≤ 1000) (p2 : -1000 ≤ py ∧ py ≤ 1000)
    (a1' : -1000 ≤ ax + dx ∧ ax + dx ≤ 1000) (a2' : -1000 ≤ ay + dy ∧ ay + dy ≤ 1000) (b1' : -1000 ≤ bx + dx ∧ bx + dx ≤ 1000) (b2' : -1000 ≤ by' + dy ∧ by' + dy ≤ 1000) (p1' : -1000 ≤ px + dx ∧ px + dx ≤ 1000) (p2' : -1000 ≤ py + dy ∧ py + dy ≤ 1000) :
    besideZ (ax + dx) (ay + dy) (bx + dx) (by' + dy) 1 (px + dx) (py + dy) = besideZ ax ay bx by' 1 px py := by
  rw [beside_eq a1' a2' b1' b2' p1' p2', beside_eq a1 a2 b1 b2 p1 p2, show bx + dx - (ax + dx) = bx - ax by omega, show py + dy - (ay + dy) = py - ay by omega, show by' + dy - (ay + dy) = by' - ay by omega, show px + dx - (ax + dx) = px - ax by omega]

theorem sq_move (a b c d e f dx dy : Int) : sqZ (a + dx) (b + dy) c (d + dx) (e + dy) f = sqZ a b c d e f := by
  unfold sqZ
  rw [show a + dx - (d + dx) = a - d by omega, show b + dy - (e + dy) = b - e by omega]

theorem dep_move {nm nm' : ByteArray} {ax ay bx by' h e e' sx sy sz rx ry rz dx dy : Int} (hz : errZ nm ax ay bx by' h e sx sy sz rx ry rz = 0) (hz' : errZ nm' (ax + dx) (ay + dy) (bx + dx) (by' + dy) h e' (sx + dx) (sy + dy) sz (rx + dx) (ry + dy) rz = 0) :
    depP (ax + dx) (ay + dy) (bx + dx) (by' + dy) h (sx + dx) (sy + dy) sz (rx + dx) (ry + dy) rz = depP ax ay bx by' h sx sy sz rx ry rz := by
  have S := errZ_small hz
  have T := errZ_small hz'
  unfold depP cutP numP denP meetP cornerL
  rw [side_move S.a1 S.a2 S.b1 S.b2 S.s1 S.s2 T.a1 T.a2 T.b1 T.b2 T.s1 T.s2, side_move S.a1 S.a2 S.b1 S.b2 S.r1 S.r2 T.a1 T.a2 T.b1 T.b2 T.r1 T.r2,
    beside_move S.s1 S.s2 S.r1 S.r2 S.a1 S.a2 T.s1 T.s2 T.r1 T.r2 T.a1 T.a2, beside_move S.s1 S.s2 S.r1 S.r2 S.b1 S.b2 T.s1 T.s2 T.r1 T.r2 T.b1 T.b2]
  simp only [sq_move]
end Go.Proofs.YtmlglimahbjgbaaGreatDoor

namespace Go.Proofs.YtmlglimahbjgbaaGreatDoor
open Go Go.Am Go.Town
set_option maxRecDepth 100000

/-! # Lengths and detours, in plain Lean -/

theorem sq_nonneg (x : Int) : 0 ≤ x * x := by
  rcases Int.le_total 0 x with hx | hx
  · exact Int.mul_nonneg hx hx
  · exact Int.mul_nonneg_of_nonpos_of_nonpos hx hx

theorem sq_eq {a b c d e f : Int} (h1 : -1000 ≤ a ∧ a ≤ 1000) (h2 : -1000 ≤ b ∧ b ≤ 1000) (h3 : 0 ≤ c ∧ c ≤ 1000) (h4 : -1000 ≤ d ∧ d ≤ 1000) (h5 : -1000 ≤ e ∧ e ≤ 1000) (h6 : 0 ≤ f ∧ f ≤ 1000) :
    sqZ a b c d e f = (a - d) * (a - d) + (b - e) * (b - e) + (c - f) * (c - f) ∧ sqZ a b c d e f ≤ 12000000 ∧ 0 ≤ sqZ a b c d e f := by
  unfold sqZ
  rw [W_in (n := a - d) (by omega) (by omega), W_in (n := b - e) (by omega) (by omega), W_in (n := c - f) (by omega) (by omega)]
  have m1 := mul_bound (a := a - d) (b := a - d) (A := 2000) (B := 2000) (by omega) (by omega) (by omega) (by omega)
  have m2 := mul_bound (a := b - e) (b := b - e) (A := 2000) (B := 2000) (by omega) (by omega) (by omega) (by omega)
  have m3 := mul_bound (a := c - f) (b := c - f) (A := 2000) (B := 2000) (by omega) (by omega) (by omega) (by omega)
  have g1 := sq_nonneg (a - d)
  have g2 := sq_nonneg (b - e)
  have g3 := sq_nonneg (c - f)
  generalize (a - d) * (a - d) = u at *
  generalize (b - e) * (b - e) = v at *
  generalize (c - f) * (c - f) = x at *
  rw [W_in (n := u) (by omega) (by omega), W_in (n := v) (by omega) (by omega), W_in (n := x) (by omega) (by omega), W_in (n := u + v) (by omega) (by omega), W_in (n := u + v + x) (by omega) (by omega)]
  omega

theorem len_facts {n : Int} (h0 : 0 ≤ n) (h1 : n ≤ 20000000) : 0 ≤ lowZ n ∧ lowZ n ≤ 4472 ∧ lowZ n ≤ highZ n ∧ highZ n ≤ lowZ n + 1 ∧ lowZ n * lowZ n ≤ n ∧ n ≤ highZ n * highZ n ∧ (lowZ n == highZ n) = (lowZ n * lowZ n == n) := by
  obtain ⟨a, b, c⟩ := lowZ_ok h0 (by omega)
  have hl : lowZ n ≤ 4472 := by
    by_cases hc : lowZ n ≤ 4472
    · exact hc
    · exfalso
      have : (4473 : Int) * 4473 ≤ lowZ n * lowZ n := Int.mul_le_mul (by omega) (by omega) (by omega) (by omega)
      omega
  unfold highZ
  by_cases he : lowZ n * lowZ n = n
  · have e1 : (lowZ n * lowZ n == n) = true := by rw [he]; simp
    rw [e1]
    simp only [cond_true]
    refine ⟨a, hl, Int.le_refl _, by omega, b, by omega, by simp⟩
  · have e1 : (lowZ n * lowZ n == n) = false := by simpa using he
    rw [e1]
    simp only [cond_false]
    refine ⟨a, hl, by omega, by omega, b, by omega, ?_⟩
    have : ¬ lowZ n = lowZ n + 1 := by omega
    simpa using this

theorem lt_sq {a b : Int} (ha : 0 ≤ a) (hb : 0 ≤ b) (h : a < b) : a * a < b * b := by
  have h1 : a * a ≤ a * b := Int.mul_le_mul_of_nonneg_left (by omega) ha
  have h2 : a * b < b * b := Int.mul_lt_mul_of_pos_right h (by omega)
  omega

theorem tri {x1 x2 x3 y1 y2 y3 p q l : Int} (hp : 0 ≤ p) (hq : 0 ≤ q) (hl : 0 ≤ l) (h1 : x1 * x1 + x2 * x2 + x3 * x3 ≤ p * p) (h2 : y1 * y1 + y2 * y2 + y3 * y3 ≤ q * q)
    (h3 : l * l ≤ (x1 + y1) * (x1 + y1) + (x2 + y2) * (x2 + y2) + (x3 + y3) * (x3 + y3)) : l ≤ p + q := by
  by_cases hc : l ≤ p + q
  · exact hc
  · exfalso
    have k1 := lt_sq (a := p + q) (b := l) (by omega) hl (by omega)
    have hpq : 0 ≤ p * q := Int.mul_nonneg hp hq
    have e1 : (p + q) * (p + q) = p * p + q * q + 2 * (p * q) := by grind
    have e2 : (x1 + y1) * (x1 + y1) + (x2 + y2) * (x2 + y2) + (x3 + y3) * (x3 + y3) = (x1 * x1 + x2 * x2 + x3 * x3) + (y1 * y1 + y2 * y2 + y3 * y3) + 2 * (x1 * y1 + x2 * y2 + x3 * y3) := by grind
    have hd : p * q < x1 * y1 + x2 * y2 + x3 * y3 := by omega
    have k2 := lt_sq hpq (by omega) hd
    have e3 : (x1 * x1 + x2 * x2 + x3 * x3) * (y1 * y1 + y2 * y2 + y3 * y3) = (x1 * y1 + x2 * y2 + x3 * y3) * (x1 * y1 + x2 * y2 + x3 * y3) + (x1 * y2 - x2 * y1) * (x1 * y2 - x2 * y1) + (x1 * y3 - x3 * y1) * (x1 * y3 - x3 * y1) + (x2 * y3 - x3 * y2) * (x2 * y3 - x3 * y2) := by grind
    have s1 := sq_nonneg (x1 * y2 - x2 * y1)
    have s2 := sq_nonneg (x1 * y3 - x3 * y1)
    have s3 := sq_nonneg (x2 * y3 - x3 * y2)
    have nx : 0 ≤ x1 * x1 + x2 * x2 + x3 * x3 := by
      have a1 := sq_nonneg x1; have a2 := sq_nonneg x2; have a3 := sq_nonneg x3; omega
    have ny : 0 ≤ y1 * y1 + y2 * y2 + y3 * y3 := by
      have a1 := sq_nonneg y1; have a2 := sq_nonneg y2; have a3 := sq_nonneg y3; omega
    have k3 : (x1 * x1 + x2 * x2 + x3 * x3) * (y1 * y1 + y2 * y2 + y3 * y3) ≤ (p * p) * (q * q) := Int.mul_le_mul h1 h2 ny (by omega)
    have e4 : (p * p) * (q * q) = (p * q) * (p * q) := by grind
    omega

/-- A detour is no shorter than nothing. -/
theorem det_facts {a b c d e f g h i : Int} (a1 : -1000 ≤ a ∧ a ≤ 1000) (b1 : -1000 ≤ b ∧ b ≤ 1000) (c1 : 0 ≤ c ∧ c ≤ 1000) (d1 : -1000 ≤ d ∧ d ≤ 1000) (e1 : -1000 ≤ e ∧ e ≤ 1000) (f1 : 0 ≤ f ∧ f ≤ 1000) (g1 : -1000 ≤ g ∧ g ≤ 1000) (h1 : -1000 ≤ h ∧ h ≤ 1000) (i1 : 0 ≤ i ∧ i ≤ 1000) :
    0 ≤ detL (sqZ a b c d e f) (sqZ d e f g h i) (sqZ a b c g h i) ∧ detL (sqZ a b c d e f) (sqZ d e f g h i) (sqZ a b c g h i) ≤ detH (sqZ a b c d e f) (sqZ d e f g h i) (sqZ a b c g h i) := by
  obtain ⟨A1, A2, A3⟩ := sq_eq a1 b1 c1 d1 e1 f1
  obtain ⟨B1, B2, B3⟩ := sq_eq d1 e1 f1 g1 h1 i1
  obtain ⟨C1, C2, C3⟩ := sq_eq a1 b1 c1 g1 h1 i1
  obtain ⟨p1, p2, p3, p4, p5, p6, _⟩ := len_facts A3 (by omega)
  obtain ⟨q1, q2, q3, q4, q5, q6, _⟩ := len_facts B3 (by omega)
  obtain ⟨r1, r2, r3, r4, r5, r6, _⟩ := len_facts C3 (by omega)
  have ht : lowZ (sqZ a b c g h i) ≤ highZ (sqZ a b c d e f) + highZ (sqZ d e f g h i) := by
    refine tri (x1 := a - d) (x2 := b - e) (x3 := c - f) (y1 := d - g) (y2 := e - h) (y3 := f - i) (by omega) (by omega) r1 (by omega) (by omega) ?_
    rw [show a - d + (d - g) = a - g by omega, show b - e + (e - h) = b - h by omega, show c - f + (f - i) = c - i by omega]
    omega
  unfold detL detH
  generalize lowZ (sqZ a b c g h i) = lc at *
  generalize highZ (sqZ a b c g h i) = hc at *
  generalize lowZ (sqZ a b c d e f) = la at *
  generalize highZ (sqZ a b c d e f) = ha at *
  generalize lowZ (sqZ d e f g h i) = lb at *
  generalize highZ (sqZ d e f g h i) = hb at *
  rw [W_in (n := la + lb) (by omega) (by omega), W_in (n := la + lb - hc) (by omega) (by omega), W_in (n := ha + hb) (by omega) (by omega), W_in (n := ha + hb - lc) (by omega) (by omega)]
  split <;> omega

/-- No detour: by the spot itself. -/
theorem det_none {a b c g h i : Int} (a1 : -1000 ≤ a ∧ a ≤ 1000) (b1 : -1000 ≤ b ∧ b ≤ 1000) (c1 : 0 ≤ c ∧ c ≤ 1000) (g1 : -1000 ≤ g ∧ g ≤ 1000) (h1 : -1000 ≤ h ∧ h ≤ 1000) (i1 : 0 ≤ i ∧ i ≤ 1000) :
    detL (sqZ a b c a b c) (sqZ a b c g h i) (sqZ a b c g h i) = 0 ∧ detH (sqZ a b c a b c) (sqZ a b c g h i) (sqZ a b c g h i) ≤ 1 := by
  obtain ⟨A1, _, _⟩ := sq_eq a1 b1 c1 a1 b1 c1
  obtain ⟨C1, C2, C3⟩ := sq_eq a1 b1 c1 g1 h1 i1
  obtain ⟨r1, r2, r3, r4, r5, r6, _⟩ := len_facts C3 (by omega)
  have hz : sqZ a b c a b c = 0 := by rw [A1]; simp
  rw [hz]
  have l0 : lowZ 0 = 0 := by decide
  have h0 : highZ 0 = 0 := by decide
  unfold detL detH
  rw [l0, h0]
  generalize lowZ (sqZ a b c g h i) = lc at *
  generalize highZ (sqZ a b c g h i) = hc at *
  rw [W_in (n := 0 + lc) (by omega) (by omega), W_in (n := 0 + lc - hc) (by omega) (by omega), W_in (n := 0 + hc) (by omega) (by omega), W_in (n := 0 + hc - lc) (by omega) (by omega)]
  split <;> omega
end Go.Proofs.YtmlglimahbjgbaaGreatDoor

namespace Go.Proofs.YtmlglimahbjgbaaGreatDoor
open Go Go.Am Go.Town
set_option maxRecDepth 100000
variable {w0 : World}

/-! # Contracts of typed arguments, and loops over lists -/

/-- Contracts of before, as they are asked for now. -/
def tG (F : List D → Option (Bool × D)) (ds : List D) : FT D :=
  match F ds with
  | some (b, d) => .br b (.leaf d) .bad
  | none => .bad

theorem tG_run {F : List D → Option (Bool × D)} {ds : List D} {d : D} (h : (tG F ds).run = some d) : F ds = some (true, d) := by
  unfold tG at h
  cases hF : F ds with
  | none => simp [hF, FT.run] at h
  | some p =>
    obtain ⟨b, d'⟩ := p
    cases b <;> simp [hF, FT.run] at h
    rw [h]

theorem gd_of {c : Ctr} (h : Good w0 c) : Gd (cfg w0) ⟨c.g, tG c.F⟩ := fun ds d hd => h ds d (tG_run hd)
noncomputable def old (cs : List Ctr) : List Ct := cs.map fun c => ⟨c.g, tG c.F⟩
theorem old_gd : ∀ {cs : List Ctr}, Goods w0 cs → Gds (cfg w0) (old cs)
  | [], _ => trivial
  | _ :: _, h => ⟨gd_of h.1, old_gd h.2⟩

theorem cfg_ok (w0 : World) : CfgOk (cfg w0) := ⟨fun _ _ h => Tr.get_all tyTr_all h, fun _ _ h => Tr.get_all fnTr_all h, by kernel_rfl⟩

abbrev ik : Kd := .int .i64
abbrev wallK : List Kd := [.str, ik, ik, ik, ik, ik, ik]
abbrev v3K : List Kd := [ik, ik, ik]
abbrev intK : List Kd := [ik]

def t1 (n : Int) : Tup intK := (n, ())

def wChk (w : Tup wallK) : Int := chkWall w.1 w.2.1 w.2.2.1 w.2.2.2.1 w.2.2.2.2.1 w.2.2.2.2.2.1 w.2.2.2.2.2.2.1
def wErr (w : Tup wallK) (s r : Tup v3K) : Int := errZ w.1 w.2.1 w.2.2.1 w.2.2.2.1 w.2.2.2.2.1 w.2.2.2.2.2.1 w.2.2.2.2.2.2.1 s.1 s.2.1 s.2.2.1 r.1 r.2.1 r.2.2.1
def wDep (w : Tup wallK) (s r : Tup v3K) : Int := depP w.2.1 w.2.2.1 w.2.2.2.1 w.2.2.2.2.1 w.2.2.2.2.2.1 s.1 s.2.1 s.2.2.1 r.1 r.2.1 r.2.2.1
def pChk (s : Tup v3K) : Int := chkSpot s.1 s.2.1 s.2.2.1


theorem lt_t {j n : Nat} (h : j < n) : decide ((j : Int) < (n : Int)) = true := by simp [h]
theorem ge_f (n : Nat) : decide ((n : Int) < (n : Int)) = false := by simp
theorem inb {j n : Nat} (z : Nat) (h : j < n) : (Nat.beq z z && (decide (0 ≤ (j : Int)) && decide ((j : Int) < (n : Int)))) = true := by
  simp [h]
theorem room {α : Type} {out : List α} {x : α} {k : Nat} (h : out.length ≤ 1000000) (hk : k ≤ 1000) : (Nat.ble ((out ++ [x]).length * k) 1000000000000 && Nat.ble (out ++ [x]).length 1000000000000) = true := by
  simp only [List.length_append, List.length_singleton, Bool.and_eq_true, Nat.ble_eq]
  have : (out.length + 1) * k ≤ 1000001 * 1000 := Nat.mul_le_mul (by omega) hk
  omega

/-- The first that is found ends it. -/
theorem lsRun_any {τ β : Type} {id : Nat} {p : τ → Bool} {c : β} : ∀ (l : List τ) (i : Nat) (a : β), ∃ q : Nat, lsRun id (fun w a => bif p w then (X.ret, c) else (.normal, a)) l i a = bif l.any p then (.ret, ((q : Int), c)) else (.exit id, (((i + l.length : Nat) : Int), a))
  | [], i, a => ⟨0, rfl⟩
  | w :: ws, i, a => by
    obtain ⟨q, hq⟩ := lsRun_any (id := id) (p := p) (c := c) ws (i + 1) a
    unfold lsRun
    cases hp : p w with
    | true => exact ⟨i, by simp [hp]⟩
    | false =>
      refine ⟨q, ?_⟩
      simp only [hp, cond_false, List.any_cons, Bool.false_or]
      rw [hq]
      simp only [List.length_cons, show i + 1 + ws.length = i + (ws.length + 1) by omega]

/-- What is owed for one side alone. -/
theorem br_run {b : Bool} {x : FT D} {d : D} (h : (FT.br b x .bad).run = some d) : b = true ∧ x.run = some d := by
  cases b with
  | true => exact ⟨rfl, h⟩
  | false => cases h

def onX (x : X) (a b : D) : D :=
  match x with
  | .ret => a
  | _ => b

/-- A function with one loop over a list. -/
theorem fn_ls (h0 : Lib0 w0) {cs : List Ct} (hcs : Gds (cfg w0) cs) {g : FuncId} {fd : AFn} (hfd : fnTr.get g = some fd) (rel : List (Nat × Cv)) {ks : List Kd} (l : List (Tup ks)) (hlen : l.length ≤ 1000000) {α : Type} (st : Int × α → List D)
    (f : Tup ks → α → X × α) (inv : Nat → α → Prop) {a0 : α} (hi : inv 0 a0)
    (hr : ∀ (j : Nat) a, j < l.length → inv j a → RdOK ((cfg w0).at cs) fd.ntmps rel (lpB 0 fd.body) (st ((j : Int), a)) (f (nth l j) a).1 (st (nx j (f (nth l j) a))))
    (hn : ∀ (j : Nat) a a', j < l.length → inv j a → f (nth l j) a = (.normal, a') → inv (j + 1) a')
    (he : ∀ a, inv l.length a → RdOK ((cfg w0).at cs) fd.ntmps rel (lpB 0 fd.body) (st ((l.length : Int), a)) (.exit 0) (st ((l.length : Int), a)))
    {ds : List D} {d : D} (hb : ∀ x p, lsRun 0 f l 0 a0 = (x, p) → bodyT ((cfg w0).at cs) 40 [ldP 0 fd.ntmps rel (outX 0 x) (st p)] 40 fd ds = some ([(ldP 0 fd.ntmps rel (outX 0 x) (st p), .loop (lpB 0 fd.body), st (0, a0))], d)) : FnD (cfg w0) g ds d := by
  cases hx : lsRun 0 f l 0 a0 with
  | mk x p => exact fnD_lp (cfg_ok w0) h0 hcs hfd (hb x p hx) (ldT_ls (at_ok (cfg_ok w0) cs) (at_sp h0 hcs) l (by omega) st f inv hr hn he hi hx)

/-- A function with one loop over a range. -/
theorem fn_rg (h0 : Lib0 w0) {cs : List Ct} (hcs : Gds (cfg w0) cs) {g : FuncId} {fd : AFn} (hfd : fnTr.get g = some fd) (rel : List (Nat × Cv)) (k : Nat) (hk : k ≤ 1000000) {α : Type} (st : Int × α → List D)
    (f : Nat → α → X × α) (inv : Nat → α → Prop) {a0 : α} (hi : inv 0 a0)
    (hr : ∀ (j : Nat) a, j < k → inv j a → RdOK ((cfg w0).at cs) fd.ntmps rel (lpB 0 fd.body) (st ((j : Int), a)) (f j a).1 (st (nx j (f j a))))
    (hn : ∀ (j : Nat) a a', j < k → inv j a → f j a = (.normal, a') → inv (j + 1) a')
    (he : ∀ a, inv k a → RdOK ((cfg w0).at cs) fd.ntmps rel (lpB 0 fd.body) (st ((k : Int), a)) (.exit 0) (st ((k : Int), a)))
    {ds : List D} {d : D} (hb : ∀ x p, rgRun 0 f k 0 a0 = (x, p) → bodyT ((cfg w0).at cs) 40 [ldP 0 fd.ntmps rel (outX 0 x) (st p)] 40 fd ds = some ([(ldP 0 fd.ntmps rel (outX 0 x) (st p), .loop (lpB 0 fd.body), st (0, a0))], d)) : FnD (cfg w0) g ds d := by
  cases hx : rgRun 0 f k 0 a0 with
  | mk x p => exact fnD_lp (cfg_ok w0) h0 hcs hfd (hb x p hx) (ldT_rg (at_ok (cfg_ok w0) cs) (at_sp h0 hcs) (by omega) st f inv hr hn he hi hx)

end Go.Proofs.YtmlglimahbjgbaaGreatDoor
