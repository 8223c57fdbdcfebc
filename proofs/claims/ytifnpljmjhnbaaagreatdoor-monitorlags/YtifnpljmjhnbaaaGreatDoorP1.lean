/-
  A part of the proof of the statement that the claim names: see the last file.
-/
import Derived.Test.YtifnpljmjhnbaaaGreatDoorM5
import Derived.Test.YtifnpljmjhnbaaaGreatDoorM6
namespace Go.Proofs.YtifnpljmjhnbaaaGreatDoor
open Go Go.Am
set_option maxRecDepth 100000
variable {w0 : World}
noncomputable section


def cmp3 (x y : T3) (k : Option D) : Option D :=
  bif ((x.1 == y.1) && ((x.2.1 == y.2.1) && true)) then bif x.2.2 == y.2.2 then k else some (Bo false) else some (Bo false)
def law3 (r a b c e f g : Int) : Option D :=
  bif (!(e15 r a b != 0) && (is0 b || is0 a)) then none else
  bif e15 r a b == 0 then
    bif (is0 b || is0 a) then none else
    bif e16 c e f g == 0 then cmp3 (cal r a b) (calR r a b) (cmp3 (agr c e f g) (agrR c e f g) (some (Bo true)))
    else cmp3 (cal r a b) (calR r a b) (cmp3 (agr c e f g) (0, 0, e16 c e f g) (some (Bo true)))
  else
    bif e16 c e f g == 0 then cmp3 (cal r a b) (0, 0, e15 r a b) (cmp3 (agr c e f g) (agrR c e f g) (some (Bo true)))
    else cmp3 (cal r a b) (0, 0, e15 r a b) (cmp3 (agr c e f g) (0, 0, e16 c e f g) (some (Bo true)))
theorem run3 (r a b c e f g : Int) : bodyK ((cfg w0).at (c23 :: baseG)) 40 (fnOf Tryz.f3) [I r, .agg [I a, I b], .agg [I c, I e, I f, I g]] = law3 r a b c e f g := by kernel_rfl

theorem within_zero {n lo hi : Int} (h : withinZ n lo hi = 0) : lo ≤ n ∧ n ≤ hi := by
  unfold withinZ whenZ at h
  cases hb : (decide (n < lo) || decide (n > hi)) with
  | true => rw [hb] at h; cases h
  | false => simp only [Bool.or_eq_false_iff, decide_eq_false_iff_not] at hb; omega
theorem ord_zero {p q : Prop} [Decidable p] [Decidable q] : True := trivial
theorem first_zero {x y : Int} (h : (bif x != 0 then x else y) = 0) : x = 0 ∧ y = 0 := by
  cases hx : (x != 0) with
  | true => rw [hx] at h; simp only [cond_true] at h; rw [h] at hx; simp at hx
  | false => rw [hx] at h; exact ⟨by simpa using hx, h⟩
theorem inter_zero {a b lo hi : Int} (h : interZ a b lo hi = 0) : lo ≤ a ∧ a ≤ hi ∧ lo ≤ b ∧ b ≤ hi ∧ a ≤ b := by
  unfold interZ at h
  obtain ⟨h1, h⟩ := first_zero h
  obtain ⟨h2, h⟩ := first_zero h
  obtain ⟨h3, _⟩ := first_zero h
  have h3 : ¬ a > b := by
    unfold whenZ at h3
    cases hb : decide (a > b) with
    | true => rw [hb] at h3; cases h3
    | false => simpa using hb
  obtain ⟨h1, h1'⟩ := within_zero h1
  obtain ⟨h2, h2'⟩ := within_zero h2
  exact ⟨h1, h1', h2, h2', by omega⟩
theorem W_id {n : Int} (h1 : -9223372036854775808 ≤ n) (h2 : n ≤ 9223372036854775807) : IntKind.i64.wrap n = n := by
  rw [IntKind.wrap_i64]
  omega
theorem tdivW {x y : Int} (hx : 0 ≤ x) (hx' : x ≤ 9223372036854775807) (hy : 0 < y) : IntKind.i64.wrap (x.tdiv y) = x / y := by
  rw [Int.tdiv_eq_ediv_of_nonneg hx]
  have h1 : 0 ≤ x / y := Int.ediv_nonneg hx (by omega)
  have h2 : x / y ≤ x := Int.ediv_le_self _ hx
  exact W_id (by omega) (by omega)
theorem floorZ_eq {x y : Int} (hx : 0 ≤ x) (hx' : x ≤ 4611686018427387903) (hy : 0 < y) : floorZ x y = x / y := by
  unfold floorZ
  rw [tdivW hx (by omega) hy]
  have h1 : 0 ≤ x / y := Int.ediv_nonneg hx (by omega)
  have h3 : x / y * y ≤ x := Int.ediv_mul_le x (by omega)
  have h4 : 0 ≤ x / y * y := Int.mul_nonneg h1 (by omega)
  rw [W_id (by omega) (by omega), decide_eq_false (by omega)]
  rfl
theorem upZ_eq {x y : Int} (hx : 0 ≤ x) (hx' : x ≤ 4611686018427387903) (hy : 0 < y) (hy' : y ≤ 4611686018427387903) : upZ x y = (x + y - 1) / y := by
  unfold upZ
  rw [W_id (n := x + y) (by omega) (by omega), W_id (n := x + y - 1) (by omega) (by omega), tdivW (by omega) (by omega) hy]
theorem ceilZ_eq {x y : Int} (hx : 0 ≤ x) (hx' : x ≤ 4611686018427387903) (hy : 0 < y) (hy' : y ≤ 4611686018427387903) : ceilZ x y = (x + y - 1) / y := by
  unfold ceilZ
  rw [W_id (n := 0 - x) (by omega) (by omega)]
  have hq : (0 - x).tdiv y = -(x / y) := by
    rw [Int.zero_sub, Int.neg_tdiv, Int.tdiv_eq_ediv_of_nonneg hx]
  have h1 : 0 ≤ x / y := Int.ediv_nonneg hx (by omega)
  have h2 : x / y ≤ x := Int.ediv_le_self _ hx
  have h3 : x / y * y ≤ x := Int.ediv_mul_le x (by omega)
  have h4 : 0 ≤ x / y * y := Int.mul_nonneg h1 (by omega)
  have hm : x / y * y + x % y = x := by rw [Int.mul_comm]; exact Int.mul_ediv_add_emod x y
  have h5 : 0 ≤ x % y := Int.emod_nonneg x (by omega)
  have h6 : x % y < y := Int.emod_lt_of_pos x hy
  have hf : floorZ (0 - x) y = bif decide (x % y > 0) then -(x / y) - 1 else -(x / y) := by
    unfold floorZ
    rw [hq, W_id (n := -(x / y)) (by omega) (by omega), Int.neg_mul, W_id (n := -(x / y * y)) (by omega) (by omega), W_id (n := -(x / y) - 1) (by omega) (by omega)]
    congr 1
    rw [decide_eq_decide]
    omega
  rw [hf]
  by_cases hz : x % y > 0
  · rw [decide_eq_true hz, cond_true, W_id (by omega) (by omega)]
    have : x + y - 1 = (x % y - 1) + (x / y + 1) * y := by
      rw [Int.add_mul, Int.one_mul]; omega
    rw [this, Int.add_mul_ediv_right _ _ (by omega), Int.ediv_eq_zero_of_lt (a := x % y - 1) (b := y) (by omega) (by omega)]
    omega
  · rw [decide_eq_false hz, cond_false, W_id (by omega) (by omega)]
    have : x + y - 1 = (y - 1) + (x / y) * y := by omega
    rw [this, Int.add_mul_ediv_right _ _ (by omega), Int.ediv_eq_zero_of_lt (a := y - 1) (b := y) (by omega) (by omega)]
    omega
theorem cmp3_ok {x y : T3} {k : Option D} (h : x = y) : cmp3 x y k = k := by
  subst h
  unfold cmp3
  simp
theorem cal_eq {r a b : Int} (h : e15 r a b = 0) : cal r a b = calR r a b ∧ (is0 b || is0 a) = false := by
  obtain ⟨h1, h2⟩ := first_zero h
  obtain ⟨h2, _⟩ := first_zero h2
  obtain ⟨h1, h1'⟩ := within_zero h1
  obtain ⟨ha, ha', hb, hb', hab⟩ := inter_zero h2
  refine ⟨?_, by simp only [is0, Bool.or_eq_false_iff, decide_eq_false_iff_not]; omega⟩
  have e1 : hi15 r a = ce21 r a := by
    unfold hi15 ce21
    rw [W_id (n := 1000 * r) (by omega) (by omega), upZ_eq (by omega) (by omega) (by omega) (by omega), ceilZ_eq (by omega) (by omega) (by omega) (by omega)]
  have e2 : lo15 r b = fl21 r b := by
    unfold lo15 fl21
    rw [W_id (n := 1000 * r) (by omega) (by omega), floorZ_eq (by omega) (by omega) (by omega), tdivW (by omega) (by omega) (by omega)]
  unfold cal calR
  rw [h, e1, e2]
  rfl
theorem agr_eq {a b c e : Int} (h : e16 a b c e = 0) : agr a b c e = agrR a b c e := by
  unfold agr agrR
  rw [h]
  rfl
theorem law3_true (r a b c e f g : Int) : law3 r a b c e f g = some (Bo true) := by
  unfold law3
  cases hz : (e15 r a b == 0) with
  | true =>
    have hz0 : e15 r a b = 0 := by simpa using hz
    obtain ⟨hc, hn⟩ := cal_eq hz0
    rw [hn, Bool.and_false, cond_false, cond_true, cond_false, cmp3_ok hc]
    cases hy : (e16 c e f g == 0) with
    | true => rw [cond_true, cmp3_ok (agr_eq (by simpa using hy)), ]
    | false =>
      rw [cond_false, cmp3_ok hc, cmp3_ok]
      unfold agr
      rw [show (e16 c e f g != 0) = true by simpa [bne] using hy]
      rfl
  | false =>
    have hne : (e15 r a b != 0) = true := by simpa [bne] using hz
    have hc : cal r a b = (0, 0, e15 r a b) := by unfold cal; rw [hne]; rfl
    rw [hne, Bool.not_true, Bool.false_and, cond_false, cond_false, cmp3_ok hc]
    cases hy : (e16 c e f g == 0) with
    | true => rw [cond_true, cmp3_ok (agr_eq (by simpa using hy))]
    | false =>
      rw [cond_false, cmp3_ok hc, cmp3_ok]
      unfold agr
      rw [show (e16 c e f g != 0) = true by simpa [bne] using hy]
      rfl
theorem law3_fn (h0 : Lib0 w0) (r a b c e f g : Int) : FnD (cfg w0) 3 [I r, .agg [I a, I b], .agg [I c, I e, I f, I g]] (Bo true) :=
  fnD_k (cfg_ok w0) h0 (cs := c23 :: baseG) ⟨gd23 h0, baseG_gd h0⟩ (fd := fnOf Tryz.f3) rfl ((run3 ..).trans (law3_true ..))
end
end Go.Proofs.YtifnpljmjhnbaaaGreatDoor
