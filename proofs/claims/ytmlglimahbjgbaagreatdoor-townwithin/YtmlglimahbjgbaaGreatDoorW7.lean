/-
 A part of the proof of the statement that the claim names: see the last file.
-/
import Derived.Test.YtmlglimahbjgbaaGreatDoorW6
import Derived.Test.YtmlglimahbjgbaaGreatDoorAm4
namespace Go.Proofs.YtmlglimahbjgbaaGreatDoor
open Go Go.Am Go.Town
set_option maxRecDepth 100000
def sP (ax ay bx by' px py : Int) : Int := (bx - ax) * (py - ay) - (by' - ay) * (px - ax)
theorem over {p q p' q' u v u' v' m M D : Int} (hD : 0 < D) (hp : 0 ≤ p) (hq : 0 ≤ q) (hp' : 0 ≤ p') (hq' : 0 ≤ q') (h1 : p + q = D) (h2 : p' + q' = D) (he : p * u + q * v = p' * u' + q' * v')
  (hu : m ≤ u) (hv : m ≤ v) (hu' : u' ≤ M) (hv' : v' ≤ M) : m ≤ M := by
 have a1 := Int.mul_le_mul_of_nonneg_left hu hp
 have a2 := Int.mul_le_mul_of_nonneg_left hv hq
 have b1 := Int.mul_le_mul_of_nonneg_left hu' hp'
 have b2 := Int.mul_le_mul_of_nonneg_left hv' hq'
 have e1 : D * m = p * m + q * m := by rw [← h1, Int.add_mul]
 have e2 : D * M = p' * M + q' * M := by rw [← h2, Int.add_mul]
 exact Int.le_of_mul_le_mul_left (by omega) hD
theorem id_diff (ax ay bx by' sx sy rx ry : Int) : sP sx sy rx ry bx by' - sP sx sy rx ry ax ay = sP ax ay bx by' sx sy - sP ax ay bx by' rx ry := by unfold sP; grind
theorem id_x (ax ay bx by' sx sy rx ry : Int) : sP ax ay bx by' sx sy * rx - sP ax ay bx by' rx ry * sx = sP sx sy rx ry bx by' * ax - sP sx sy rx ry ax ay * bx := by unfold sP; grind
theorem id_y (ax ay bx by' sx sy rx ry : Int) : sP ax ay bx by' sx sy * ry - sP ax ay bx by' rx ry * sy = sP sx sy rx ry bx by' * ay - sP sx sy rx ry ax ay * by' := by unfold sP; grind
theorem id_prev (jx jy ax ay bx by' sx sy rx ry : Int) : sP ax ay bx by' sx sy * sP jx jy ax ay rx ry - sP ax ay bx by' rx ry * sP jx jy ax ay sx sy = -sP sx sy rx ry ax ay * sP jx jy ax ay bx by' := by unfold sP; grind
theorem id_next (ax ay bx by' kx ky sx sy rx ry : Int) : sP ax ay bx by' sx sy * sP bx by' kx ky rx ry - sP ax ay bx by' rx ry * sP bx by' kx ky sx sy = sP sx sy rx ry bx by' * sP bx by' kx ky ax ay := by unfold sP; grind
theorem meet_cases {S R a b : Int} (h : meetsZ S R a b = true) : ((0 < S ∧ R < 0) ∨ (S < 0 ∧ 0 < R)) ∧ ¬((0 < a ∧ 0 < b) ∨ (a < 0 ∧ b < 0)) := by
 unfold meetsZ at h
 simp only [Bool.and_eq_true, Bool.or_eq_true, decide_eq_true_eq, Bool.not_eq_true', Bool.or_eq_false_iff, Bool.and_eq_false_iff, decide_eq_false_iff_not] at h
 omega
theorem meet_of {S R a b : Int} (h1 : 0 < S) (h2 : R < 0) (h3 : a ≤ 0) (h4 : 0 ≤ b) : meetsZ S R a b = true := by
 unfold meetsZ
 simp only [Bool.and_eq_true, Bool.or_eq_true, decide_eq_true_eq, Bool.not_eq_true', Bool.or_eq_false_iff, Bool.and_eq_false_iff, decide_eq_false_iff_not]
 omega
theorem one_co {S R a b s r A B : Int} (hd : b - a = S - R) (hx : S * r - R * s = b * A - a * B) (hc : (0 < S ∧ R < 0) ∨ (S < 0 ∧ 0 < R)) (hn : ¬((0 < a ∧ 0 < b) ∨ (a < 0 ∧ b < 0))) {m M m' M' : Int}
  (h1 : m ≤ s) (h2 : m ≤ r) (h3 : s ≤ M) (h4 : r ≤ M) (h5 : m' ≤ A) (h6 : m' ≤ B) (h7 : A ≤ M') (h8 : B ≤ M') : m ≤ M' ∧ m' ≤ M := by
 rcases hc with ⟨hS, hR⟩ | ⟨hS, hR⟩
 ·have ha : a ≤ 0 := by omega
  have hb : 0 ≤ b := by omega
  have he : S * r + -R * s = b * A + -a * B := by rw [Int.neg_mul, Int.neg_mul]; omega
  exact ⟨over (D := S - R) (by omega) (by omega) (by omega : 0 ≤ -R) hb (by omega : 0 ≤ -a) (by omega) (by omega) he h2 h1 h7 h8, over (D := S - R) (by omega) hb (by omega : 0 ≤ -a) (by omega) (by omega : 0 ≤ -R) (by omega) (by omega) he.symm h5 h6 h4 h3⟩
 ·have ha : 0 ≤ a := by omega
  have hb : b ≤ 0 := by omega
  have he : -S * r + R * s = -b * A + a * B := by rw [Int.neg_mul, Int.neg_mul]; omega
  exact ⟨over (D := R - S) (by omega) (by omega : 0 ≤ -S) (by omega) (by omega : 0 ≤ -b) ha (by omega) (by omega) he h2 h1 h7 h8, over (D := R - S) (by omega) (by omega : 0 ≤ -b) ha (by omega : 0 ≤ -S) (by omega) (by omega) (by omega) he.symm h5 h6 h4 h3⟩
theorem least_quot (S R : Nat → Int) : ∀ (n : Nat), (∀ j, j < n → 0 < S j) → (∃ j, j < n ∧ R j < 0) → ∃ i, i < n ∧ R i < 0 ∧ ∀ j, j < n → R j < 0 → S i * (-R j) ≤ S j * (-R i)
 | 0, _, ⟨j, hj, _⟩ => by omega
 | n + 1, hS, hex => by
   by_cases h : ∃ j, j < n ∧ R j < 0
   ·obtain ⟨i, hi, hRi, hmin⟩ := least_quot S R n (fun j hj => hS j (by omega)) h
    by_cases hn : R n < 0
    ·by_cases hle : S i * (-R n) ≤ S n * (-R i)
     ·refine ⟨i, by omega, hRi, fun j hj hRj => ?_⟩
      by_cases hjn : j = n
      ·subst hjn; exact hle
      ·exact hmin j (by omega) hRj
     ·refine ⟨n, by omega, hn, fun j hj hRj => ?_⟩
      by_cases hjn : j = n
      ·subst hjn; exact Int.le_refl _
      ·have h1 := hmin j (by omega) hRj
       have h2 : S n * (-R i) ≤ S i * (-R n) := by omega
       have hSi := hS i (by omega)
       have hSn := hS n (by omega)
       -- S n * (-R j) ≤ S j * (-R n): times S i
       have e1 : S i * (S n * (-R j)) = S n * (S i * (-R j)) := by grind
       have e2 : S n * (S j * (-R i)) = S j * (S n * (-R i)) := by grind
       have e3 : S j * (S i * (-R n)) = S i * (S j * (-R n)) := by grind
       have g1 := Int.mul_le_mul_of_nonneg_left h1 (Int.le_of_lt hSn)
       have g2 := Int.mul_le_mul_of_nonneg_left h2 (Int.le_of_lt (hS j (by omega)))
       exact Int.le_of_mul_le_mul_left (a := S i) (by omega) hSi
    ·refine ⟨i, by omega, hRi, fun j hj hRj => ?_⟩
     by_cases hjn : j = n
     ·subst hjn; exact absurd hRj hn
     ·exact hmin j (by omega) hRj
   ·obtain ⟨j, hj, hRj⟩ := hex
    have : j = n := by
     apply Classical.byContradiction
     intro hne
     exact h ⟨j, by omega, hRj⟩
    subst this
    refine ⟨j, by omega, hRj, fun k hk hRk => ?_⟩
    have : k = j := by
     apply Classical.byContradiction
     intro hne
     exact h ⟨k, by omega, hRk⟩
    subst this
    exact Int.le_refl _
theorem neg_end {S R S' R' : Int} (hS : 0 < S) (hR : R < 0) (hS' : 0 < S') (hmin : R' < 0 → S * (-R') ≤ S' * (-R)) : 0 ≤ S * R' - R * S' := by
 by_cases h : R' < 0
 ·have := hmin h
  rw [Int.mul_neg, Int.mul_neg] at this
  rw [Int.mul_comm R S']
  omega
 ·have h1 : 0 ≤ S * R' := Int.mul_nonneg (by omega) (by omega)
  have h2 : 0 ≤ (-R) * S' := Int.mul_nonneg (by omega) (by omega)
  rw [Int.neg_mul] at h2
  omega
theorem sign_prev {x a T : Int} (h : 0 ≤ x) (e : x = -a * T) (hT : 0 < T) : a ≤ 0 := by
 apply Classical.byContradiction
 intro hn
 have : 0 < a * T := Int.mul_pos (by omega) hT
 rw [Int.neg_mul] at e
 omega
theorem sign_next {x b T : Int} (h : 0 ≤ x) (e : x = b * T) (hT : 0 < T) : 0 ≤ b := by
 apply Classical.byContradiction
 intro hn
 have : 0 < (-b) * T := Int.mul_pos (by omega) hT
 rw [Int.neg_mul] at this
 omega
end Go.Proofs.YtmlglimahbjgbaaGreatDoor
namespace Go.Proofs.YtmlglimahbjgbaaGreatDoor
open Go Go.Am Go.Town
set_option maxRecDepth 100000
theorem chkE_zero {seen : List ByteArray} {w : Tup wallK} : chkE seen w = 0 ↔ wChk w = 0 ∧ seen.any (fun s => nmW w == s) = false := by
 unfold chkE
 cases h : (wChk w != 0) with
 | true =>
   have : wChk w ≠ 0 := by simpa using h
   simp [this]
 | false =>
   have : wChk w = 0 := by simpa using h
   cases h2 : seen.any (fun s => nmW w == s) <;> simp [this]
theorem chkFrom_iff : ∀ (l : List (Tup wallK)) (seen : List ByteArray), chkFrom seen l = 0 ↔ (∀ w ∈ l, wChk w = 0 ∧ seen.any (fun s => nmW w == s) = false) ∧ l.Pairwise (fun a b => (nmW b == nmW a) = false)
 | [], seen => by simp [chkFrom]
 | w :: ws, seen => by
   unfold chkFrom
   have IH := chkFrom_iff ws (seen ++ [nmW w])
   cases h : (chkE seen w != 0) with
   | true =>
     have hne : chkE seen w ≠ 0 := by simpa using h
     simp only [cond_true]
     constructor
     ·intro he; exact absurd he hne
     ·intro ⟨h1, _⟩; exact chkE_zero.2 (h1 w (by simp))
   | false =>
     have hz := chkE_zero.1 (by simpa using h : chkE seen w = 0)
     simp only [cond_false]
     rw [IH, List.pairwise_cons]
     simp only [List.any_append, List.any_cons, List.any_nil, Bool.or_false, Bool.or_eq_false_iff, List.mem_cons]
     constructor
     ·intro ⟨h1, h2⟩
      refine ⟨fun v hv => ?_, fun v hv => (h1 v hv).2.2, h2⟩
      rcases hv with rfl | hv
      ·exact hz
      ·exact ⟨(h1 v hv).1, (h1 v hv).2.1⟩
     ·intro ⟨h1, h2, h3⟩
      exact ⟨fun v hv => ⟨(h1 v (.inr hv)).1, (h1 v (.inr hv)).2, h2 v hv⟩, h3⟩
theorem chkAll_iff {l : List (Tup wallK)} : chkAllW l = 0 ↔ l.length ≤ 32 ∧ (∀ w ∈ l, wChk w = 0) ∧ l.Pairwise (fun a b => (nmW b == nmW a) = false) := by
 unfold chkAllW
 cases hd : decide ((l.length : Int) > 32) with
 | true =>
   rw [decide_eq_true_eq] at hd
   simp only [cond_true]
   constructor
   ·intro h; cases h
   ·intro ⟨h, _⟩; omega
 | false =>
   rw [decide_eq_false_iff_not] at hd
   simp only [cond_false]
   rw [chkFrom_iff]
   simp only [List.any_nil, and_true]
   exact ⟨fun ⟨a, b⟩ => ⟨by omega, a, b⟩, fun ⟨_, a, b⟩ => ⟨a, b⟩⟩
theorem chkAll_filter {l : List (Tup wallK)} {p : Tup wallK → Bool} (h : chkAllW l = 0) : chkAllW (l.filter p) = 0 := by
 rw [chkAll_iff] at h ⊢
 exact ⟨Nat.le_trans (List.length_filter_le ..) h.1, fun w hw => h.2.1 w (List.mem_filter.1 hw).1, h.2.2.filter p⟩
theorem beside_sP {sx sy tx ty px py : Int} (a1 : -1000 ≤ sx ∧ sx ≤ 1000) (a2 : -1000 ≤ sy ∧ sy ≤ 1000) (b1 : -1000 ≤ tx ∧ tx ≤ 1000) (b2 : -1000 ≤ ty ∧ ty ≤ 1000) (p1 : -1000 ≤ px ∧ px ≤ 1000) (p2 : -1000 ≤ py ∧ py ≤ 1000) :
  besideZ sx sy tx ty 1 px py = sP sx sy tx ty px py := by
 unfold besideZ sP
 rw [Int.mul_one, Int.mul_one, W_in (n := sy) (by omega) (by omega), W_in (n := sx) (by omega) (by omega), W_in (n := tx - sx) (by omega) (by omega), W_in (n := py - sy) (by omega) (by omega), W_in (n := ty - sy) (by omega) (by omega), W_in (n := px - sx) (by omega) (by omega)]
 have m1 := mul_bound (a := tx - sx) (b := py - sy) (A := 2000) (B := 2000) (by omega) (by omega) (by omega) (by omega)
 have m2 := mul_bound (a := ty - sy) (b := px - sx) (A := 2000) (B := 2000) (by omega) (by omega) (by omega) (by omega)
 generalize (tx - sx) * (py - sy) = u at *
 generalize (ty - sy) * (px - sx) = v at *
 rw [W_in (n := u) (by omega) (by omega), W_in (n := v) (by omega) (by omega), W_in (n := u - v) (by omega) (by omega)]
theorem meetP_sP {ax ay bx by' h sx sy sz rx ry rz : Int} (S : Small ax ay bx by' h sx sy sz rx ry rz) :
  meetP ax ay bx by' sx sy rx ry = meetsZ (sP ax ay bx by' sx sy) (sP ax ay bx by' rx ry) (sP sx sy rx ry ax ay) (sP sx sy rx ry bx by') := by
 unfold meetP
 rw [(side_bound S.a1 S.a2 S.b1 S.b2 S.s1 S.s2).2.2, (side_bound S.a1 S.a2 S.b1 S.b2 S.r1 S.r2).2.2, beside_sP S.s1 S.s2 S.r1 S.r2 S.a1 S.a2, beside_sP S.s1 S.s2 S.r1 S.r2 S.b1 S.b2]
 rfl
theorem out_dep {ax ay bx by' h sx sy sz rx ry rz : Int} (S : Small ax ay bx by' h sx sy sz rx ry rz)
  (ho : outR ax ay bx by' (minW sx rx) (minW sy ry) (maxW sx rx) (maxW sy ry) = true) : depP ax ay bx by' h sx sy sz rx ry rz = 0 := by
 have hm : meetP ax ay bx by' sx sy rx ry = false := by
  cases hm : meetP ax ay bx by' sx sy rx ry with
  | false => rfl
  | true =>
    rw [meetP_sP S] at hm
    obtain ⟨hc, hn⟩ := meet_cases hm
    have hd := id_diff ax ay bx by' sx sy rx ry
    have X := one_co hd (id_x ax ay bx by' sx sy rx ry) hc hn (m := minW sx rx) (M := maxW sx rx) (m' := mnI ax bx) (M' := mxI ax bx) (by unfold minW; split <;> omega) (by unfold minW; split <;> omega) (by unfold maxW; split <;> omega) (by unfold maxW; split <;> omega) (by unfold mnI; split <;> omega) (by unfold mnI; split <;> omega) (by unfold mxI; split <;> omega) (by unfold mxI; split <;> omega)
    have Y := one_co hd (id_y ax ay bx by' sx sy rx ry) hc hn (m := minW sy ry) (M := maxW sy ry) (m' := mnI ay by') (M' := mxI ay by') (by unfold minW; split <;> omega) (by unfold minW; split <;> omega) (by unfold maxW; split <;> omega) (by unfold maxW; split <;> omega) (by unfold mnI; split <;> omega) (by unfold mnI; split <;> omega) (by unfold mxI; split <;> omega) (by unfold mxI; split <;> omega)
    unfold outR at ho
    simp only [Bool.or_eq_true, decide_eq_true_eq] at ho
    omega
 unfold depP cutP
 rw [hm]; rfl
theorem dep_range {nm : ByteArray} {ax ay bx by' h e sx sy sz rx ry rz : Int} (hz : errZ nm ax ay bx by' h e sx sy sz rx ry rz = 0) : 0 ≤ depP ax ay bx by' h sx sy sz rx ry rz ∧ depP ax ay bx by' h sx sy sz rx ry rz ≤ 1000 := by
 have S := errZ_small hz
 unfold depP
 cases hc : cutP ax ay bx by' h sx sy sz rx ry rz with
 | false => simp
 | true =>
   simp only [cond_true]
   have hc' := hc
   unfold cutP at hc'
   rw [Bool.and_eq_true, decide_eq_true_eq] at hc'
   obtain ⟨p1, p2, _⟩ := side_bound S.a1 S.a2 S.b1 S.b2 S.s1 S.s2
   obtain ⟨q1, q2, _⟩ := side_bound S.a1 S.a2 S.b1 S.b2 S.r1 S.r2
   obtain ⟨d, n, _, _⟩ := numden (p := sideZ ax ay bx by' sx sy 1) (q := sideZ ax ay bx by' rx ry 1) (h := h) (sz := sz) (tz := rz) ⟨p1, p2⟩ ⟨q1, q2⟩ S.hh S.s3 S.r3
   obtain ⟨_, a1, _⟩ := absZ_small (n := sideZ ax ay bx by' sx sy 1) ⟨p1, p2⟩
   obtain ⟨_, b1, _⟩ := absZ_small (n := sideZ ax ay bx by' rx ry 1) ⟨q1, q2⟩
   have hn : numP ax ay bx by' h sx sy sz rx ry rz ≤ h * denP ax ay bx by' sx sy rx ry := by
    unfold numP denP
    rw [n, d]
    have := Int.mul_nonneg b1 S.s3.1
    have := Int.mul_nonneg a1 S.r3.1
    omega
   have hq := quoG_iff.1 (cut_facts hz hc'.1)
   have hd := hq.2.1
   have hcl : ceilZ (numP ax ay bx by' h sx sy sz rx ry rz) (denP ax ay bx by' sx sy rx ry) ≤ h := by
    unfold ceilZ
    have : -h ≤ (-numP ax ay bx by' h sx sy sz rx ry rz) / denP ax ay bx by' sx sy rx ry := Int.le_ediv_of_mul_le hd (by rw [Int.neg_mul]; omega)
    omega
   have hh := S.hh
   unfold maxI minI
   generalize ceilZ (numP ax ay bx by' h sx sy sz rx ry rz) (denP ax ay bx by' sx sy rx ry) = c at *
   generalize cornerL ax ay sx sy sz rx ry rz = u
   generalize cornerL bx by' sx sy sz rx ry rz = v
   by_cases k1 : u < c <;> by_cases k2 : v < u <;> by_cases k3 : v < c <;> simp only [*, if_true, if_false] <;> (constructor <;> (repeat' split) <;> omega)
theorem cut_dep {ax ay bx by' h sx sy sz rx ry rz : Int} (hc : cutP ax ay bx by' h sx sy sz rx ry rz = true) : 1 ≤ depP ax ay bx by' h sx sy sz rx ry rz := by
 unfold depP maxI
 rw [hc]
 simp only [cond_true]
 split <;> omega
theorem cut_low {ax ay bx by' h sx sy sz rx ry rz : Int} (S : Small ax ay bx by' h sx sy sz rx ry rz) (h1 : 0 < sP ax ay bx by' sx sy) (h2 : sP ax ay bx by' rx ry < 0) (h3 : sP sx sy rx ry ax ay ≤ 0) (h4 : 0 ≤ sP sx sy rx ry bx by')
  (hs : sz < h) (hr : rz < h) : cutP ax ay bx by' h sx sy sz rx ry rz = true := by
 unfold cutP
 rw [Bool.and_eq_true, decide_eq_true_eq]
 refine ⟨by rw [meetP_sP S]; exact meet_of h1 h2 h3 h4, ?_⟩
 obtain ⟨p1, p2, p3⟩ := side_bound S.a1 S.a2 S.b1 S.b2 S.s1 S.s2
 obtain ⟨q1, q2, q3⟩ := side_bound S.a1 S.a2 S.b1 S.b2 S.r1 S.r2
 obtain ⟨d, n, _, _⟩ := numden (p := sideZ ax ay bx by' sx sy 1) (q := sideZ ax ay bx by' rx ry 1) (h := h) (sz := sz) (tz := rz) ⟨p1, p2⟩ ⟨q1, q2⟩ S.hh S.s3 S.r3
 obtain ⟨e1, _, _⟩ := absZ_small (n := sideZ ax ay bx by' sx sy 1) ⟨p1, p2⟩
 obtain ⟨e2, _, _⟩ := absZ_small (n := sideZ ax ay bx by' rx ry 1) ⟨q1, q2⟩
 have k1 : 0 < sideZ ax ay bx by' sx sy 1 := by rw [p3]; exact h1
 have k2 : sideZ ax ay bx by' rx ry 1 < 0 := by rw [q3]; exact h2
 unfold numP
 rw [n]
 have g1 : 0 < absZ (sideZ ax ay bx by' sx sy 1) := by omega
 have g2 : 0 < absZ (sideZ ax ay bx by' rx ry 1) := by omega
 generalize absZ (sideZ ax ay bx by' sx sy 1) = P at *
 generalize absZ (sideZ ax ay bx by' rx ry 1) = Q at *
 have m1 := Int.mul_pos g1 (by omega : 0 < h - rz)
 have m2 := Int.mul_pos g2 (by omega : 0 < h - sz)
 have e : h * (P + Q) - Q * sz - P * rz = P * (h - rz) + Q * (h - sz) := by grind
 omega
end Go.Proofs.YtmlglimahbjgbaaGreatDoor
namespace Go.Proofs.YtmlglimahbjgbaaGreatDoor
open Go Go.Am Go.Town
set_option maxRecDepth 100000
theorem facF_nil (l : List (Tup intK)) : ∀ (k i : Nat) (a : List (Tup intK)), ((((List.range' i k).foldl (fun out j => bif decide (i1 (nth l j) < 0) then out ++ [t1 j] else out) a).length : Int) == 0) = ((a.length : Int) == 0 && !(List.range' i k).any fun j => decide (i1 (nth l j) < 0))
 | 0, i, a => by simp
 | k + 1, i, a => by
   rw [List.range'_succ, List.foldl_cons, List.any_cons, facF_nil l k (i + 1)]
   cases hd : decide (i1 (nth l i) < 0) with
   | false => simp
   | true =>
     have : ((((a ++ [t1 i]).length : Nat) : Int) == 0) = false := by
      rw [List.length_append, List.length_singleton, beq_eq_false_iff_ne]
      omega
     simp only [cond_true, this, Bool.false_and, Bool.true_or, Bool.not_true, Bool.and_false]
theorem facL_nil (l : List (Tup intK)) : (((facL l).length : Int) == 0) = !negL l := by
 unfold facL negL
 rw [facF_nil]
 simp
theorem okS_small {b : Bd} (h : okS b = true) : smallB b = true := by
 unfold okS at h
 unfold smallB
 simp only [Bool.and_eq_true, decide_eq_true_eq, Nat.ble_eq] at h ⊢
 omega
abbrev in3 (n : Int) : Prop := -1000 ≤ n ∧ n ≤ 1000
abbrev zlt (a b : Int) : Prop := a < b
structure Val (b : Bd) : Prop where
 name : isName b.nm = true
 short : b.nm.size ≤ 22
 three : 3 ≤ b.cs.length
 eight : b.cs.length ≤ 8
 pts : ∀ j, j < b.cs.length → in3 (nth b.cs j).1 ∧ in3 (nth b.cs j).2.1
 turn : ∀ i k, i < b.cs.length → k < b.cs.length → k ≠ i → k ≠ (i + 1) % b.cs.length → 0 < sdW (edgeT b i) (nth b.cs k)
 hh : 1 ≤ b.h ∧ b.h ≤ 1000
 ee : 0 ≤ b.e ∧ b.e ≤ 1000
theorem point_of {x y : Int} (h : chkPoint x y = 0) : (-1000 ≤ x ∧ x ≤ 1000) ∧ (-1000 ≤ y ∧ y ≤ 1000) := by
 unfold chkPoint at h
 rw [firstZ_nil] at h
 exact ⟨withinZ_nil.1 (h _ (by simp)), withinZ_nil.1 (h _ (by simp))⟩
theorem point_to {x y : Int} (h1 : -1000 ≤ x ∧ x ≤ 1000) (h2 : -1000 ≤ y ∧ y ≤ 1000) : chkPoint x y = 0 := by
 unfold chkPoint
 rw [firstZ_nil]
 intro e he
 simp only [List.mem_cons, List.not_mem_nil, or_false] at he
 rcases he with rfl | rfl
 ·exact withinZ_nil.2 h1
 ·exact withinZ_nil.2 h2
theorem when_nil {b : Bool} {n : Int} (hn : n ≠ 0) (h : whenZ b n = 0) : b = false := by
 cases b with
 | false => rfl
 | true => exact absurd h hn
theorem nthp_mem {l : List (Tup ptK)} {j : Nat} (h : j < l.length) : nth l j ∈ l := by
 simp [nth, List.getD_eq_getElem?_getD, h]
theorem val_of {b : Bd} (h : chkB b = 0) : Val b := by
 unfold chkB at h
 cases he : (e1B b != 0) with
 | true =>
   rw [he] at h
   simp only [cond_true] at h
   rw [h] at he; cases he
 | false =>
   rw [he] at h
   simp only [cond_false] at h
   have hz : e1B b = 0 := by simpa using he
   unfold e1B at hz
   unfold e2B at h
   rw [firstZ_nil] at hz h
   have h1 := when_nil (by decide) (hz (whenZ (!isName b.nm || decide ((b.nm.size : Int) > 22)) 8) (by simp))
   have h2 := when_nil (by decide) (hz (whenZ (decide ((b.cs.length : Int) < 3)) 16) (by simp))
   have h3 := when_nil (by decide) (hz (whenZ (decide ((b.cs.length : Int) > 8)) 5) (by simp))
   have h4 := h (firstZ ((b.cs.map cPt).map i1)) (by simp)
   have h5 := when_nil (by decide) (h (whenZ (!turnsB b) 2) (by simp))
   rw [Bool.or_eq_false_iff, decide_eq_false_iff_not] at h1
   rw [decide_eq_false_iff_not] at h2 h3
   rw [firstZ_nil] at h4
   refine ⟨by simpa using h1.1, by omega, by omega, by omega, fun j hj => ?_, fun i k hi hk h6 h7 => ?_, withinZ_nil.1 (h _ (by simp)), withinZ_nil.1 (h _ (by simp))⟩
   ·exact point_of (h4 _ (List.mem_map.2 ⟨cPt (nth b.cs j), List.mem_map.2 ⟨_, nthp_mem hj, rfl⟩, rfl⟩))
   ·have ht : turnsB b = true := by simpa using h5
    unfold turnsB at ht
    simp only [Bool.not_eq_true', List.any_eq_false, List.mem_range'_1, Nat.zero_le, true_and, Nat.zero_add] at ht
    have hb := ht i hi
    unfold badE at hb
    simp only [List.any_eq_true, List.mem_range'_1, Nat.zero_le, true_and, Nat.zero_add, not_exists, not_and] at hb
    have := hb k hk
    unfold badT at this
    simp only [Bool.and_eq_true, bne_iff_ne, ne_eq, decide_eq_true_eq, not_and] at this
    have := this h6 h7
    omega
def cX (b : Bd) (j : Nat) : Int := (nth b.cs j).1
def cY (b : Bd) (j : Nat) : Int := (nth b.cs j).2.1
def nx (b : Bd) (j : Nat) : Nat := (j + 1) % b.cs.length
theorem nx_lt {b : Bd} (V : Val b) (j : Nat) : nx b j < b.cs.length := Nat.mod_lt _ (by have := V.three; omega)
theorem side_edge {b : Bd} (V : Val b) {j : Nat} (hj : j < b.cs.length) {q : Tup ptK} (h1 : in3 q.1) (h2 : in3 q.2.1) :
  sdW (edgeT b j) q = sP (cX b j) (cY b j) (cX b (nx b j)) (cY b (nx b j)) q.1 q.2.1 :=
 (side_bound (V.pts j hj).1 (V.pts j hj).2 (V.pts _ (nx_lt V j)).1 (V.pts _ (nx_lt V j)).2 h1 h2).2.2
theorem neg_iff {b : Bd} {q : Tup ptK} : negL (sidesB b q) = true ↔ ∃ j, j < b.cs.length ∧ sdW (edgeT b j) q < 0 := by
 unfold negL
 rw [sides_len, List.any_eq_true]
 constructor
 ·intro ⟨j, hj, h⟩
  rw [List.mem_range'_1] at hj
  rw [sides_nth (by omega), decide_eq_true_eq] at h
  exact ⟨j, by omega, h⟩
 ·intro ⟨j, hj, h⟩
  exact ⟨j, by rw [List.mem_range'_1]; omega, by rw [sides_nth hj, decide_eq_true_eq]; exact h⟩
theorem corner_in {b : Bd} (V : Val b) : negL (sidesB b (cn0 b)) = false := by
 apply Bool.eq_false_iff.2
 intro h
 obtain ⟨j, hj, hs⟩ := neg_iff.1 h
 have h3 := V.three
 have hp := V.pts 0 (by omega)
 by_cases k1 : (0 : Nat) = j
 ·subst k1
  have hs : sdW (edgeT b 0) (nth b.cs 0) < 0 := hs
  rw [side_edge V (by omega) hp.1 hp.2] at hs
  have : sP (cX b 0) (cY b 0) (cX b (nx b 0)) (cY b (nx b 0)) (cX b 0) (cY b 0) = 0 := by unfold sP; grind
  have hs' : sP (cX b 0) (cY b 0) (cX b (nx b 0)) (cY b (nx b 0)) (cX b 0) (cY b 0) < 0 := hs
  omega
 ·by_cases k2 : (0 : Nat) = (j + 1) % b.cs.length
  ·have hs : sdW (edgeT b j) (nth b.cs 0) < 0 := hs
   rw [side_edge V (by omega) hp.1 hp.2] at hs
   have e : nx b j = 0 := k2.symm
   rw [e] at hs
   have : sP (cX b j) (cY b j) (cX b 0) (cY b 0) (cX b 0) (cY b 0) = 0 := by unfold sP; grind
   have hs' : sP (cX b j) (cY b j) (cX b 0) (cY b 0) (cX b 0) (cY b 0) < 0 := hs
   omega
  ·have := V.turn j 0 hj (by omega) k1 k2
   have hs' : sdW (edgeT b j) (nth b.cs 0) < 0 := hs
   omega
theorem exit_edge {b : Bd} (V : Val b) {s r : Tup v3K} (hs : pChk s = 0) (hr : pChk r = 0) (h1 : ∀ j, j < b.cs.length → 0 < sdW (edgeT b j) (pln s)) (h2 : ∃ j, j < b.cs.length ∧ sdW (edgeT b j) (pln r) < 0)
  (hS : zlt s.2.2.1 b.h) (hR : zlt r.2.2.1 b.h) : ∃ i, i < b.cs.length ∧ 1 ≤ wDep (edgeT b i) s r := by
 unfold pChk chkSpot at hs hr
 rw [firstZ_nil] at hs hr
 have s1 := withinZ_nil.1 (hs (withinZ s.1 (-1000) 1000) (by simp))
 have s2 := withinZ_nil.1 (hs (withinZ s.2.1 (-1000) 1000) (by simp))
 have s3 := withinZ_nil.1 (hs (withinZ s.2.2.1 0 1000) (by simp))
 have r1 := withinZ_nil.1 (hr (withinZ r.1 (-1000) 1000) (by simp))
 have r2 := withinZ_nil.1 (hr (withinZ r.2.1 (-1000) 1000) (by simp))
 have r3 := withinZ_nil.1 (hr (withinZ r.2.2.1 0 1000) (by simp))
 have eS := fun j (hj : j < b.cs.length) => side_edge V hj (q := pln s) s1 s2
 have eR := fun j (hj : j < b.cs.length) => side_edge V hj (q := pln r) r1 r2
 obtain ⟨i, hi, hRi, hmin⟩ := least_quot (fun j => sdW (edgeT b j) (pln s)) (fun j => sdW (edgeT b j) (pln r)) b.cs.length h1 h2
 have h3 := V.three
 have hni := nx_lt V i
 -- the neighbour before
 obtain ⟨j, hj, hjn⟩ : ∃ j, j < b.cs.length ∧ nx b j = i := by
  by_cases h0 : i = 0
  ·refine ⟨b.cs.length - 1, by omega, ?_⟩
   unfold nx
   rw [show b.cs.length - 1 + 1 = b.cs.length by omega, Nat.mod_self, h0]
  ·refine ⟨i - 1, by omega, ?_⟩
   unfold nx
   rw [show i - 1 + 1 = i by omega, Nat.mod_eq_of_lt hi]
 have hne1 : nx b i ≠ j := by
  intro he
  have a1 : (i + 1) % b.cs.length = j := he
  have a2 : (j + 1) % b.cs.length = i := hjn
  by_cases c1 : i + 1 = b.cs.length
  ·rw [c1, Nat.mod_self] at a1
   subst a1
   rw [Nat.mod_eq_of_lt (by omega)] at a2
   omega
  ·rw [Nat.mod_eq_of_lt (by omega)] at a1
   by_cases c2 : j + 1 = b.cs.length
   ·rw [c2, Nat.mod_self] at a2
    omega
   ·rw [Nat.mod_eq_of_lt (by omega)] at a2
    omega
 have hne2 : nx b i ≠ i := by
  intro he
  have a1 : (i + 1) % b.cs.length = i := he
  by_cases c1 : i + 1 = b.cs.length
  ·rw [c1, Nat.mod_self] at a1; omega
  ·rw [Nat.mod_eq_of_lt (by omega)] at a1; omega
 have T1 := V.turn j (nx b i) hj hni hne1 (by show nx b i ≠ nx b j; rw [hjn]; exact hne2)
 have hkk : i ≠ nx b (nx b i) := by
  intro he
  have a1 : (i + 1) % b.cs.length = nx b i := rfl
  have a2 : (nx b i + 1) % b.cs.length = i := he.symm
  by_cases c1 : i + 1 = b.cs.length
  ·rw [c1, Nat.mod_self] at a1
   rw [← a1, Nat.mod_eq_of_lt (by omega)] at a2
   omega
  ·rw [Nat.mod_eq_of_lt (by omega)] at a1
   by_cases c2 : nx b i + 1 = b.cs.length
   ·rw [c2, Nat.mod_self] at a2; omega
   ·rw [Nat.mod_eq_of_lt (by omega)] at a2; omega
 have T2 := V.turn (nx b i) i hni hi hne2.symm hkk
 rw [side_edge V hj (V.pts _ hni).1 (V.pts _ hni).2, hjn] at T1
 rw [side_edge V hni (V.pts _ hi).1 (V.pts _ hi).2] at T2
 have N1 := neg_end (h1 i hi) hRi (h1 j hj) (fun h => hmin j hj h)
 have N2 := neg_end (h1 i hi) hRi (h1 _ hni) (fun h => hmin _ hni h)
 have g1 := h1 i hi
 rw [eS i hi] at g1 N1 N2
 rw [eR i hi] at hRi N1 N2
 rw [eS j hj, eR j hj, hjn] at N1
 rw [eS _ hni, eR _ hni] at N2
 have A := sign_prev N1 (id_prev (cX b j) (cY b j) (cX b i) (cY b i) (cX b (nx b i)) (cY b (nx b i)) s.1 s.2.1 r.1 r.2.1) T1
 have B := sign_next N2 (id_next (cX b i) (cY b i) (cX b (nx b i)) (cY b (nx b i)) (cX b (nx b (nx b i))) (cY b (nx b (nx b i))) s.1 s.2.1 r.1 r.2.1) T2
 refine ⟨i, hi, cut_dep (cut_low (h := b.h) ⟨(V.pts i hi).1, (V.pts i hi).2, (V.pts _ hni).1, (V.pts _ hni).2, V.hh, s1, s2, s3, r1, r2, r3⟩ g1 hRi A B hS hR)⟩
end Go.Proofs.YtmlglimahbjgbaaGreatDoor
namespace Go.Proofs.YtmlglimahbjgbaaGreatDoor
open Go Go.Am Go.Town
set_option maxRecDepth 100000
theorem get_l {a c : ByteArray} {k : Nat} (h : k < a.size) : (a ++ c).get! k = a.get! k := by
 show (a ++ c).data[k]! = a.data[k]!
 rw [ByteArray.data_append, getElem!_def, getElem!_def, Array.getElem?_append_left h]
theorem get_r {a c : ByteArray} (k : Nat) : (a ++ c).get! (a.size + k) = c.get! k := by
 show (a ++ c).data[a.size + k]! = c.data[k]!
 rw [ByteArray.data_append, getElem!_def, getElem!_def, Array.getElem?_append_right (by show a.data.size ≤ _; exact Nat.le_add_right ..)]
 congr 2
 show a.size + k - a.size = k
 omega
theorem txt_j {j : Nat} (h : j < 8) : ∃ c : UInt8, txt j = ⟨#[c]⟩ ∧ otherN c.toNat = true ∧ c = UInt8.ofNat (48 + j) := by
 match j, h with
 | 0, _ => exact ⟨48, by rfl, by rfl, by rfl⟩
 | 1, _ => exact ⟨49, by rfl, by rfl, by rfl⟩
 | 2, _ => exact ⟨50, by rfl, by rfl, by rfl⟩
 | 3, _ => exact ⟨51, by rfl, by rfl, by rfl⟩
 | 4, _ => exact ⟨52, by rfl, by rfl, by rfl⟩
 | 5, _ => exact ⟨53, by rfl, by rfl, by rfl⟩
 | 6, _ => exact ⟨54, by rfl, by rfl, by rfl⟩
 | 7, _ => exact ⟨55, by rfl, by rfl, by rfl⟩
theorem nameFrom_iff {s : ByteArray} : ∀ (f i : Nat), nameFrom s f i = true ↔ ∀ k, i ≤ k → k < i + f → okAt s k = true
 | 0, i => by simp [nameFrom]; intro k h1 h2; omega
 | f + 1, i => by
   unfold nameFrom
   rw [Bool.and_eq_true, nameFrom_iff f (i + 1)]
   constructor
   ·intro ⟨h1, h2⟩ k k1 k2
    by_cases h : k = i
    ·subst h; exact h1
    ·exact h2 k (by omega) (by omega)
   ·intro h
    exact ⟨h i (by omega) (by omega), fun k k1 k2 => h k (by omega) (by omega)⟩
theorem name_edge {nm : ByteArray} (h : isName nm = true) (h22 : nm.size ≤ 22) {c : UInt8} (hc : otherN c.toNat = true) : isName (nm ++ us ++ ⟨#[c]⟩) = true := by
 unfold isName at h ⊢
 simp only [Bool.and_eq_true, decide_eq_true_eq] at h ⊢
 obtain ⟨⟨h0, _⟩, hn⟩ := h
 have e1 : us.size = 1 := rfl
 have e2 : (nm ++ us).size = nm.size + 1 := by rw [ByteArray.size_append, e1]
 have e3 : (nm ++ us ++ (⟨#[c]⟩ : ByteArray)).size = nm.size + 2 := by rw [ByteArray.size_append, e2]; rfl
 rw [nameFrom_iff] at hn
 refine ⟨⟨by omega, by omega⟩, (nameFrom_iff _ _).2 fun k _ hk => ?_⟩
 rw [e3, Nat.zero_add] at hk
 unfold okAt
 by_cases k1 : k < nm.size
 ·rw [get_l (by omega), get_l k1]
  exact hn k (by omega) (by omega)
 ·by_cases k2 : k = nm.size
  ·subst k2
   have g : (nm ++ us).get! nm.size = 95 := get_r (a := nm) (c := us) 0
   rw [get_l (by omega), g]
   have : decide (nm.size ≠ 0) = true := by simpa using h0
   rw [this]; rfl
  ·have : k = (nm ++ us).size + 0 := by omega
   rw [this, get_r]
   have g : (⟨#[c]⟩ : ByteArray).get! 0 = c := rfl
   rw [g, hc]
   have : decide ((nm ++ us).size + 0 ≠ 0) = true := by rw [decide_eq_true_eq]; omega
   rw [this]
   simp
theorem edge_chk {b : Bd} (V : Val b) {j : Nat} (hj : j < b.cs.length) : wChk (edgeT b j) = 0 := by
 have h8 := V.eight
 have h3 := V.three
 obtain ⟨c, hc, ho, _⟩ := txt_j (j := j) (by omega)
 have hp := V.pts j hj
 have hq := V.pts _ (nx_lt V j)
 show chkWall (b.nm ++ us ++ txt j) (cX b j) (cY b j) (cX b (nx b j)) (cY b (nx b j)) b.h b.e = 0
 unfold chkWall
 rw [firstZ_nil]
 intro e he
 simp only [List.mem_cons, List.not_mem_nil, or_false] at he
 rcases he with rfl | rfl | rfl | rfl | rfl | rfl | rfl | rfl
 ·rw [hc, name_edge V.name V.short ho]; rfl
 ·exact withinZ_nil.2 hp.1
 ·exact withinZ_nil.2 hp.2
 ·exact withinZ_nil.2 hq.1
 ·exact withinZ_nil.2 hq.2
 ·-- two corners are not the same
  obtain ⟨k, hk, hkj, hkn⟩ : ∃ k, k < b.cs.length ∧ k ≠ j ∧ k ≠ nx b j := by
   by_cases a1 : (0 : Nat) ≠ j ∧ 0 ≠ nx b j
   ·exact ⟨0, by omega, a1.1, a1.2⟩
   ·by_cases a2 : (1 : Nat) ≠ j ∧ 1 ≠ nx b j
    ·exact ⟨1, by omega, a2.1, a2.2⟩
    ·exact ⟨2, by omega, by omega, by omega⟩
  have T := V.turn j k hj hk hkj hkn
  rw [side_edge V hj (V.pts k hk).1 (V.pts k hk).2] at T
  cases hx : (cX b j == cX b (nx b j)) with
  | false => rfl
  | true =>
    cases hy : (cY b j == cY b (nx b j)) with
    | false => rfl
    | true =>
      rw [beq_iff_eq] at hx hy
      rw [hx, hy] at T
      unfold sP at T
      rw [Int.sub_self, Int.sub_self, Int.zero_mul, Int.zero_mul] at T
      exact absurd T (by decide)
 ·exact withinZ_nil.2 V.hh
 ·exact withinZ_nil.2 V.ee
theorem app_inj {nm : ByteArray} {c d : UInt8} (h : nm ++ us ++ (⟨#[c]⟩ : ByteArray) = nm ++ us ++ ⟨#[d]⟩) : c = d := by
 have h1 : (nm ++ us ++ (⟨#[c]⟩ : ByteArray)).get! ((nm ++ us).size + 0) = c := get_r 0
 have h2 : (nm ++ us ++ (⟨#[d]⟩ : ByteArray)).get! ((nm ++ us).size + 0) = d := get_r 0
 rw [← h1, ← h2, h]
theorem ba_eq {a b : ByteArray} (h : (a == b) = true) : a = b := by
 cases a; cases b
 exact congrArg _ (eq_of_beq h)
theorem edges_chk {b : Bd} (V : Val b) : chkAllW (edges b) = 0 := by
 have h8 := V.eight
 rw [chkAll_iff]
 refine ⟨by rw [edges_len]; omega, fun w hw => ?_, ?_⟩
 ·unfold edges at hw
  obtain ⟨j, hj, rfl⟩ := List.mem_map.1 hw
  rw [List.mem_range'_1] at hj
  exact edge_chk V (by omega)
 ·unfold edges
  rw [List.pairwise_map]
  refine List.Pairwise.imp_of_mem (fun {i j} hi hj hij => ?_) (List.pairwise_lt_range' (s := 0) (n := b.cs.length))
  rw [List.mem_range'_1] at hi hj
  apply Bool.eq_false_iff.2
  intro he
  replace he := ba_eq he
  obtain ⟨c, hc, _, ec⟩ := txt_j (j := i) (by omega)
  obtain ⟨d, hd, _, ed⟩ := txt_j (j := j) (by omega)
  have he : b.nm ++ us ++ txt j = b.nm ++ us ++ txt i := he
  rw [hc, hd] at he
  have := app_inj he
  rw [ec, ed] at this
  have h1 : (UInt8.ofNat (48 + j)).toNat = (UInt8.ofNat (48 + i)).toNat := by rw [this]
  rw [UInt8.toNat_ofNat', UInt8.toNat_ofNat', Nat.mod_eq_of_lt (by omega), Nat.mod_eq_of_lt (by omega)] at h1
  omega
def dz (s r : Tup v3K) (w : Tup wallK) : Int := wDep w s r
theorem sum_plain {s r : Tup v3K} : ∀ (l : List (Tup wallK)) (e : Int), (∀ w ∈ l, 0 ≤ dz s r w ∧ dz s r w ≤ 1000) → 0 ≤ e → e + l.length * 1000 ≤ 1000000 → (l.map (depE s r)).foldl (fun b x => W (b + i1 x)) e = e + (l.map (dz s r)).sum
 | [], e, _, _, _ => by simp
 | w :: l, e, h, h0, h1 => by
   have hw := h w (by simp)
   rw [List.length_cons] at h1
   rw [List.map_cons, List.foldl_cons, List.map_cons, List.sum_cons]
   have e1 : W (e + i1 (depE s r w)) = e + dz s r w := W_in (n := e + dz s r w) (by omega) (by omega)
   rw [e1, sum_plain l (e + dz s r w) (fun v hv => h v (by simp [hv])) (by omega) (by omega)]
   omega
theorem sum_filter {s r : Tup v3K} {p : Tup wallK → Bool} : ∀ (l : List (Tup wallK)), (∀ w ∈ l, p w = false → dz s r w = 0) → ((l.filter p).map (dz s r)).sum = (l.map (dz s r)).sum
 | [], _ => rfl
 | w :: l, h => by
   have ih := sum_filter l fun v hv => h v (by simp [hv])
   rw [List.map_cons, List.sum_cons, List.filter_cons]
   cases hp : p w with
   | true => simp only [if_true]; rw [List.map_cons, List.sum_cons, ih]
   | false => simp only [Bool.false_eq_true, if_false]; rw [ih, h w (by simp) hp]; omega
theorem sum_some {s r : Tup v3K} : ∀ (l : List (Tup wallK)), (∀ w ∈ l, 0 ≤ dz s r w) → (∃ w ∈ l, 1 ≤ dz s r w) → 1 ≤ (l.map (dz s r)).sum
 | [], _, ⟨w, hw, _⟩ => by cases hw
 | w :: l, h, ⟨v, hv, hd⟩ => by
   rw [List.map_cons, List.sum_cons]
   have h1 := h w (by simp)
   rcases List.mem_cons.1 hv with rfl | hv
   ·have : 0 ≤ (l.map (dz s r)).sum := by
     clear hd
     induction l with
     | nil => simp
     | cons x l ih =>
       rw [List.map_cons, List.sum_cons]
       have := h x (by simp)
       have := ih (fun u hu => h u (by simp at hu ⊢; rcases hu with rfl | hu <;> simp [*])) (by simp)
       omega
    omega
   ·have := sum_some l (fun u hu => h u (by simp [hu])) ⟨v, hv, hd⟩
    omega
theorem deps_ok {l : List (Tup wallK)} {s r : Tup v3K} (hl : chkAllW l = 0) (hs : pChk s = 0) (hr : pChk r = 0) : e30 l s r = 0 ∧ sumT (deps l s r) = (l.map (dz s r)).sum ∧ ∀ w ∈ l, 0 ≤ dz s r w ∧ dz s r w ≤ 1000 := by
 have H := chkAll_iff.1 hl
 have he : ∀ w ∈ l, wErr w s r = 0 := fun w hw => by
  unfold wErr errZ
  rw [firstZ_nil]
  intro e he
  simp only [List.mem_cons, List.not_mem_nil, or_false] at he
  rcases he with rfl | rfl | rfl
  ·exact H.2.1 w hw
  ·exact hs
  ·exact hr
 have hd : ∀ w ∈ l, 0 ≤ dz s r w ∧ dz s r w ≤ 1000 := fun w hw => dep_range (he w hw)
 refine ⟨?_, ?_, hd⟩
 ·unfold e30
  rw [hl, hs, hr]; rfl
 ·have := sum_plain l 0 hd (by omega) (by have := H.1; omega)
  rw [Int.zero_add] at this
  exact this
end Go.Proofs.YtmlglimahbjgbaaGreatDoor
namespace Go.Proofs.YtmlglimahbjgbaaGreatDoor
open Go Go.Am Go.Town
set_option maxRecDepth 100000
variable {w0 : World}
structure PB (l : List (Tup wallK)) : Prop where
 par : parP (prtB l) = (l, 0, 0)
 sm : smS (prtB l) = true
 lines : (splC (cU 10) (prtB l)).length = l.length + 1
 last : l ≠ [] → (parP (ctS (prtB l))).2 = ((l.length : Int) - 1, 25)
 cut : l ≠ [] → cutG (prtB l) = true
theorem gT_t {b : Bool} {k : Rw12} (h : b = true) : gT b k = k := by rw [h]; rfl
theorem nT_f {b : Bool} {n k : Rw12} (h : b = false) : nT b n k = k := by rw [h]; rfl
theorem aT_t {b : Bool} {y n : Rw12} (h : b = true) : aT b y n = y := by rw [h]; rfl
theorem aT_f {b : Bool} {y n : Rw12} (h : b = false) : aT b y n = n := by rw [h]; rfl
theorem gB_t {b : Bool} {k : Ro12} (h : b = true) : gB b k = k := by rw [h]; rfl
theorem nB_f {b : Bool} {n k : Ro12} (h : b = false) : nB b n k = k := by rw [h]; rfl
theorem nz_f {a : Int} (h : a = 0) : (a != 0) = false := by rw [h]; rfl
theorem u37_ok {l : List (Tup wallK)} {n y : Rw12} (hc : chkAllW l = 0) (h5 : l.length ≤ 5) (P : PB l) : u37 l n y = y := by
 have hb : bl5 l = true := by unfold bl5; rw [Nat.ble_eq]; omega
 have hp : prS l = prtB l := by unfold prS; rw [hc]; rfl
 unfold u37
 rw [gT_t hb, nT_f (nz_f hc), hp, P.par]
 unfold u37a
 refine (nT_f rfl).trans ((nT_f rfl).trans ((gT_t hb).trans ((gT_t hb).trans ((nT_f (show (!sameWB l l) = false by rw [sameWB_self]; rfl)).trans ((gT_t P.sm).trans ?_)))))
 unfold u37b
 have hl : (((splC (cU 10) (prtB l)).length : Int) != IntKind.i64.wrap ((l.length : Int) + 1)) = false := by
  rw [P.lines, wrap_nat (by omega)]; simp
 rw [nT_f hl]
 cases l with
 | nil => exact (aT_t rfl).trans (aT_t (show (mtL.toList == mtL.toList) = true from beq_self_eq_true _))
 | cons w l =>
   have h0 : (((w :: l).length : Int) == 0) = false := by
    rw [beq_eq_false_iff_ne, List.length_cons]; omega
   have hL := P.last (by simp)
   refine (aT_f h0).trans ((gT_t (P.cut (by simp))).trans ?_)
   unfold u37c
   have e1 : (parP (ctS (prtB (w :: l)))).2.2 = 25 := by rw [hL]
   have e2 : (parP (ctS (prtB (w :: l)))).2.1 = ((w :: l).length : Int) - 1 := by rw [hL]
   rw [e1, e2]
   refine (aT_t rfl).trans (aT_t ?_)
   have : IntKind.i64.wrap (((w :: l).length : Int) - 1) = ((w :: l).length : Int) - 1 := W_in (by omega) (by omega)
   rw [this]; simp
theorem ld37_ok (h0 : Lib0 w0) (ha : Good w0 ⟨13, awakeF⟩) {l : List (Tup wallK)} (hc : chkAllW l = 0) (h5 : l.length ≤ 5) (P : PB l) : LdT ((cfg w0).at law12) (lw37 l) (sq12 200037) (sw37 l false) :=
 ldT_if (at_ok (cfg_ok w0) law12) (at_sp h0 (law12_gd h0 ha)) (.leaf (n := 60) (m := 60) (L := []) ((rnw37 l).trans (u37_ok hc h5 P)))
theorem Ub_of {b : Bd} (h : chkB b = 0) : Ub b = edges b := by unfold Ub orW; rw [h]; rfl
theorem eqw2_t {a b c d : Int} (h1 : a = b) (h2 : c = d) : (!eqw2 a b c d) = false := by subst h1 h2; simp [eqw2]
theorem u0_ok {b : Bd} (V : Val b) {j : Nat} (hj : j < b.cs.length) {n y : Rw12} : u0 b (edges b) (j + 0) (nx0 (edges b) (j : Int)) n y = y := by
 have el := edges_len b
 have e1 : nx0 (edges b) (j : Int) = ((nx b j : Nat) : Int) := by unfold nx0; rw [wrap_nat (by have := V.eight; omega), tmod_n, el]; rfl
 have hn := nx_lt V j
 unfold u0
 rw [e1, Nat.add_zero, edges_nth hj, Int.toNat_natCast, Nat.add_zero, edges_nth hn]
 have hz : decide (((edges b).length : Int) = 0) = false := by
  rw [decide_eq_false_iff_not, el]; omega
 refine (nT_f (eqw2_t rfl rfl)).trans ((cond_f hz).trans ((gT_t (by rw [← el] at hn; exact inb 7 hn)).trans ((nT_f (eqw2_t rfl rfl)).trans ((nT_f (show new b.h b.h = false by simp [new])).trans (nT_f (show new b.e b.e = false by simp [new]))))))
theorem ld0_ok (h0 : Lib0 w0) (ha : Good w0 ⟨13, awakeF⟩) {l : List (Tup wallK)} {b : Bd} {p : Tup ptK} {x : Tup bxK} {s r : Tup v3K} (hb : chkB b = 0) :
  LdT ((cfg w0).at law12) (lw0 l b p x s r) (.loop (lpB 0 (fnOf Tryz.f12).body)) (sw0 l b p x s r (Ub b) false 0) := by
 have V := val_of hb
 have el := edges_len b
 have h8 := V.eight
 unfold lw0
 rw [Ub_of hb]
 have key := ldT_ls (at_ok (cfg_ok w0) law12) (at_sp h0 (law12_gd h0 ha)) (N := (fnOf Tryz.f12).ntmps) (rel := rw0) (B := lpB 0 (fnOf Tryz.f12).body) (id := 0) (edges b) (by omega) (fun a : Int × Unit => sw0 l b p x s r (edges b) false a.1)
  (fun _ a => (X.normal, a)) (fun _ _ => True)
  (fun j a hj _ => .leaf (by
   refine (rnw0 l b p x s r (edges b) (j : Int)).trans ((cond_t (lt_t hj)).trans ((gT_t (inb 7 hj)).trans ((gT_t (inb 2 (by omega))).trans ((u0_ok V (by omega)).trans ?_))))
   rfl)) (fun _ _ _ _ _ _ => trivial)
  (fun a _ => .leaf (by rw [rnw0, ge_f]; rfl)) (a0 := ()) trivial (x := .exit 0) (p := (((0 + (edges b).length : Nat) : Int), ())) (by
   rw [lsRun_fold (h := fun _ b => b) 0 (edges b) 0 () (fun _ _ _ => rfl)])
 rw [Nat.zero_add] at key
 exact key
noncomputable def plS (b : Bd) (s r : Tup v3K) (j : Nat) (pl : Bool) : Bool := bif pl then bif sg2 b j s then sg2 b j r else false else false
noncomputable def plF (b : Bd) (s r : Tup v3K) : Bool := (List.range' 0 b.cs.length).foldl (fun pl j => plS b s r j pl) true
theorem pl_all {b : Bd} {s r : Tup v3K} : ∀ (js : List Nat) (pl : Bool), js.foldl (fun pl j => plS b s r j pl) pl = true → pl = true ∧ ∀ j ∈ js, sg2 b j s = true ∧ sg2 b j r = true
 | [], pl, h => ⟨h, by simp⟩
 | j :: js, pl, h => by
   rw [List.foldl_cons] at h
   obtain ⟨h1, h2⟩ := pl_all js _ h
   unfold plS at h1
   cases pl with
   | false => cases h1
   | true =>
     cases hs : sg2 b j s with
     | false => rw [hs] at h1; cases h1
     | true =>
       rw [hs] at h1
       refine ⟨rfl, fun k hk => ?_⟩
       rcases List.mem_cons.1 hk with rfl | hk
       ·exact ⟨hs, h1⟩
       ·exact h2 k hk
theorem ld2_ok (h0 : Lib0 w0) (ha : Good w0 ⟨13, awakeF⟩) {l : List (Tup wallK)} {b : Bd} {p : Tup ptK} {x : Tup bxK} {s r : Tup v3K} (hb : chkB b = 0) (hs : smallB b = true) :
  LdT ((cfg w0).at law12) (lw2 l b p x s r (plF b s r)) (.loop (lpB 2 (fnOf Tryz.f12).body)) (sw2 l b p x s r (Ub b) (inb12 b (pln s)) (inb12 b (pln r)) (0, true)) := by
 have V := val_of hb
 have el := edges_len b
 have h8 := V.eight
 unfold lw2
 rw [Ub_of hb]
 have key := ldT_rg (at_ok (cfg_ok w0) law12) (at_sp h0 (law12_gd h0 ha)) (N := (fnOf Tryz.f12).ntmps) (rel := rw2) (B := lpB 2 (fnOf Tryz.f12).body) (id := 2) (k := (edges b).length) (by omega) (sw2 l b p x s r (edges b) (inb12 b (pln s)) (inb12 b (pln r)))
  (fun j pl => (X.normal, plS b s r j pl)) (fun _ _ => True)
  (fun j a hj _ => .leaf (by
   have hi : in2 b (j : Int) = true := by unfold in2; rw [hs, inC_nat (by omega)]; rfl
   refine (rnw2 l b p x s r (edges b) _ _ (j : Int) a).trans ((cond_t (lt_t hj)).trans ((gT_t hi).trans ?_))
   rw [Int.toNat_natCast]
   unfold plS
   cases a with
   | false => rfl
   | true => cases sg2 b j s <;> rfl)) (fun _ _ _ _ _ _ => trivial)
  (fun a _ => .leaf (by rw [rnw2, ge_f]; rfl)) (a0 := true) trivial (x := .exit 2) (p := (((0 + (edges b).length : Nat) : Int), (List.range' 0 (edges b).length).foldl (fun pl j => plS b s r j pl) true)) (by
   rw [rgRun_fold (h := fun j pl => plS b s r j pl) 2 (edges b).length 0 true (fun _ _ _ _ => rfl)])
 rw [Nat.zero_add] at key
 unfold plF
 rw [el] at key ⊢
 exact key
theorem err_bp {b : Bd} {q : Tup ptK} (hb : chkB b = 0) (hq : chkPoint q.1 q.2.1 = 0) : errBP b q = 0 := by unfold errBP; rw [hb, hq]; rfl
theorem in_of {b : Bd} {q : Tup ptK} (h : errBP b q = 0) : inb12 b q = !negL (sidesB b q) := by unfold inb12 orB; rw [h]; rfl
theorem ltw_z {a b : Int} (h : ltw a b = true) : zlt a b := of_decide_eq_true h
theorem u33_ok {b : Bd} {s r : Tup v3K} {n y : Rw12} (hb : chkB b = 0) (hs : pChk s = 0) (hr : pChk r = 0) (ks : chkPoint (pln s).1 (pln s).2.1 = 0) (kr : chkPoint (pln r).1 (pln r).2.1 = 0) :
  u33 b s r (Ub b) (inb12 b (pln s)) (inb12 b (pln r)) (plF b s r) n y = y := by
 have V := val_of hb
 have el := edges_len b
 have h8 := V.eight
 unfold u33
 cases hp : plF b s r with
 | false => rfl
 | true =>
   rw [aT_t rfl, in_of (err_bp hb ks), in_of (err_bp hb kr)]
   cases hi : negL (sidesB b (pln s)) with
   | true => rfl
   | false =>
     refine (aT_t rfl).trans ?_
     cases ho : negL (sidesB b (pln r)) with
     | false => rfl
     | true =>
       refine (aT_t rfl).trans ?_
       cases hS : ltw s.2.2.1 b.h with
       | false => rfl
       | true =>
         rw [aT_t rfl]
         cases hR : ltw r.2.2.1 b.h with
         | false => rfl
         | true =>
           rw [aT_t rfl, Ub_of hb]
           have hrm : rmU (edges b) = true := by
            unfold rmU
            rw [List.nil_append, Bool.and_eq_true, Nat.ble_eq, Nat.ble_eq]
            omega
           obtain ⟨d1, d2, d3⟩ := deps_ok (edges_chk V) hs hr
           obtain ⟨_, hpl⟩ := pl_all _ _ hp
           have hin : ∀ j, j < b.cs.length → 0 < sdW (edgeT b j) (pln s) := fun j hj => by
            have h1 : ¬ sdW (edgeT b j) (pln s) < 0 := fun hn => by
             have := neg_iff.2 ⟨j, hj, hn⟩
             rw [hi] at this; cases this
            have h2 := (hpl j (by rw [List.mem_range'_1]; omega)).1
            have h3 : sgnZ (sdW (edgeT b j) (pln s)) ≠ 0 := by
             have : (sgnZ (sdW (edgeT b j) (pln s)) != 0) = true := h2
             simpa using this
            have h4 : sdW (edgeT b j) (pln s) ≠ 0 := fun hz => h3 (by rw [hz]; rfl)
            omega
           obtain ⟨i, hi2, hd⟩ := exit_edge V hs hr hin (neg_iff.1 ho) (ltw_z hS) (ltw_z hR)
           have hsum := sum_some (edges b) (fun w hw => (d3 w hw).1) ⟨edgeT b i, by unfold edges; exact List.mem_map.2 ⟨i, by rw [List.mem_range'_1]; omega, rfl⟩, hd⟩
           rw [gT_t hrm, List.nil_append, nT_f (nz_f d1), nT_f (by
            unfold orZ
            rw [d1, d2]
            show decide (((edges b).map (dz s r)).sum < 1) = false
            rw [decide_eq_false_iff_not]; omega)]
theorem ld33_ok (h0 : Lib0 w0) (ha : Good w0 ⟨13, awakeF⟩) {l : List (Tup wallK)} {b : Bd} {p : Tup ptK} {x : Tup bxK} {s r : Tup v3K} (hb : chkB b = 0) (hs : pChk s = 0) (hr : pChk r = 0) (ks : chkPoint (pln s).1 (pln s).2.1 = 0) (kr : chkPoint (pln r).1 (pln r).2.1 = 0) :
  LdT ((cfg w0).at law12) (lw33 l b p x s r (plF b s r)) (sq12 200033) (sw33 l b p x s r (Ub b) (inb12 b (pln s)) (inb12 b (pln r)) (plF b s r) false) :=
 ldT_if (at_ok (cfg_ok w0) law12) (at_sp h0 (law12_gd h0 ha)) (.leaf (n := 60) (m := 60) (L := []) ((rnw33 l b p x s r _ _ _ _).trans (u33_ok hb hs hr ks kr)))
end Go.Proofs.YtmlglimahbjgbaaGreatDoor
namespace Go.Proofs.YtmlglimahbjgbaaGreatDoor
open Go Go.Am Go.Town
set_option maxRecDepth 100000
variable {w0 : World}
theorem spot_of {s : Tup v3K} (h : pChk s = 0) : in3 s.1 ∧ in3 s.2.1 := by
 unfold pChk chkSpot at h
 rw [firstZ_nil] at h
 exact ⟨withinZ_nil.1 (h _ (by simp)), withinZ_nil.1 (h _ (by simp))⟩
theorem min_in {a b : Int} (h1 : in3 a) (h2 : in3 b) : in3 (minW a b) := by unfold minW; split <;> assumption
theorem max_in {a b : Int} (h1 : in3 a) (h2 : in3 b) : in3 (maxW a b) := by unfold maxW; split <;> assumption
theorem min_max (a b : Int) : gtI (minW a b) (maxW a b) = false := by
 unfold gtI minW maxW
 rw [decide_eq_false_iff_not]
 split <;> split <;> omega
theorem e68_ok {l : List (Tup wallK)} {s r : Tup v3K} (hl : chkAllW l = 0) (hs : pChk s = 0) (hr : pChk r = 0) : e68 l (bx12 s r) = 0 := by
 have S := spot_of hs
 have R := spot_of hr
 show firstZ [chkAllW l, chkPoint (minW s.1 r.1) (minW s.2.1 r.2.1), chkPoint (maxW s.1 r.1) (maxW s.2.1 r.2.1), whenZ (gtI (minW s.1 r.1) (maxW s.1 r.1) || gtI (minW s.2.1 r.2.1) (maxW s.2.1 r.2.1)) 11] = 0
 have m1 := min_max s.1 r.1
 have m2 := min_max s.2.1 r.2.1
 have p1 := point_to (min_in S.1 R.1) (min_in S.2 R.2)
 have p2 := point_to (max_in S.1 R.1) (max_in S.2 R.2)
 rw [firstZ_nil]
 intro e he
 simp only [List.mem_cons, List.not_mem_nil, or_false] at he
 rcases he with rfl | rfl | rfl | rfl
 ·exact hl
 ·exact p1
 ·exact p2
 ·generalize gtI (minW s.1 r.1) (maxW s.1 r.1) = u at *
  generalize gtI (minW s.2.1 r.2.1) (maxW s.2.1 r.2.1) = v at *
  subst m1 m2
  rfl
theorem near_sum {l : List (Tup wallK)} {s r : Tup v3K} (hl : chkAllW l = 0) (hs : pChk s = 0) (hr : pChk r = 0) : ((keepW (bx12 s r) l).map (dz s r)).sum = (l.map (dz s r)).sum := by
 unfold keepW
 refine sum_filter l fun w hw ho => ?_
 have H := chkAll_iff.1 hl
 have he : wErr w s r = 0 := by
  unfold wErr errZ
  rw [firstZ_nil]
  intro e he
  simp only [List.mem_cons, List.not_mem_nil, or_false] at he
  rcases he with rfl | rfl | rfl
  ·exact H.2.1 w hw
  ·exact hs
  ·exact hr
 exact out_dep (errZ_small he) (by
  have : outW (bx12 s r) w = true := by simpa using ho
  exact this)
theorem rest_ok {l : List (Tup wallK)} {b : Bd} {p : Tup ptK} {x : Tup bxK} {s r : Tup v3K} {near : List (Tup wallK)} (hl : chkAllW l = 0) (hs : pChk s = 0) (hr : pChk r = 0) (hb : chkB b = 0) (hm : smallB b = true) (hp : chkPoint p.1 p.2.1 = 0)
  (hn : chkAllW near = 0) (hsum : (near.map (dz s r)).sum = (l.map (dz s r)).sum) : rest12 l b p x s r near (plF b s r) = some (o37 l b p x s r (plF b s r), Bo true) := by
 have V := val_of hb
 have h3 := V.three
 have S := spot_of hs
 have R := spot_of hr
 obtain ⟨a1, a2, _⟩ := deps_ok hl hs hr
 obtain ⟨b1, b2, _⟩ := deps_ok hn hs hr
 have c0 : chkPoint (cn0 b).1 (cn0 b).2.1 = 0 := point_to (V.pts 0 (by omega)).1 (V.pts 0 (by omega)).2
 have cs : chkPoint (pln s).1 (pln s).2.1 = 0 := point_to S.1 S.2
 have cr : chkPoint (pln r).1 (pln r).2.1 = 0 := point_to R.1 R.2
 have ep := err_bp hb hp
 have e0 := err_bp hb c0
 have es := err_bp hb cs
 have er := err_bp hb cr
 unfold rest12 u10
 have hz : (Nat.beq 2 2 && (decide ((0 : Int) ≤ 0) && decide ((0 : Int) < b.cs.length))) = true := by
  have : decide ((0 : Int) < b.cs.length) = true := by rw [decide_eq_true_eq]; omega
  rw [this]; rfl
 refine (gB_t hm).trans ((gB_t hm).trans ((gB_t hm).trans ((gB_t hm).trans ((gB_t hm).trans ((gB_t hz).trans ((gB_t hm).trans ((gB_t hm).trans ((gB_t hm).trans ?_))))))))
 unfold u14
 have hsame : (orZ (e30 l s r) (sumT (deps l s r)) != orZ (e30 near s r) (sumT (deps near s r))) = false := by
  unfold orZ
  rw [a1, b1, a2, b2, hsum]; simp
 have hfac : (!(inb12 b p == (((faL b p).length : Int) == 0))) = false := by
  unfold faL orL
  rw [in_of ep, ep]
  show (!((!negL (sidesB b p)) == (((facL (sidesB b p)).length : Int) == 0))) = false
  rw [facL_nil]; simp
 have hcor : (!inb12 b (cn0 b)) = false := by rw [in_of e0, corner_in V]; rfl
 have hlen : (((Ub b).length : Int) != (b.cs.length : Int)) = false := by rw [Ub_of hb, edges_len]; simp
 refine (nB_f (nz_f a1)).trans ((nB_f (nz_f b1)).trans ((nB_f hsame).trans ((nB_f (nz_f ep)).trans ((nB_f (nz_f ep)).trans ((nB_f (nz_f e0)).trans ((nB_f (nz_f hb)).trans ((nB_f hfac).trans ((nB_f hcor).trans ((nB_f hlen).trans ?_)))))))))
 unfold u22
 exact (gB_t hm).trans ((gB_t hm).trans ((gB_t hm).trans ((gB_t hm).trans ((nB_f (nz_f es)).trans (nB_f (nz_f er))))))
theorem law12_fn (h0 : Lib0 w0) (ha : Good w0 ⟨13, awakeF⟩) (pb : ∀ l, chkAllW l = 0 → l.length ≤ 5 → PB l) (l : List (Tup wallK)) (b : Bd) (p : Tup ptK) (x : Tup bxK) (s r : Tup v3K) : FnD (cfg w0) 12 (ag12 l b p x s r) (Bo true) := by
 have fin : ∀ (o : Obs), law12T l b p x s r (plF b s r) = some (o, Bo true) → Owed ((cfg w0).at law12) o → FnD (cfg w0) 12 (ag12 l b p x s r) (Bo true) := fun o h ho =>
  fnD_t (cfg_ok w0) h0 (law12_gd h0 ha) (fd := fnOf Tryz.f12) rfl ((law12_run l b p x s r (plF b s r)).trans h) ho
 cases hf : fewB l with
 | false => exact fin [] (by unfold law12T; rw [hf]; rfl) trivial
 | true =>
   cases hk : okS b with
   | false => exact fin [] (by unfold law12T; rw [hf, hk]; rfl) trivial
   | true =>
     have hm := okS_small hk
     by_cases hb : chkB b = 0
     case neg =>
      have : (chkB b != 0) = true := by simpa using hb
      exact fin [] (by unfold law12T; rw [hf, hk, hm, this]; rfl) trivial
     by_cases hp : chkPoint p.1 p.2.1 = 0
     case neg =>
      have : (chkPoint p.1 p.2.1 != 0) = true := by simpa using hp
      exact fin [] (by unfold law12T; rw [hf, hk, hm, hb, this]; rfl) trivial
     by_cases hq : pc12 s r = 0
     case neg =>
      have : (pc12 s r != 0) = true := by simpa using hq
      exact fin [] (by unfold law12T; rw [hf, hk, hm, hb, hp, this]; rfl) trivial
     have hq' := hq
     unfold pc12 at hq'
     rw [firstZ_nil] at hq'
     have hs := hq' (pChk s) (by simp)
     have hr := hq' (pChk r) (by simp)
     have S := spot_of hs
     have R := spot_of hr
     have hfl : l.length ≤ 5 ∧ chkAllW l = 0 := by
      unfold fewB at hf
      cases h5 : le5 l with
      | false => rw [h5] at hf; cases hf
      | true =>
        rw [h5] at hf
        unfold le5 at h5
        rw [decide_eq_true_eq] at h5
        exact ⟨by omega, by simpa using hf⟩
     have hbl : bl5 l = true := by unfold bl5; rw [Nat.ble_eq]; omega
     refine fin (o37 l b p x s r (plF b s r)) ?_ ⟨ld37_ok h0 ha hfl.2 hfl.1 (pb l hfl.2 hfl.1), ld33_ok h0 ha hb hs hr (point_to S.1 S.2) (point_to R.1 R.2), ld2_ok h0 ha hb hm, ld0_ok h0 ha hb, trivial⟩
     have hns := near_sum (l := l) hfl.2 hs hr
     have h68 := e68_ok (l := l) hfl.2 hs hr
     unfold law12T
     refine (nB_f (by rw [hf]; rfl)).trans ((nB_f (by rw [hk]; rfl)).trans ((gB_t hm).trans ((nB_f (nz_f hb)).trans ((nB_f (nz_f hp)).trans ((nB_f (nz_f hq)).trans ((gB_t hbl).trans ?_))))))
     cases he : em68 l (bx12 s r) with
     | true =>
       refine (gB_t hbl).trans (rest_ok hfl.2 hs hr hb hm hp rfl ?_)
       unfold em68 at he
       simp only [Bool.and_eq_true] at he
       rw [List.isEmpty_iff.1 he.2.2] at hns
       exact hns
     | false =>
       show u6 l b p x s r (nr12 l s r) (plF b s r) = _
       have hnr : nr12 l s r = keepW (bx12 s r) l := by unfold nr12 orW; rw [h68]; rfl
       have hkl : (keepW (bx12 s r) l).length ≤ l.length := List.length_filter_le ..
       have hkc : chkAllW (keepW (bx12 s r) l) = 0 := chkAll_filter hfl.2
       have hbn : bl5 (keepW (bx12 s r) l) = true := by unfold bl5; rw [Nat.ble_eq]; omega
       rw [hnr]
       unfold u6
       exact (nB_f (nz_f h68)).trans ((nB_f (by rw [decide_eq_false_iff_not]; omega)).trans ((gB_t hbn).trans ((nB_f (nz_f hkc)).trans ((gB_t hbl).trans ((gB_t hbn).trans ((gB_t hbn).trans (rest_ok hfl.2 hs hr hb hm hp hkc hns)))))))
end Go.Proofs.YtmlglimahbjgbaaGreatDoor
namespace Go.Proofs.YtmlglimahbjgbaaGreatDoor
open Go Go.Am Go.RowKit Go.Town
set_option maxRecDepth 100000
theorem scan_c2 (b : UInt8) (l : List UInt8) (n : Int) : scan (b :: l) n = bif decide (((b.toNat : Nat) : Int) < 48) || decide (((b.toNat : Nat) : Int) > 57) then (n, true) else scan l (10 * n + (b.toNat - 48)) := rfl
theorem scan_dig {d : Nat} (hd : d < 10) (l : List UInt8) (n : Int) : scan (UInt8.ofNat (48 + d) :: l) n = scan l (10 * n + d) := by
 have e : ((UInt8.ofNat (48 + d)).toNat : Int) = 48 + d := by
  rw [UInt8.toNat_ofNat', Nat.mod_eq_of_lt (by omega)]
  omega
 rw [scan_c2, e, decide_eq_false (show ¬ ((48 : Int) + d < 48) by omega), decide_eq_false (show ¬ ((48 : Int) + d > 57) by omega)]
 show scan l (10 * n + (48 + (d : Int) - 48)) = _
 rw [show 10 * n + (48 + (d : Int) - 48) = 10 * n + d by omega]
theorem digs_lt {f n : Nat} {acc : List UInt8} (h : n < 10) : digs (f + 1) n acc = UInt8.ofNat (48 + n) :: acc := by
 unfold digs
 rw [show Nat.blt n 10 = true by exact (Nat.ble_eq ..).mpr h]
theorem digs_ge {f n : Nat} {acc : List UInt8} (h : 10 ≤ n) : digs (f + 1) n acc = digs f (n / 10) (UInt8.ofNat (48 + n % 10) :: acc) := by
 show (match Nat.blt n 10 with | true => _ | false => _) = _
 have : Nat.blt n 10 = false := by
  cases hb : Nat.blt n 10 with
  | false => rfl
  | true =>
    have := Nat.le_of_ble_eq_true hb
    omega
 rw [this]
theorem scan_digs : ∀ (f n : Nat) (acc : List UInt8), n < 10 ^ f → scan (digs f n acc) 0 = scan acc n
 | 0, n, acc, h => by
   rw [Nat.pow_zero] at h
   rw [show n = 0 by omega]
   rfl
 | f + 1, n, acc, h => by
   by_cases hn : n < 10
   ·rw [digs_lt hn, scan_dig hn, show 10 * (0 : Int) + n = n by omega]
   ·rw [digs_ge (by omega), scan_digs f (n / 10) _ (by rw [Nat.pow_succ] at h; omega), scan_dig (Nat.mod_lt _ (by omega))]
    congr 1
    omega
theorem digs_le : ∀ (k f n : Nat) (acc : List UInt8), n < 10 ^ (k + 1) → (digs f n acc).length ≤ k + 1 + acc.length
 | k, 0, n, acc, h => by show acc.length ≤ _; omega
 | 0, f + 1, n, acc, h => by rw [digs_lt (by simpa using h), List.length_cons]; omega
 | k + 1, f + 1, n, acc, h => by
   by_cases hn : n < 10
   ·rw [digs_lt hn, List.length_cons]; omega
   ·rw [digs_ge (by omega)]
    have := digs_le k f (n / 10) (UInt8.ofNat (48 + n % 10) :: acc) (by rw [Nat.pow_succ] at h; omega)
    rw [List.length_cons] at this
    omega
theorem dig_ne {d : Nat} (h0 : 0 < d) (hd : d < 10) : (UInt8.ofNat (48 + d) == 48) = false := by
 rw [beq_eq_false_iff_ne]
 intro e
 have := congrArg UInt8.toNat e
 rw [UInt8.toNat_ofNat', Nat.mod_eq_of_lt (by omega)] at this
 have h48 : (48 : UInt8).toNat = 48 := rfl
 omega
theorem digs_head : ∀ (f n : Nat) (acc : List UInt8), 0 < n → n < 10 ^ f → ∃ b t, digs f n acc = b :: t ∧ (b == 48) = false
 | 0, n, acc, h0, h => by rw [Nat.pow_zero] at h; omega
 | f + 1, n, acc, h0, h => by
   by_cases hn : n < 10
   ·exact ⟨_, _, digs_lt hn, dig_ne h0 hn⟩
   ·rw [digs_ge (by omega)]
    exact digs_head f (n / 10) _ (by omega) (by rw [Nat.pow_succ] at h; omega)
theorem digs_ne : ∀ (f n : Nat) (acc : List UInt8), acc.length < (digs (f + 1) n acc).length
 | f, n, acc => by
   by_cases hn : n < 10
   ·rw [digs_lt hn, List.length_cons]; omega
   ·rw [digs_ge (by omega)]
    cases f with
    | zero => show acc.length < (UInt8.ofNat (48 + n % 10) :: acc).length; rw [List.length_cons]; omega
    | succ f =>
      have := digs_ne f (n / 10) (UInt8.ofNat (48 + n % 10) :: acc)
      rw [List.length_cons] at this
      omega
theorem digs_all : ∀ (f n : Nat) (acc : List UInt8), ∀ b ∈ digs f n acc, b ∈ acc ∨ 48 ≤ b.toNat
 | 0, _, _, b, h => .inl h
 | f + 1, n, acc, b, h => by
   have hd : ∀ d, d < 10 → 48 ≤ (UInt8.ofNat (48 + d)).toNat := fun d hd => by
    rw [UInt8.toNat_ofNat', Nat.mod_eq_of_lt (by omega)]; omega
   by_cases hn : n < 10
   ·rw [digs_lt hn] at h
    rcases List.mem_cons.1 h with e | h
    ·subst e; exact .inr (hd n hn)
    ·exact .inl h
   ·rw [digs_ge (by omega)] at h
    rcases digs_all f (n / 10) _ b h with h | h
    ·rcases List.mem_cons.1 h with e | h
     ·subst e; exact .inr (hd _ (Nat.mod_lt _ (by omega)))
     ·exact .inl h
    ·exact .inr h
theorem itoa_nat (n : Nat) : itoaL (n : Int) = digs 20 n [] := rfl
theorem itoa_count {c : UInt8} (hc : c.toNat < 48) (n : Nat) : (itoaL (n : Int)).count c = 0 := by
 rw [itoa_nat, List.count_eq_zero]
 intro h
 rcases digs_all _ _ _ _ h with h | h
 ·cases h
 ·omega
theorem pow20 {n k : Nat} (h : n < 10 ^ (k + 1)) (hk : k + 1 ≤ 20) : n < 10 ^ 20 := Nat.lt_of_lt_of_le h (Nat.pow_le_pow_right (by omega) hk)
theorem numL_it {n k : Nat} {dg : Int} (h : n < 10 ^ (k + 1)) (hk : k + 1 ≤ 20) (hd : ((k + 1 : Nat) : Int) ≤ dg) : numL (itoaL (n : Int)) dg = ((n : Int), false) := by
 have h20 := pow20 h hk
 have hlen := digs_le k 20 n [] h
 have hpos : 0 < (digs 20 n []).length := digs_ne 19 n []
 simp only [List.length_nil] at hlen
 have hz : num0 (itoaL (n : Int)) dg = false := by
  unfold num0
  rw [itoa_nat, decide_eq_false (show ¬ (digs 20 n []).length = 0 by omega), decide_eq_false (show ¬ (((digs 20 n []).length : Int) > dg) by omega)]
  by_cases h0 : n = 0
  ·subst h0; rfl
  ·obtain ⟨b, t, e, hb⟩ := digs_head 20 n [] (by omega) h20
   rw [e]
   show (false || (false || (_ && (some b == some 48)))) = false
   rw [show (some b == some (48 : UInt8)) = (b == 48) from rfl, hb, Bool.and_false]
   rfl
 unfold numL
 rw [hz, itoa_nat]
 show scan (digs 20 n []) 0 = _
 rw [scan_digs 20 n [] h20]
 rfl
theorem dgL_nat {n : Nat} (h : n ≤ 1000) : dgL (itoaL (n : Int)) 9 = ((n : Int), true) := by
 have hn : numL (itoaL (n : Int)) 9 = ((n : Int), false) := numL_it (k := 3) (by omega) (by omega) (by omega)
 unfold dgL
 rw [hn]; rfl
theorem mi_nat (n : Nat) : miH (itoaL (n : Int)) = false := by
 unfold miH
 cases h : itoaL (n : Int) with
 | nil => rfl
 | cons b l =>
   show (b == 45) = false
   rw [beq_eq_false_iff_ne]
   intro e
   have := itoa_count (c := 45) (by decide) n
   rw [h, e, List.count_cons] at this
   simp at this
theorem sgL_it {v : Int} (h : in3 v) : sgL (itoaL v) = (v, true) := by
 match v, h with
 | .ofNat n, h =>
   have h : -1000 ≤ (n : Int) ∧ (n : Int) ≤ 1000 := h
   show sgL (itoaL (n : Int)) = _
   unfold sgL
   rw [mi_nat, dgL_nat (by omega)]; rfl
 | .negSucc n, h =>
   have h : -1000 ≤ Int.negSucc n ∧ Int.negSucc n ≤ 1000 := h
   have e : itoaL (Int.negSucc n) = 45 :: itoaL ((n + 1 : Nat) : Int) := rfl
   have hd : dgL (itoaL ((n + 1 : Nat) : Int)) 9 = (((n + 1 : Nat) : Int), true) := dgL_nat (by omega)
   unfold sgL
   rw [e]
   show (bif true then (0 - (dgL (itoaL ((n + 1 : Nat) : Int)) 9).1, (dgL (itoaL ((n + 1 : Nat) : Int)) 9).2 && decide ((dgL (itoaL ((n + 1 : Nat) : Int)) 9).1 > 0)) else dgL (45 :: itoaL ((n + 1 : Nat) : Int)) 9) = _
   rw [hd]
   show (0 - ((n + 1 : Nat) : Int), true && decide (((n + 1 : Nat) : Int) > 0)) = _
   rw [decide_eq_true (by omega)]
   refine Prod.ext ?_ rfl
   show 0 - ((n + 1 : Nat) : Int) = Int.negSucc n
   omega
theorem it_count {c : UInt8} (hc : c.toNat < 45) (v : Int) : (itoaL v).count c = 0 := by
 match v with
 | .ofNat n => exact itoa_count (by omega) n
 | .negSucc n =>
   show (45 :: itoaL ((n + 1 : Nat) : Int)).count c = 0
   rw [List.count_cons, itoa_count (by omega) (n + 1)]
   have : ((45 : UInt8) == c) = false := by
    rw [beq_eq_false_iff_ne]
    intro e
    subst e
    exact absurd hc (by decide)
   rw [this]; rfl
theorem nm_count {s : ByteArray} {c : UInt8} (h : isName s = true) (hc : (letterN c.toNat || otherN c.toNat) = false) : (bl s).count c = 0 := by
 rw [List.count_eq_zero]
 intro hm
 unfold isName at h
 simp only [Bool.and_eq_true] at h
 have hn := (nameFrom_iff _ _).1 h.2
 obtain ⟨k, hk, e⟩ := List.mem_iff_getElem.1 hm
 have hk' : k < s.size := by rw [← bl_len]; exact hk
 have hg : s.get! k = c := by
  have := drop_get hk'
  rw [List.drop_eq_getElem_cons hk, e] at this
  exact (List.cons.inj this).1.symm
 have ho := hn k (by omega) (by omega)
 unfold okAt at ho
 rw [hg] at ho
 rw [Bool.or_eq_false_iff] at hc
 rw [hc.1, hc.2] at ho
 simp at ho
def lnW (x : Tup wallK) : List UInt8 := bl walB ++ 32 :: (bl (fN x) ++ 32 :: (itoaL (f1 x) ++ 32 :: (itoaL (f2 x) ++ 32 :: (itoaL (f3 x) ++ 32 :: (itoaL (f4 x) ++ 32 :: (itoaL (f5 x) ++ 32 :: itoaL (f6 x)))))))
theorem ln_join (x : Tup wallK) : joinL spB (lw x) = lnW x := by
 rw [join8]
 unfold lnW
 have e : ∀ n, bl (itoB n) = itoaL n := fun n => bl_mkB _
 rw [e, e, e, e, e, e]
 rfl
theorem bl_line (x : Tup wallK) : bl (lineB x) = lnW x ++ [10] := by
 unfold lineB jnB
 rw [bl_append, bl_mkB, ln_join]
 rfl
def linesW (l : WL) : List UInt8 := l.flatMap fun x => lnW x ++ [10]
theorem linesW_cons (x : Tup wallK) (l : WL) : linesW (x :: l) = lnW x ++ 10 :: linesW l := by simp [linesW]
theorem linesW_app (a b : WL) : linesW (a ++ b) = linesW a ++ linesW b := by simp [linesW]
theorem bl_foldW : ∀ (l : WL) (s : ByteArray), bl (l.foldl (fun s x => s ++ lineB x) s) = bl s ++ linesW l
 | [], s => by simp [linesW]
 | x :: l, s => by
   rw [List.foldl_cons, bl_foldW l, bl_append, bl_line, linesW_cons]
   simp
theorem bl_prt (l : WL) : bl (prtB l) = linesW l := by
 unfold prtB
 rw [bl_foldW]
 rfl
theorem nameW {x : Tup wallK} (hw : wChk x = 0) : isName (fN x) = true := by
 unfold wChk chkWall at hw
 rw [firstZ_nil] at hw
 have h0 := hw (whenZ (!isName (fN x)) 8) (by simp [fN])
 cases hx : isName (fN x) with
 | true => rfl
 | false => rw [hx] at h0; cases h0
theorem ln_spl {x : Tup wallK} (hw : wChk x = 0) : spl 32 (lnW x) = [bl walB, bl (fN x), itoaL (f1 x), itoaL (f2 x), itoaL (f3 x), itoaL (f4 x), itoaL (f5 x), itoaL (f6 x)] := by
 unfold lnW
 have c : ∀ v, (itoaL v).count 32 = 0 := fun v => it_count (by decide) v
 rw [spl_app (by rfl), spl_app (nm_count (nameW hw) (by rfl)), spl_app (c _), spl_app (c _), spl_app (c _), spl_app (c _), spl_app (c _), spl_none (c _)]
theorem ln_nl {x : Tup wallK} (hw : wChk x = 0) : (lnW x).count 10 = 0 := by
 unfold lnW
 have c : ∀ v, (itoaL v).count 10 = 0 := fun v => it_count (by decide) v
 have cn : (bl (fN x)).count 10 = 0 := nm_count (nameW hw) (by rfl)
 simp only [List.count_append, List.count_cons, c, cn]
 rfl
theorem ln_ne (x : Tup wallK) : lnW x ≠ [] := by
 unfold lnW
 intro h
 simp at h
theorem ln_go {x : Tup wallK} (hw : wChk x = 0) : lineOk true (splW (lnW x)) = true ∧ wlT (splW (lnW x)) = x := by
 have O := okW_of hw
 have e : splW (lnW x) = [tupS (bl walB), tupS (bl (fN x)), tupS (itoaL (f1 x)), tupS (itoaL (f2 x)), tupS (itoaL (f3 x)), tupS (itoaL (f4 x)), tupS (itoaL (f5 x)), tupS (itoaL (f6 x))] := by
  unfold splW; rw [ln_spl hw]; rfl
 obtain ⟨s0, s1, s2, s3, s4, s5⟩ := sq_wrd (splW (lnW x))
 have g : ∀ {v : Int}, in3 v → sgL (bl (mkB (itoaL v))) = (v, true) := fun h => by rw [bl_mkB]; exact sgL_it h
 have q0 : sq (splW (lnW x)) 0 = (f1 x, true) := by rw [s0, e]; exact g O.n1
 have q1 : sq (splW (lnW x)) 1 = (f2 x, true) := by rw [s1, e]; exact g O.n2
 have q2 : sq (splW (lnW x)) 2 = (f3 x, true) := by rw [s2, e]; exact g O.n3
 have q3 : sq (splW (lnW x)) 3 = (f4 x, true) := by rw [s3, e]; exact g O.n4
 have q4 : sq (splW (lnW x)) 4 = (f5 x, true) := by rw [s4, e]; exact g (show in3 (f5 x) from ⟨by have := O.n5; omega, O.n5.2⟩)
 have q5 : sq (splW (lnW x)) 5 = (f6 x, true) := by rw [s5, e]; exact g (show in3 (f6 x) from ⟨by have := O.n6; omega, O.n6.2⟩)
 have hz : (fN x).size ≠ 0 := by
  have := nameW hw
  unfold isName at this
  simp only [Bool.and_eq_true, decide_eq_true_eq] at this
  exact this.1.1
 have w0 : ((wd0 (splW (lnW x))).toList == walB.toList) = true := by
  rw [str_eq, e]
  show (bl (mkB (bl walB)) == bl walB) = true
  rw [bl_mkB]; rfl
 have w1 : ((wd1 (splW (lnW x))).toList == mtL.toList) = false := by
  rw [str_eq, e]
  show (bl (mkB (bl (fN x))) == bl mtL) = false
  rw [bl_mkB, beq_eq_false_iff_ne]
  intro h
  have := congrArg List.length h
  rw [bl_len] at this
  exact hz this
 have ok : okQ (splW (lnW x)) = true := by
  unfold okQ
  rw [w0, w1, q0, q1, q2, q3, q4, q5, e]
  rfl
 obtain ⟨h1, h2⟩ := lineOk_of ok
 refine ⟨h1, h2.trans ?_⟩
 unfold wQ
 rw [q0, q1, q2, q3, q4, q5, e]
 show (mkB (bl (fN x)), f1 x, f2 x, f3 x, f4 x, f5 x, f6 x, ()) = x
 rw [mkB_bl]
 rfl
theorem goP_consW {l : List UInt8} {ls : List (List UInt8)} (h : ls ≠ []) (o : WL) : goP (l :: ls) o = bif lineOk true (splW l) then goP ls (o ++ [wlT (splW l)]) else .bad o.length := by
 cases ls with
 | nil => exact absurd rfl h
 | cons m ls => rfl
theorem go_linesW : ∀ (xs : WL) (o : WL) (tl : List (List UInt8)), tl ≠ [] → (∀ x ∈ xs, wChk x = 0) → goP (xs.map lnW ++ tl) o = goP tl (o ++ xs)
 | [], o, tl, _, _ => by simp
 | x :: xs, o, tl, ht, hv => by
   obtain ⟨h1, h2⟩ := ln_go (hv x (by simp))
   rw [List.map_cons, List.cons_append, goP_consW (by simp [ht]), h1, h2]
   show goP (xs.map lnW ++ tl) _ = _
   rw [go_linesW xs _ tl ht (fun y hy => hv y (by simp [hy]))]
   simp
theorem spl_linesW : ∀ (r : WL) (tl : List UInt8), (∀ x ∈ r, wChk x = 0) → spl 10 (linesW r ++ tl) = r.map lnW ++ spl 10 tl
 | [], tl, _ => by simp [linesW]
 | x :: r, tl, h => by
   rw [linesW_cons, List.append_assoc, List.cons_append, spl_app (ln_nl (h x (by simp))), spl_linesW r tl (fun y hy => h y (by simp [hy]))]
   rfl
theorem prt_size : ∀ {l : WL}, (∀ x ∈ l, wChk x = 0) → (linesW l).length ≤ 162 * l.length
 | [], _ => Nat.le_refl _
 | x :: l, h => by
   have h1 := lineB_size (okW_of (h x (by simp)))
   rw [← bl_len, bl_line, List.length_append, List.length_singleton] at h1
   have h2 := prt_size (l := l) (fun y hy => h y (by simp [hy]))
   rw [linesW_cons, List.length_append, List.length_cons, List.length_cons]
   omega
theorem parP_go {s : ByteArray} (h : s.size ≤ 4096) : parP s = fz87 (goP (spl 10 (bl s)) []) := by
 unfold parP lgS
 rw [decide_eq_false (show ¬ (((s.size : Nat) : Int) > 4096) by omega)]
 rfl
theorem pb_all {l : WL} (hc : chkAllW l = 0) (h5 : l.length ≤ 5) : PB l := by
 have hv := (chkAll_iff.1 hc).2.1
 have hs := prt_size hv
 have hsz : (prtB l).size = (linesW l).length := by rw [← bl_len, bl_prt]
 have hsp : spl 10 (bl (prtB l)) = l.map lnW ++ [[]] := by
  have := spl_linesW l [] hv
  rw [List.append_nil] at this
  rw [bl_prt, this]; rfl
 have ct : l ≠ [] → ∃ r y, l = r ++ [y] ∧ bl (ctS (prtB l)) = linesW r ++ lnW y ∧ 0 < (prtB l).size := fun hn => by
  obtain ⟨r, y, rfl⟩ : ∃ r y, l = r ++ [y] := ⟨l.dropLast, l.getLast hn, (List.dropLast_concat_getLast hn).symm⟩
  have e : bl (prtB (r ++ [y])) = (linesW r ++ lnW y) ++ [10] := by
   rw [bl_prt, linesW_app, linesW_cons]
   simp [linesW]
  have hl : (prtB (r ++ [y])).size = (linesW r ++ lnW y).length + 1 := by rw [← bl_len, e, List.length_append, List.length_singleton]
  refine ⟨r, y, rfl, ?_, by omega⟩
  unfold ctS
  have hw : IntKind.i64.wrap (((prtB (r ++ [y])).size : Int) - 1) = (((linesW r ++ lnW y).length : Nat) : Int) := by
   have := W_in (n := (((prtB (r ++ [y])).size : Nat) : Int) - 1) (by omega) (by omega)
   rw [show IntKind.i64.wrap (((prtB (r ++ [y])).size : Int) - 1) = ((prtB (r ++ [y])).size : Int) - 1 from this]
   omega
  rw [hw, Int.toNat_natCast, ext_0, bl_mkB, e, List.take_left]
 refine ⟨?_, ?_, ?_, fun hn => ?_, fun hn => ?_⟩
 ·rw [parP_go (by omega), hsp, go_linesW l [] _ (by simp) hv]
  show (bif chkAllW ([] ++ l) != 0 then _ else _) = _
  rw [List.nil_append, hc]; rfl
 ·unfold smS
  rw [Nat.ble_eq]; omega
 ·have : splC (cU 10) (prtB l) = (spl 10 (bl (prtB l))).map tupS := rfl
  rw [this, hsp]; simp
 ·obtain ⟨r, y, rfl, e, _⟩ := ct hn
  have hr : ∀ x ∈ r, wChk x = 0 := fun x hx => hv x (by simp [hx])
  have hy : wChk y = 0 := hv y (by simp)
  have hsz2 : (ctS (prtB (r ++ [y]))).size ≤ 4096 := by
   have h1 := linesW_app r [y]
   have h2 := congrArg List.length h1
   rw [List.length_append, linesW_cons, List.length_append] at h2
   have h3 := congrArg List.length e
   rw [bl_len, List.length_append] at h3
   omega
  rw [parP_go hsz2, e, spl_linesW r _ hr, spl_none (ln_nl hy), go_linesW r [] _ (by simp) hr]
  have hb : goP [lnW y] ([] ++ r) = .bad r.length := by
   cases h : lnW y with
   | nil => exact absurd h (ln_ne y)
   | cons b m => rfl
  rw [hb]
  show ((r.length : Int), (25 : Int)) = _
  rw [List.length_append, List.length_singleton]
  refine Prod.ext ?_ rfl
  show (r.length : Int) = ((r.length + 1 : Nat) : Int) - 1
  omega
 ·obtain ⟨r, y, rfl, e, h0⟩ := ct hn
  unfold cutG
  have hw : IntKind.i64.wrap (((prtB (r ++ [y])).size : Int) - 1) = ((prtB (r ++ [y])).size : Int) - 1 := W_in (by omega) (by omega)
  rw [hw, Bool.and_eq_true, decide_eq_true_eq, decide_eq_true_eq]
  omega
end Go.Proofs.YtmlglimahbjgbaaGreatDoor
