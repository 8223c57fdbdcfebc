/-
  A part of the proof of the statement that the claim names: see the last file.
-/
import Derived.Test.YtmlglimahbjgbaaGreatDoorL1
import Derived.Test.YtmlglimahbjgbaaGreatDoorT1
namespace Go.Proofs.YtmlglimahbjgbaaGreatDoor
open Go Go.Am Go.Town
set_option maxRecDepth 100000
variable {w0 : World}
noncomputable section

/-! ## Comparisons of the law -/

def numB (have' e bad want : Int) : Bool := bif have' == (bif bad != 0 then 0 else want) then e == bad else false

theorem fn26 (h0 : Lib0 w0) (a e b w : Int) : FnD (cfg w0) 26 [I a, I e, I b, I w] (Bo (numB a e b w)) :=
  fnD_k (cfg_ok w0) h0 (cs := []) trivial (fd := fnOf Tryz.f26) rfl (n := 40) ((show bodyK ((cfg w0).at []) 40 (fnOf Tryz.f26) [I a, I e, I b, I w] =
    bif b != 0 then (bif a == 0 then some (Bo (e == b)) else some (Bo false)) else (bif a == w then some (Bo (e == b)) else some (Bo false)) by kernel_rfl).trans (by
      unfold numB
      cases (b != 0)
      · simp only [cond_false]; cases (a == w) <;> rfl
      · simp only [cond_true]; cases (a == 0) <;> rfl))

abbrev iv2 : List Kd := [ik, ik]
def z2 : Tup iv2 := ((0 : Int), (0 : Int), ())
def pair (x : Tup iv2) : D := .agg [I x.1, I x.2.1]
def eqI (a b : Int) : Bool := a == b
def eq2 (x y : Tup iv2) : Bool := eqI x.1 y.1 && (eqI x.2.1 y.2.1 && true)
def ivB (x : Tup iv2) (e b : Int) (y : Tup iv2) : Bool := bif eq2 x (bif b != 0 then z2 else y) then e == b else false

theorem fn39 (h0 : Lib0 w0) (x : Tup iv2) (e b : Int) (y : Tup iv2) : FnD (cfg w0) 39 [pair x, I e, I b, pair y] (Bo (ivB x e b y)) :=
  fnD_k (cfg_ok w0) h0 (cs := []) trivial (fd := fnOf Tryz.f39) rfl (n := 40) ((show bodyK ((cfg w0).at []) 40 (fnOf Tryz.f39) [pair x, I e, I b, pair y] =
    bif b != 0 then (bif eq2 x z2 then some (Bo (e == b)) else some (Bo false)) else (bif eq2 x y then some (Bo (e == b)) else some (Bo false)) by kernel_rfl).trans (by
      unfold ivB
      cases (b != 0)
      · simp only [cond_false]; cases (eq2 x y) <;> rfl
      · simp only [cond_true]; cases (eq2 x z2) <;> rfl))

def cs40 : List Ct := [c95]
def liB (x : List (Tup intK)) (e b : Int) (y : List (Tup intK)) : Bool := bif sameI x (bif b != 0 then [] else y) then e == b else false
theorem fn40 (h0 : Lib0 w0) (x : List (Tup intK)) (e b : Int) (y : List (Tup intK)) (hl : x.length ≤ 100000) : FnD (cfg w0) 40 [.vec intK x, I e, I b, .vec intK y] (Bo (liB x e b y)) :=
  fnD_k (cfg_ok w0) h0 (cs := cs40) ⟨gd95 h0, trivial⟩ (fd := fnOf Tryz.f40) rfl (n := 40) ((show bodyK ((cfg w0).at cs40) 40 (fnOf Tryz.f40) [.vec intK x, I e, I b, .vec intK y] =
    bif b != 0 then (bif Nat.ble x.length 100000 then bif sameI x [] then some (Bo (e == b)) else some (Bo false) else none) else (bif Nat.ble x.length 100000 then bif sameI x y then some (Bo (e == b)) else some (Bo false) else none) by kernel_rfl).trans (by
      unfold liB
      rw [Nat.ble_eq_true_of_le hl]
      cases (b != 0)
      · simp only [cond_false, cond_true]; cases (sameI x y) <;> rfl
      · simp only [cond_true]; cases (sameI x []) <;> rfl))

def pr2 (a b : Int) : Tup iv2 := (a, b, ())
/-! ## Length and Detour -/

def lvL' : List Ct := [⟨115, tG (intsF withinK)⟩, ⟨116, tG (intsF lenK)⟩, ⟨104, tG checkSpotF⟩, ⟨98, tG firstF⟩, ⟨117, tG detF⟩]
theorem lvL'_gd (h0 : Lib0 w0) : Gds (cfg w0) lvL' := ⟨gd_of (within_good h0), gd_of (len_good h0), gd_of (checkSpot_good h0), gd_of (first_good h0), gd_of (detour_good h0), trivial⟩

def sqE (n : Int) : Int := withinZ n 0 20000000
def lenI (n : Int) : Tup iv2 := pr2 (lowZ n) (highZ n)
theorem fn28 (h0 : Lib0 w0) (n : Int) : FnD (cfg w0) 28 [I n] (bif sqE n != 0 then .tup [pair z2, I (sqE n)] else .tup [pair (lenI n), I 0]) :=
  fnD_k (cfg_ok w0) h0 (lvL'_gd h0) (fd := fnOf Tryz.f28) rfl (n := 60) ((show bodyK ((cfg w0).at lvL') 60 (fnOf Tryz.f28) [I n] =
    bif sqE n != 0 then some (.tup [pair z2, I (sqE n)]) else bif sqB n then some (.tup [pair (lenI n), I 0]) else none by kernel_rfl).trans (by
      cases hc : (sqE n != 0)
      · have := withinZ_nil.1 (show withinZ n 0 20000000 = 0 by simpa [sqE] using hc)
        rw [sqB_iff.2 ⟨this.1, by omega⟩]; rfl
      · rfl))
def c28 : Ct := ct 28 [.c ik] fun a => .br (sqE a.1 != 0) (.leaf (.tup [pair z2, I (sqE a.1)])) (.leaf (.tup [pair (lenI a.1), I 0]))
theorem gd28 (h0 : Lib0 w0) : Gd (cfg w0) c28 := gd_sig fun a d hd => by
  have := fn28 h0 a.1
  simp only [FT.run] at hd
  cases hc : (sqE a.1 != 0) <;> rw [hc] at hd this <;> cases hd <;> exact this

def sp3 (a b c : Tup v3K) : Int := spots3 a.1 a.2.1 a.2.2.1 b.1 b.2.1 b.2.2.1 c.1 c.2.1 c.2.2.1
def sq3 (a b : Tup v3K) : Int := sqZ a.1 a.2.1 a.2.2.1 b.1 b.2.1 b.2.2.1
def det3 (a b c : Tup v3K) : Tup iv2 := pr2 (detL (sq3 a b) (sq3 b c) (sq3 a c)) (detH (sq3 a b) (sq3 b c) (sq3 a c))

theorem sq_ok {a b : Tup v3K} (ha : pChk a = 0) (hb : pChk b = 0) : sqB (sq3 a b) = true := by
  obtain ⟨a1, a2, a3⟩ := chkSpot_nil ha
  obtain ⟨b1, b2, b3⟩ := chkSpot_nil hb
  exact sq_small a1 a2 a3 b1 b2 b3

theorem fn29 (h0 : Lib0 w0) (a b c : Tup v3K) : FnD (cfg w0) 29 [vec3 a, vec3 b, vec3 c] (bif sp3 a b c != 0 then .tup [pair z2, I (sp3 a b c)] else .tup [pair (det3 a b c), I 0]) :=
  fnD_k (cfg_ok w0) h0 (lvL'_gd h0) (fd := fnOf Tryz.f29) rfl (n := 60) ((show bodyK ((cfg w0).at lvL') 60 (fnOf Tryz.f29) [vec3 a, vec3 b, vec3 c] =
    bif sp3 a b c != 0 then some (.tup [pair z2, I (sp3 a b c)]) else bif sqB (sq3 a b) && (sqB (sq3 b c) && sqB (sq3 a c)) then some (.tup [pair (det3 a b c), I 0]) else none by kernel_rfl).trans (by
      cases hc : (sp3 a b c != 0)
      · have hz : firstZ [pChk a, pChk b, pChk c] = 0 := (by simpa using hc : sp3 a b c = 0)
        rw [firstZ_nil] at hz
        rw [sq_ok (hz (pChk a) (by simp)) (hz (pChk b) (by simp)), sq_ok (hz (pChk b) (by simp)) (hz (pChk c) (by simp)), sq_ok (hz (pChk a) (by simp)) (hz (pChk c) (by simp))]; rfl
      · rfl))
def c29 : Ct := ct 29 [.b v3K, .b v3K, .b v3K] fun a => .br (sp3 a.1 a.2.1 a.2.2.1 != 0) (.leaf (.tup [pair z2, I (sp3 a.1 a.2.1 a.2.2.1)])) (.leaf (.tup [pair (det3 a.1 a.2.1 a.2.2.1), I 0]))
theorem gd29 (h0 : Lib0 w0) : Gd (cfg w0) c29 := gd_sig fun a d hd => by
  have := fn29 h0 a.1 a.2.1 a.2.2.1
  simp only [FT.run] at hd
  cases hc : (sp3 a.1 a.2.1 a.2.2.1 != 0) <;> rw [hc] at hd this <;> cases hd <;> exact this

/-! ## Depths -/

def cs30 : List Ct := [checkC 38, ⟨104, tG checkSpotF⟩, ⟨98, tG firstF⟩, c118]
theorem cs30_gd (h0 : Lib0 w0) : Gds (cfg w0) cs30 := ⟨gd38 h0, gd_of (checkSpot_good h0), gd_of (first_good h0), gd118 h0, trivial⟩
def e30 (l : List (Tup wallK)) (s r : Tup v3K) : Int := firstZ [chkAllW l, pChk s, pChk r]

theorem chkFrom_nil : ∀ (l : List (Tup wallK)) (seen : List ByteArray), chkFrom seen l = 0 → ∀ w ∈ l, wChk w = 0
  | [], _, _, w, hw => by cases hw
  | v :: vs, seen, h, w, hw => by
    unfold chkFrom at h
    cases hc : (chkE seen v != 0) with
    | true => rw [hc] at h; simp only [cond_true] at h; rw [h] at hc; cases hc
    | false =>
      rw [hc] at h
      simp only [cond_false] at h
      rcases List.mem_cons.1 hw with rfl | hw
      · have : chkE seen w = 0 := by simpa using hc
        unfold chkE at this
        cases he : (wChk w != 0) with
        | true => rw [he] at this; simpa using this
        | false => simpa using he
      · exact chkFrom_nil vs _ h w hw

theorem chkAll_nil {l : List (Tup wallK)} (h : chkAllW l = 0) : l.length ≤ 32 ∧ ∀ w ∈ l, wChk w = 0 := by
  unfold chkAllW at h
  cases hc : decide ((l.length : Int) > 32) with
  | true => rw [hc] at h; cases h
  | false =>
    rw [hc] at h
    refine ⟨?_, chkFrom_nil l [] h⟩
    rw [decide_eq_false_iff_not] at hc
    omega

theorem ok_all {l : List (Tup wallK)} {s r : Tup v3K} (h : e30 l s r = 0) : l.length ≤ 32 ∧ l.all (okW s r) = true := by
  unfold e30 at h
  rw [firstZ_nil] at h
  obtain ⟨h1, h2⟩ := chkAll_nil (l := l) (h _ (by simp))
  refine ⟨h1, ?_⟩
  rw [List.all_eq_true]
  intro w hw
  have hs := h (pChk s) (by simp)
  have hr := h (pChk r) (by simp)
  have hw' := h2 w hw
  unfold okW wErr errZ
  unfold wChk at hw'
  unfold pChk at hs hr
  rw [hw', hs, hr]; rfl

theorem fn30 (h0 : Lib0 w0) (l : List (Tup wallK)) (s r : Tup v3K) : FnD (cfg w0) 30 [.vec wallK l, vec3 s, vec3 r]
    (bif e30 l s r != 0 then .tup [.val (.slice none 0 0), I 0, I (e30 l s r)] else .tup [.vec intK (l.map (depE s r)), I (sumT (l.map (depE s r))), I 0]) :=
  fnD_k (cfg_ok w0) h0 (cs30_gd h0) (fd := fnOf Tryz.f30) rfl (n := 60) ((show bodyK ((cfg w0).at cs30) 60 (fnOf Tryz.f30) [.vec wallK l, vec3 s, vec3 r] =
    bif e30 l s r != 0 then some (.tup [.val (.slice none 0 0), I 0, I (e30 l s r)]) else
    bif Nat.ble l.length 100000 && l.all (okW s r) then some (.tup [.vec intK (l.map (depE s r)), I (sumT (l.map (depE s r))), I 0]) else none by kernel_rfl).trans (by
      cases hc : (e30 l s r != 0)
      · obtain ⟨h1, h2⟩ := ok_all (l := l) (s := s) (r := r) (by simpa using hc)
        rw [Nat.ble_eq_true_of_le (show l.length ≤ 100000 by omega), h2]; rfl
      · rfl))
def c30 : Ct := ct 30 [.v wallK, .b v3K, .b v3K] fun a => .br (e30 a.1 a.2.1 a.2.2.1 != 0) (.leaf (.tup [.val (.slice none 0 0), I 0, I (e30 a.1 a.2.1 a.2.2.1)])) (.leaf (.tup [.vec intK ((a.1 : List (Tup wallK)).map (depE a.2.1 a.2.2.1)), I (sumT ((a.1 : List (Tup wallK)).map (depE a.2.1 a.2.2.1))), I 0]))
theorem gd30 (h0 : Lib0 w0) : Gd (cfg w0) c30 := gd_sig fun a d hd => by
  have := fn30 h0 a.1 a.2.1 a.2.2.1
  simp only [FT.run] at hd
  cases hc : (e30 a.1 a.2.1 a.2.2.1 != 0) <;> rw [hc] at hd this <;> cases hd <;> exact this
end
end Go.Proofs.YtmlglimahbjgbaaGreatDoor

namespace Go.Town
open Go

/-! # Mirror images, in plain Lean -/
theorem low_eq {a b c d : Int} (hb : 0 < b) (hd : 0 < d) (h : a * d = c * b) : a.tdiv (Nat.gcd a.natAbs b.natAbs : Nat) = c.tdiv (Nat.gcd c.natAbs d.natAbs : Nat) ∧ b.tdiv (Nat.gcd a.natAbs b.natAbs : Nat) = d.tdiv (Nat.gcd c.natAbs d.natAbs : Nat) := by
  obtain ⟨b, rfl⟩ : ∃ n : Nat, b = n := ⟨b.toNat, by omega⟩
  obtain ⟨d, rfl⟩ : ∃ n : Nat, d = n := ⟨d.toNat, by omega⟩
  have hb' : b ≠ 0 := by omega
  have hd' : d ≠ 0 := by omega
  have e : mkRat a b = mkRat c d := (Rat.mkRat_eq_iff hb' hd').2 h
  rw [← Rat.normalize_eq_mkRat hb', ← Rat.normalize_eq_mkRat hd', Rat.normalize_eq, Rat.normalize_eq] at e
  have e1 := congrArg Rat.num e
  have e2 := congrArg Rat.den e
  simp only at e1 e2
  have k1 : ∀ (x : Int) (y : Nat), x.tdiv (Nat.gcd x.natAbs y : Nat) = x / (Nat.gcd x.natAbs y : Nat) := fun x y => Int.tdiv_eq_ediv_of_dvd (Int.dvd_natAbs.1 (Int.natCast_dvd_natCast.2 (Nat.gcd_dvd_left x.natAbs y)))
  have k2 : ∀ (x : Int) (y : Nat), (y : Int).tdiv (Nat.gcd x.natAbs y : Nat) = ((y / Nat.gcd x.natAbs y : Nat) : Int) := fun x y => by
    rw [Int.tdiv_eq_ediv_of_nonneg (by omega)]; rfl
  simp only [Int.natAbs_natCast, k1, k2]
  exact ⟨e1, by rw [e2]⟩

/-- What lowest terms keep. -/
theorem low_facts {a b : Int} (hb : 0 < b) : ∃ n d : Int, a.tdiv (Nat.gcd a.natAbs b.natAbs : Nat) = n ∧ b.tdiv (Nat.gcd a.natAbs b.natAbs : Nat) = d ∧ 0 < d ∧ d ≤ b ∧ n * b = a * d ∧ n.natAbs ≤ a.natAbs := by
  have hg : 0 < Nat.gcd a.natAbs b.natAbs := Nat.gcd_pos_of_pos_right _ (by omega)
  have d1 : ((Nat.gcd a.natAbs b.natAbs : Nat) : Int) ∣ a := Int.dvd_natAbs.1 (Int.natCast_dvd_natCast.2 (Nat.gcd_dvd_left a.natAbs b.natAbs))
  have d2 : ((Nat.gcd a.natAbs b.natAbs : Nat) : Int) ∣ b := Int.dvd_natAbs.1 (Int.natCast_dvd_natCast.2 (Nat.gcd_dvd_right a.natAbs b.natAbs))
  generalize Nat.gcd a.natAbs b.natAbs = g at *
  obtain ⟨n, rfl⟩ := d1
  obtain ⟨d, rfl⟩ := d2
  have hg' : (g : Int) ≠ 0 := by omega
  have hd : 0 < d := Int.pos_of_mul_pos_right hb (by omega)
  refine ⟨n, d, Int.mul_tdiv_cancel_left n hg', Int.mul_tdiv_cancel_left d hg', hd, ?_, by rw [Int.mul_left_comm, Int.mul_assoc], ?_⟩
  · have := Int.mul_le_mul_of_nonneg_right (show (1 : Int) ≤ g by omega) (show 0 ≤ d by omega)
    omega
  · rw [Int.natAbs_mul]
    exact Nat.le_mul_of_pos_left _ (by omega)

/-- The mirror image. -/
def ImC (ax ay bx by' px py ix iy : Int) : Prop :=
  (bx = ax ∧ by' ≠ ay ∧ ix = 2 * ax - px ∧ iy = py) ∨ (by' = ay ∧ bx ≠ ax ∧ ix = px ∧ iy = 2 * ay - py) ∨ (bx - ax = by' - ay ∧ bx ≠ ax ∧ ix = ax + py - ay ∧ iy = ay + px - ax) ∨
    (bx - ax = -(by' - ay) ∧ bx ≠ ax ∧ ix = ax - (py - ay) ∧ iy = ay - (px - ax))

def turnI (ax ay bx by' px py : Int) : Int := (bx - ax) * (py - ay) - (by' - ay) * (px - ax)

theorem ImC.turn {ax ay bx by' px py ix iy : Int} (h : ImC ax ay bx by' px py ix iy) : turnI ax ay bx by' ix iy = -turnI ax ay bx by' px py := by
  unfold turnI
  rcases h with ⟨rfl, _, rfl, rfl⟩ | ⟨rfl, _, rfl, rfl⟩ | ⟨h, _, rfl, rfl⟩ | ⟨h, _, rfl, rfl⟩
  · grind
  · grind
  · rw [h]; grind
  · rw [h]; grind

theorem ImC.back {ax ay bx by' px py ix iy jx jy : Int} (h : ImC ax ay bx by' px py ix iy) (h2 : ImC ax ay bx by' ix iy jx jy) : jx = px ∧ jy = py := by
  unfold ImC at h h2
  omega

theorem ImC.sqA {ax ay bx by' px py ix iy : Int} (h : ImC ax ay bx by' px py ix iy) : (ix - ax) * (ix - ax) + (iy - ay) * (iy - ay) = (px - ax) * (px - ax) + (py - ay) * (py - ay) := by
  rcases h with ⟨rfl, _, rfl, rfl⟩ | ⟨rfl, _, rfl, rfl⟩ | ⟨h, _, rfl, rfl⟩ | ⟨h, _, rfl, rfl⟩ <;> grind

theorem ImC.sqB {ax ay bx by' px py ix iy : Int} (h : ImC ax ay bx by' px py ix iy) : (ix - bx) * (ix - bx) + (iy - by') * (iy - by') = (px - bx) * (px - bx) + (py - by') * (py - by') := by
  rcases h with ⟨rfl, _, rfl, rfl⟩ | ⟨rfl, _, rfl, rfl⟩ | ⟨h, _, rfl, rfl⟩ | ⟨h, _, rfl, rfl⟩
  · grind
  · grind
  · have : bx = ax + (by' - ay) := by omega
    subst this; grind
  · have : bx = ax - (by' - ay) := by omega
    subst this; grind

theorem ImC.rng {ax ay bx by' px py ix iy : Int} (h : ImC ax ay bx by' px py ix iy) (a1 : -1000 ≤ ax ∧ ax ≤ 1000) (a2 : -1000 ≤ ay ∧ ay ≤ 1000) (p1 : -1000 ≤ px ∧ px ≤ 1000) (p2 : -1000 ≤ py ∧ py ≤ 1000) : (-3000 ≤ ix ∧ ix ≤ 3000) ∧ (-3000 ≤ iy ∧ iy ≤ 3000) := by
  unfold ImC at h
  omega

/-- The place lies on the wall's line. -/
theorem on_wall {ax ay bx by' sx sy rx ry ix iy p q : Int} (h : turnI ax ay bx by' ix iy = -turnI ax ay bx by' sx sy) (hp : (p = turnI ax ay bx by' sx sy ∧ q = turnI ax ay bx by' rx ry) ∨ (p = -turnI ax ay bx by' sx sy ∧ q = -turnI ax ay bx by' rx ry)) :
    (bx - ax) * (q * iy + p * ry - ay * (p + q)) = (by' - ay) * (q * ix + p * rx - ax * (p + q)) := by
  have e : (bx - ax) * (q * iy + p * ry - ay * (p + q)) - (by' - ay) * (q * ix + p * rx - ax * (p + q)) = q * turnI ax ay bx by' ix iy + p * turnI ax ay bx by' rx ry := by
    unfold turnI; grind
  rw [h] at e
  rcases hp with ⟨h1, h2⟩ | ⟨h1, h2⟩
  · rw [← h1, ← h2] at e
    have : q * -p + p * q = 0 := by grind
    omega
  · have h3 : turnI ax ay bx by' sx sy = -p := by omega
    have h4 : turnI ax ay bx by' rx ry = -q := by omega
    rw [h3, h4] at e
    have : q * - -p + p * -q = 0 := by grind
    omega

theorem on_line {ix iy rx ry p q : Int} : (rx - ix) * (q * iy + p * ry - iy * (p + q)) = (ry - iy) * (q * ix + p * rx - ix * (p + q)) := by grind

/-- Two numbers over their own denominators agree. -/
theorem on_eq {u v X Y den xn xd yn yd ux uy : Int} (hd : 0 < den) (hx : xn * den = X * xd) (hy : yn * den = Y * yd) (h : u * (Y - uy * den) = v * (X - ux * den)) : u * (yn - uy * yd) * xd = v * (xn - ux * xd) * yd := by
  have e1 : den * (u * (yn - uy * yd) * xd) = u * (Y - uy * den) * (yd * xd) := by
    have : den * (u * (yn - uy * yd) * xd) = u * (yn * den - uy * yd * den) * xd := by grind
    rw [this, hy]; grind
  have e2 : den * (v * (xn - ux * xd) * yd) = v * (X - ux * den) * (yd * xd) := by
    have : den * (v * (xn - ux * xd) * yd) = v * (xn * den - ux * xd * den) * yd := by grind
    rw [this, hx]; grind
  rw [h] at e1
  exact Int.eq_of_mul_eq_mul_left (by omega) (e1.trans e2.symm)
end Go.Town

namespace Go.Town
open Go

theorem rngW {n : Int} (h : -4611686018427387904 ≤ n ∧ n ≤ 4611686018427387904) : W n = n := W_in (by omega) (by omega)

theorem abs_in {n : Int} (h : -4611686018427387904 ≤ n ∧ n ≤ 4611686018427387904) : absZ n = (n.natAbs : Nat) := by
  unfold absZ
  rw [W_in (by omega) (by omega)]
  split <;> omega

theorem size_in {P : Int} (h : -4611686018427387904 ≤ P ∧ P ≤ 4611686018427387904) : W (sgnZ P * P) = absZ P := by
  rw [abs_in h]
  unfold sgnZ
  by_cases h1 : 0 < P
  · simp only [h1, decide_true, cond_true, Int.one_mul]
    rw [W_in (by omega) (by omega)]; omega
  · by_cases h2 : P < 0
    · simp only [h1, h2, decide_true, decide_false, cond_true, cond_false]
      rw [W_in (by omega) (by omega)]; omega
    · have : P = 0 := by omega
      subst this; rfl

/-- Products of what is not below 0. -/
theorem mulb {a b : Int} (A B : Int) (h1 : 0 ≤ a) (h2 : a ≤ A) (h3 : 0 ≤ b) (h4 : b ≤ B) : 0 ≤ a * b ∧ a * b ≤ A * B :=
  ⟨Int.mul_nonneg h1 h3, Int.mul_le_mul h2 h4 h3 (by omega)⟩

theorem xcut {P Q h sz tz den : Int} (hp : -8000000 ≤ P ∧ P ≤ 8000000) (hq : -200000000000000 ≤ Q ∧ Q ≤ 200000000000000) (hd : 0 ≤ den ∧ den ≤ 16000000) (hh : 1 ≤ h ∧ h ≤ 1000) (hs : 0 ≤ sz ∧ sz ≤ 1000) (ht : 0 ≤ tz ∧ tz ≤ 16000000000) :
    decide (W (W (W (sgnZ Q * Q) * sz) + W (W (sgnZ P * P) * tz)) < W (h * W (W (W (sgnZ P * P) * den) + W (sgnZ Q * Q)))) = decide (numZ P Q h sz tz den > 0) := by
  unfold numZ denZ
  rw [size_in (P := P) (by omega), size_in (P := Q) (by omega)]
  rw [abs_in (n := P) (by omega), abs_in (n := Q) (by omega)]
  have p1 : (0 : Int) ≤ (P.natAbs : Nat) ∧ ((P.natAbs : Nat) : Int) ≤ 8000000 := by omega
  have q1 : (0 : Int) ≤ (Q.natAbs : Nat) ∧ ((Q.natAbs : Nat) : Int) ≤ 200000000000000 := by omega
  generalize ((P.natAbs : Nat) : Int) = p at *
  generalize ((Q.natAbs : Nat) : Int) = q at *
  have m1 := mulb 8000000 16000000 p1.1 p1.2 hd.1 hd.2
  have m2 := mulb 200000000000000 1000 q1.1 q1.2 hs.1 hs.2
  have m3 := mulb 8000000 16000000000 p1.1 p1.2 ht.1 ht.2
  rw [rngW (n := p * den) (by omega), rngW (n := p * den + q) (by omega), rngW (n := q * sz) (by omega), rngW (n := p * tz) (by omega), rngW (n := q * sz + p * tz) (by omega)]
  have m4 := mulb (a := h) (b := p * den + q) 1000 330000000000000 (by omega) (by omega) (by omega) (by omega)
  rw [rngW (n := h * (p * den + q)) (by omega), rngW (n := h * (p * den + q) - q * sz) (by omega), rngW (n := h * (p * den + q) - q * sz - p * tz) (by omega)]
  apply decide_eq_decide.2
  omega
end Go.Town

namespace Go.Town
open Go

def evI (ax ay bx by' : Int) : Bool := (absZ (W (bx - ax)) == absZ (W (by' - ay))) || ((absZ (W (bx - ax)) == 0) || (absZ (W (by' - ay)) == 0))
def imgX (ax ay bx by' px py : Int) : Int := bif W (bx - ax) == 0 then W (W (2 * ax) - px) else bif W (by' - ay) == 0 then px else bif W (bx - ax) == W (by' - ay) then W (W (ax + py) - ay) else W (ax - W (py - ay))
def imgY (ax ay bx by' px py : Int) : Int := bif W (bx - ax) == 0 then py else bif W (by' - ay) == 0 then W (W (2 * ay) - py) else bif W (bx - ax) == W (by' - ay) then W (W (ay + px) - ax) else W (ay - W (px - ax))

theorem img_ok {ax ay bx by' px py : Int} (a1 : -1000 ≤ ax ∧ ax ≤ 1000) (a2 : -1000 ≤ ay ∧ ay ≤ 1000) (b1 : -1000 ≤ bx ∧ bx ≤ 1000) (b2 : -1000 ≤ by' ∧ by' ≤ 1000) (p1 : -1000 ≤ px ∧ px ≤ 1000) (p2 : -1000 ≤ py ∧ py ≤ 1000)
    (hne : ¬ (ax = bx ∧ ay = by')) (he : evI ax ay bx by' = true) : ImC ax ay bx by' px py (imgX ax ay bx by' px py) (imgY ax ay bx by' px py) := by
  unfold evI at he
  simp only [Bool.or_eq_true, beq_iff_eq] at he
  rw [abs_in (n := W (bx - ax)) (by rw [W_in] <;> omega), abs_in (n := W (by' - ay)) (by rw [W_in] <;> omega), W_in (n := bx - ax) (by omega) (by omega), W_in (n := by' - ay) (by omega) (by omega)] at he
  unfold imgX imgY ImC
  rw [W_in (n := bx - ax) (by omega) (by omega), W_in (n := by' - ay) (by omega) (by omega), W_in (n := 2 * ax) (by omega) (by omega), W_in (n := 2 * ax - px) (by omega) (by omega), W_in (n := 2 * ay) (by omega) (by omega), W_in (n := 2 * ay - py) (by omega) (by omega),
    W_in (n := ax + py) (by omega) (by omega), W_in (n := ax + py - ay) (by omega) (by omega), W_in (n := ay + px) (by omega) (by omega), W_in (n := ay + px - ax) (by omega) (by omega), W_in (n := py - ay) (by omega) (by omega), W_in (n := px - ax) (by omega) (by omega), W_in (n := ax - (py - ay)) (by omega) (by omega), W_in (n := ay - (px - ax)) (by omega) (by omega)]
  by_cases h1 : bx - ax = 0
  · rw [show (bx - ax == 0) = true by simpa using h1]; exact .inl ⟨by omega, by omega, rfl, rfl⟩
  · rw [show (bx - ax == 0) = false by simpa using h1]
    by_cases h2 : by' - ay = 0
    · rw [show (by' - ay == 0) = true by simpa using h2]; exact .inr (.inl ⟨by omega, by omega, rfl, rfl⟩)
    · rw [show (by' - ay == 0) = false by simpa using h2]
      by_cases h3 : bx - ax = by' - ay
      · rw [show (bx - ax == by' - ay) = true by simpa using h3]; exact .inr (.inr (.inl ⟨h3, by omega, rfl, rfl⟩))
      · rw [show (bx - ax == by' - ay) = false by simpa using h3]; exact .inr (.inr (.inr ⟨by omega, by omega, rfl, rfl⟩))

theorem place_in {p q a b : Int} (hp : 0 ≤ p ∧ p ≤ 8000000) (hq : 0 ≤ q ∧ q ≤ 8000000) (ha : -3000 ≤ a ∧ a ≤ 3000) (hb : -1000 ≤ b ∧ b ≤ 1000) :
    W (W (q * a) + W (p * b)) = q * a + p * b ∧ -32000000000 ≤ q * a + p * b ∧ q * a + p * b ≤ 32000000000 := by
  have m1 := mul_bound (a := q) (b := a) (A := 8000000) (B := 3000) (by omega) (by omega) (by omega) (by omega)
  have m2 := mul_bound (a := p) (b := b) (A := 8000000) (B := 1000) (by omega) (by omega) (by omega) (by omega)
  rw [rngW (n := q * a) (by omega), rngW (n := p * b) (by omega), rngW (n := q * a + p * b) (by omega)]
  omega

theorem place_z {p q a b : Int} (hp : 0 ≤ p ∧ p ≤ 8000000) (hq : 0 ≤ q ∧ q ≤ 8000000) (ha : 0 ≤ a ∧ a ≤ 1000) (hb : 0 ≤ b ∧ b ≤ 1000) :
    W (W (q * a) + W (p * b)) = q * a + p * b ∧ 0 ≤ q * a + p * b ∧ q * a + p * b ≤ 16000000000 := by
  have m1 := mulb 8000000 1000 hq.1 hq.2 ha.1 ha.2
  have m2 := mulb 8000000 1000 hp.1 hp.2 hb.1 hb.2
  rw [rngW (n := q * a) (by omega), rngW (n := p * b) (by omega), rngW (n := q * a + p * b) (by omega)]
  omega

/-- The side of a place is small enough. -/
theorem side_big {ax ay bx by' X Y den : Int} (a1 : -1000 ≤ ax ∧ ax ≤ 1000) (a2 : -1000 ≤ ay ∧ ay ≤ 1000) (b1 : -1000 ≤ bx ∧ bx ≤ 1000) (b2 : -1000 ≤ by' ∧ by' ≤ 1000) (hX : -32000000000 ≤ X ∧ X ≤ 32000000000) (hY : -32000000000 ≤ Y ∧ Y ≤ 32000000000) (hd : 0 ≤ den ∧ den ≤ 16000000) :
    -200000000000000 ≤ sideZ ax ay bx by' X Y den ∧ sideZ ax ay bx by' X Y den ≤ 200000000000000 := by
  have m1 := mul_bound (a := ay) (b := den) (A := 1000) (B := 16000000) (by omega) (by omega) (by omega) (by omega)
  have m2 := mul_bound (a := ax) (b := den) (A := 1000) (B := 16000000) (by omega) (by omega) (by omega) (by omega)
  unfold sideZ
  rw [rngW (n := ay * den) (by omega), rngW (n := ax * den) (by omega)]
  generalize ay * den = u at *
  generalize ax * den = v at *
  rw [rngW (n := bx - ax) (by omega), rngW (n := Y - u) (by omega), rngW (n := by' - ay) (by omega), rngW (n := X - v) (by omega)]
  have m3 := mul_bound (a := bx - ax) (b := Y - u) (A := 2000) (B := 48000000000) (by omega) (by omega) (by omega) (by omega)
  have m4 := mul_bound (a := by' - ay) (b := X - v) (A := 2000) (B := 48000000000) (by omega) (by omega) (by omega) (by omega)
  rw [rngW (n := (bx - ax) * (Y - u)) (by omega), rngW (n := (by' - ay) * (X - v)) (by omega), rngW (by omega)]
  omega
end Go.Town

namespace Go.Town
open Go

/-! # Numbers of the law of images -/

theorem side_img {ax ay bx by' px py : Int} (a1 : -1000 ≤ ax ∧ ax ≤ 1000) (a2 : -1000 ≤ ay ∧ ay ≤ 1000) (b1 : -1000 ≤ bx ∧ bx ≤ 1000) (b2 : -1000 ≤ by' ∧ by' ≤ 1000) (p1 : -3000 ≤ px ∧ px ≤ 3000) (p2 : -3000 ≤ py ∧ py ≤ 3000) : sideZ ax ay bx by' px py 1 = turnI ax ay bx by' px py := by
  unfold sideZ turnI
  rw [Int.mul_one, Int.mul_one, rngW (n := ay) (by omega), rngW (n := ax) (by omega), rngW (n := bx - ax) (by omega), rngW (n := py - ay) (by omega), rngW (n := by' - ay) (by omega), rngW (n := px - ax) (by omega)]
  have m1 := mul_bound (a := bx - ax) (b := py - ay) (A := 2000) (B := 4000) (by omega) (by omega) (by omega) (by omega)
  have m2 := mul_bound (a := by' - ay) (b := px - ax) (A := 2000) (B := 4000) (by omega) (by omega) (by omega) (by omega)
  rw [rngW (n := (bx - ax) * (py - ay)) (by omega), rngW (n := (by' - ay) * (px - ax)) (by omega), rngW (by omega)]

theorem sgn_opp (n : Int) : sgnZ (-n) = -sgnZ n := by
  unfold sgnZ
  rcases Int.lt_trichotomy n 0 with h | h | h
  · have h1 : ¬ 0 < n := by omega
    have h2 : 0 < -n := by omega
    simp [h, h1]
  · subst h; rfl
  · have h1 : ¬ n < 0 := by omega
    have h2 : ¬ 0 < -n := by omega
    simp [h, h1]

theorem sgn_wrap (n : Int) : W (0 - sgnZ n) = -sgnZ n := by
  unfold sgnZ
  cases decide (0 < n) <;> cases decide (n < 0) <;> rfl

theorem sq_img {a b c d e f : Int} (h1 : -3000 ≤ a ∧ a ≤ 3000) (h2 : -3000 ≤ b ∧ b ≤ 3000) (h3 : 0 ≤ c ∧ c ≤ 1000) (h4 : -1000 ≤ d ∧ d ≤ 1000) (h5 : -1000 ≤ e ∧ e ≤ 1000) (h6 : 0 ≤ f ∧ f ≤ 1000) :
    W (W (W (W (a - d) * W (a - d)) + W (W (b - e) * W (b - e))) + W (W (c - f) * W (c - f))) = (a - d) * (a - d) + (b - e) * (b - e) + (c - f) * (c - f) := by
  have m1 := mul_bound (a := a - d) (b := a - d) (A := 4000) (B := 4000) (by omega) (by omega) (by omega) (by omega)
  have m2 := mul_bound (a := b - e) (b := b - e) (A := 4000) (B := 4000) (by omega) (by omega) (by omega) (by omega)
  have m3 := mul_bound (a := c - f) (b := c - f) (A := 4000) (B := 4000) (by omega) (by omega) (by omega) (by omega)
  rw [rngW (n := a - d) (by omega), rngW (n := b - e) (by omega), rngW (n := c - f) (by omega)]
  generalize (a - d) * (a - d) = u at *
  generalize (b - e) * (b - e) = v at *
  generalize (c - f) * (c - f) = x at *
  rw [rngW (n := u) (by omega), rngW (n := v) (by omega), rngW (n := x) (by omega), rngW (n := u + v) (by omega), rngW (n := u + v + x) (by omega)]

/-- What the law looks at on a line is small. -/
theorem on_in {u v n c d : Int} (hu : -3000 ≤ u ∧ u ≤ 3000) (hv : -1000 ≤ v ∧ v ≤ 1000) (hn : -32000000000 ≤ n ∧ n ≤ 32000000000) (hc : -3000 ≤ c ∧ c ≤ 3000) (hd : 0 ≤ d ∧ d ≤ 16000000) :
    IntKind.i64.wrap (IntKind.i64.wrap (v - u) * IntKind.i64.wrap (n - IntKind.i64.wrap (c * d))) = (v - u) * (n - c * d) ∧ -400000000000000 ≤ (v - u) * (n - c * d) ∧ (v - u) * (n - c * d) ≤ 400000000000000 := by
  have m1 := mul_bound (a := c) (b := d) (A := 3000) (B := 16000000) (by omega) (by omega) (by omega) (by omega)
  show W (W (v - u) * W (n - W (c * d))) = _ ∧ _
  rw [rngW (n := c * d) (by omega), rngW (n := v - u) (by omega), rngW (n := n - c * d) (by omega)]
  have m2 := mul_bound (a := v - u) (b := n - c * d) (A := 4000) (B := 80000000000) (by omega) (by omega) (by omega) (by omega)
  rw [rngW (n := (v - u) * (n - c * d)) (by omega)]
  omega

/-- Both signs agree, with sizes. -/
theorem same_sign {P Q : Int} (_ : P ≠ 0) (_ : Q ≠ 0) (h : (decide (P > 0) != decide (Q > 0)) = false) : (((P.natAbs : Nat) : Int) = P ∧ ((Q.natAbs : Nat) : Int) = Q) ∨ (((P.natAbs : Nat) : Int) = -P ∧ ((Q.natAbs : Nat) : Int) = -Q) := by
  by_cases h1 : P > 0
  · by_cases h2 : Q > 0
    · left; omega
    · rw [decide_eq_true h1, decide_eq_false h2] at h; cases h
  · by_cases h2 : Q > 0
    · rw [decide_eq_false h1, decide_eq_true h2] at h; cases h
    · right; omega

theorem sgn_same {P Q : Int} (hP : P ≠ 0) (hQ : Q ≠ 0) (h : (decide (P > 0) != decide (Q > 0)) = false) : sgnZ P ≠ 0 ∧ sgnZ P = sgnZ Q := by
  unfold sgnZ
  by_cases h1 : P > 0
  · by_cases h2 : Q > 0
    · have g1 : 0 < P := h1
      have g2 : 0 < Q := h2
      simp [g1, g2]
    · rw [decide_eq_true h1, decide_eq_false h2] at h; cases h
  · by_cases h2 : Q > 0
    · rw [decide_eq_false h1, decide_eq_true h2] at h; cases h
    · have g1 : ¬ 0 < P := h1
      have g2 : ¬ 0 < Q := h2
      have g3 : P < 0 := by omega
      have g4 : Q < 0 := by omega
      simp [g1, g2, g3, g4]

/-- A fraction that is below a number. -/
theorem low_lt {n d Z den h : Int} (hden : 0 < den) (hd : 0 < d) (he : n * den = Z * d) (hz : Z < h * den) : n < h * d := by
  have h1 : Z * d < h * den * d := Int.mul_lt_mul_of_pos_right hz hd
  rw [← he] at h1
  have h2 : h * den * d = h * d * den := by rw [Int.mul_assoc, Int.mul_comm den d, ← Int.mul_assoc]
  rw [h2] at h1
  exact Int.lt_of_mul_lt_mul_right h1 (by omega)
end Go.Town

namespace Go.Proofs.YtmlglimahbjgbaaGreatDoor
open Go Go.Am Go.Town
set_option maxRecDepth 100000
variable {w0 : World}
noncomputable section

/-! # Even walls, and their images -/

noncomputable def wD (w : Tup wallK) : D := .agg [Str w.1, I w.2.1, I w.2.2.1, I w.2.2.2.1, I w.2.2.2.2.1, I w.2.2.2.2.2.1, I w.2.2.2.2.2.2.1]
noncomputable def aX (w : Tup wallK) : Int := w.2.1
noncomputable def aY (w : Tup wallK) : Int := w.2.2.1
noncomputable def bX (w : Tup wallK) : Int := w.2.2.2.1
noncomputable def bY (w : Tup wallK) : Int := w.2.2.2.2.1
noncomputable def hW (w : Tup wallK) : Int := w.2.2.2.2.2.1
noncomputable def pX (s : Tup v3K) : Int := s.1
noncomputable def pY (s : Tup v3K) : Int := s.2.1
noncomputable def pZ (s : Tup v3K) : Int := s.2.2.1
noncomputable def t3 (a b c : Int) : Tup v3K := (a, b, c, ())
noncomputable def evW (w : Tup wallK) : Bool := evI (aX w) (aY w) (bX w) (bY w)
noncomputable def imW (w : Tup wallK) (s : Tup v3K) : Tup v3K := t3 (imgX (aX w) (aY w) (bX w) (bY w) (pX s) (pY s)) (imgY (aX w) (aY w) (bX w) (bY w) (pX s) (pY s)) (pZ s)
noncomputable def wX (w : Tup wallK) : Int := W (bX w - aX w)
noncomputable def wY (w : Tup wallK) : Int := W (bY w - aY w)
noncomputable def aXe (w : Tup wallK) : Bool := absZ (wX w) == absZ (wY w)
noncomputable def aX0 (w : Tup wallK) : Bool := absZ (wX w) == 0
noncomputable def aY0 (w : Tup wallK) : Bool := absZ (wY w) == 0

theorem fn128 (h0 : Lib0 w0) (w : Tup wallK) : FnD (cfg w0) 128 [wD w] (Bo (evW w)) :=
  fnD_k (cfg_ok w0) h0 (cs := []) trivial (fd := fnOf Tryz.f128) rfl (n := 40) ((show bodyK ((cfg w0).at []) 40 (fnOf Tryz.f128) [wD w] =
    bif aXe w then some (Bo true) else bif aX0 w then some (Bo true) else some (Bo (aY0 w)) by kernel_rfl).trans (by
      show _ = some (Bo (aXe w || (aX0 w || aY0 w)))
      cases aXe w <;> cases aX0 w <;> rfl))
noncomputable def c128 : Ct := ct 128 [.b wallK] fun a => .leaf (Bo (evW a.1))
theorem gd128 (h0 : Lib0 w0) : Gd (cfg w0) c128 := gd_sig fun a d hd => by cases hd; exact fn128 h0 a.1

noncomputable def rX (w : Tup wallK) : Int := W (sgnZ (wX w) * wX w)
noncomputable def rY (w : Tup wallK) : Int := W (sgnZ (wY w) * wY w)
noncomputable def rX0 (w : Tup wallK) : Bool := rX w == 0
noncomputable def rY0 (w : Tup wallK) : Bool := rY w == 0
noncomputable def rXe (w : Tup wallK) : Bool := rX w == rY w
noncomputable def cs55 : List Ct := [⟨110, tG (intsF sgnK)⟩]

theorem fn55 (h0 : Lib0 w0) (w : Tup wallK) (hw : wChk w = 0) : FnD (cfg w0) 55 [wD w] (Bo (evW w)) :=
  fnD_k (cfg_ok w0) h0 (cs := cs55) ⟨gd_of (sgn_good h0), trivial⟩ (fd := fnOf Tryz.f55) rfl (n := 40) ((show bodyK ((cfg w0).at cs55) 40 (fnOf Tryz.f55) [wD w] =
    bif rX0 w then some (Bo true) else bif rY0 w then some (Bo true) else some (Bo (rXe w)) by kernel_rfl).trans (by
      unfold wChk chkWall at hw
      rw [firstZ_nil] at hw
      have a1 : -1000 ≤ aX w ∧ aX w ≤ 1000 := withinZ_nil.1 (hw (withinZ w.2.1 (-1000) 1000) (by simp))
      have a2 : -1000 ≤ aY w ∧ aY w ≤ 1000 := withinZ_nil.1 (hw (withinZ w.2.2.1 (-1000) 1000) (by simp))
      have b1 : -1000 ≤ bX w ∧ bX w ≤ 1000 := withinZ_nil.1 (hw (withinZ w.2.2.2.1 (-1000) 1000) (by simp))
      have b2 : -1000 ≤ bY w ∧ bY w ≤ 1000 := withinZ_nil.1 (hw (withinZ w.2.2.2.2.1 (-1000) 1000) (by simp))
      have ex : wX w = bX w - aX w := W_in (by omega) (by omega)
      have ey : wY w = bY w - aY w := W_in (by omega) (by omega)
      have e1 : rX w = absZ (wX w) := size_in (by rw [ex]; omega)
      have e2 : rY w = absZ (wY w) := size_in (by rw [ey]; omega)
      have f1 : rX0 w = aX0 w := by unfold rX0 aX0; rw [e1]
      have f2 : rY0 w = aY0 w := by unfold rY0 aY0; rw [e2]
      have f3 : rXe w = aXe w := by unfold rXe aXe; rw [e1, e2]
      rw [f1, f2, f3]
      show _ = some (Bo (aXe w || (aX0 w || aY0 w)))
      cases aXe w <;> cases aX0 w <;> cases aY0 w <;> rfl))
noncomputable def c55 : Ct := ct 55 [.b wallK] fun a => .br (wChk a.1 == 0) (.leaf (Bo (evW a.1))) .bad
theorem gd55 (h0 : Lib0 w0) : Gd (cfg w0) c55 := gd_sig fun a d hd => by
  obtain ⟨hg, hd⟩ := br_run hd
  cases hd
  exact fn55 h0 a.1 (by simpa using hg)

noncomputable def x0 (w : Tup wallK) : Bool := wX w == 0
noncomputable def y0 (w : Tup wallK) : Bool := wY w == 0
noncomputable def xy (w : Tup wallK) : Bool := wX w == wY w
noncomputable def i1W (w : Tup wallK) (s : Tup v3K) : Tup v3K := t3 (W (W (2 * aX w) - pX s)) (pY s) (pZ s)
noncomputable def i2W (w : Tup wallK) (s : Tup v3K) : Tup v3K := t3 (pX s) (W (W (2 * aY w) - pY s)) (pZ s)
noncomputable def i3W (w : Tup wallK) (s : Tup v3K) : Tup v3K := t3 (W (W (aX w + pY s) - aY w)) (W (W (aY w + pX s) - aX w)) (pZ s)
noncomputable def i4W (w : Tup wallK) (s : Tup v3K) : Tup v3K := t3 (W (aX w - W (pY s - aY w))) (W (aY w - W (pX s - aX w))) (pZ s)
theorem imW_eq (w : Tup wallK) (s : Tup v3K) : imW w s = bif x0 w then i1W w s else bif y0 w then i2W w s else bif xy w then i3W w s else i4W w s := by
  show t3 (bif x0 w then _ else bif y0 w then _ else bif xy w then _ else _) (bif x0 w then _ else bif y0 w then _ else bif xy w then _ else _) (pZ s) = _
  cases x0 w <;> cases y0 w <;> cases xy w <;> rfl

theorem fn129 (h0 : Lib0 w0) (w : Tup wallK) (s : Tup v3K) : FnD (cfg w0) 129 [wD w, vec3 s] (vec3 (imW w s)) :=
  fnD_k (cfg_ok w0) h0 (cs := []) trivial (fd := fnOf Tryz.f129) rfl (n := 40) ((show bodyK ((cfg w0).at []) 40 (fnOf Tryz.f129) [wD w, vec3 s] =
    bif x0 w then some (vec3 (i1W w s)) else bif y0 w then some (vec3 (i2W w s)) else bif xy w then some (vec3 (i3W w s)) else some (vec3 (i4W w s)) by kernel_rfl).trans (by
      rw [imW_eq]
      cases x0 w <;> cases y0 w <;> cases xy w <;> rfl))
noncomputable def c129 : Ct := ct 129 [.b wallK, .b v3K] fun a => .leaf (vec3 (imW a.1 a.2.1))
theorem gd129 (h0 : Lib0 w0) : Gd (cfg w0) c129 := gd_sig fun a d hd => by cases hd; exact fn129 h0 a.1 a.2.1

/-! ## Image -/

noncomputable def cs51 : List Ct := [⟨99, tG checkWallF⟩, ⟨104, tG checkSpotF⟩, ⟨119, tG whenF⟩, ⟨98, tG firstF⟩, c128, c129]
theorem cs51_gd (h0 : Lib0 w0) : Gds (cfg w0) cs51 := ⟨gd_of (check_good (name_good h0) h0), gd_of (checkSpot_good h0), gd_of (when_good h0), gd_of (first_good h0), gd128 h0, gd129 h0, trivial⟩
noncomputable def imE (w : Tup wallK) (s : Tup v3K) : Int := firstZ [wChk w, pChk s, whenZ (!evW w) 21]
noncomputable def z3 : Tup v3K := ((0 : Int), (0 : Int), (0 : Int), ())
noncomputable def or3 (e : Int) (s : Tup v3K) : Tup v3K := bif e != 0 then z3 else s

theorem fn51 (h0 : Lib0 w0) (w : Tup wallK) (s : Tup v3K) : FnD (cfg w0) 51 [wD w, vec3 s] (.tup [vec3 (or3 (imE w s) (imW w s)), I (imE w s)]) :=
  fnD_k (cfg_ok w0) h0 (cs51_gd h0) (fd := fnOf Tryz.f51) rfl (n := 60) ((show bodyK ((cfg w0).at cs51) 60 (fnOf Tryz.f51) [wD w, vec3 s] =
    bif imE w s != 0 then some (.tup [vec3 z3, I (imE w s)]) else some (.tup [vec3 (imW w s), I 0]) by kernel_rfl).trans (by
      unfold or3
      cases hc : (imE w s != 0)
      · rw [show imE w s = 0 by simpa using hc]; rfl
      · rfl))
noncomputable def c51 : Ct := ct 51 [.b wallK, .b v3K] fun a => .br (imE a.1 a.2.1 == 0) (.leaf (.tup [vec3 (imW a.1 a.2.1), I 0])) .bad
theorem gd51 (h0 : Lib0 w0) : Gd (cfg w0) c51 := gd_sig fun a d hd => by
  obtain ⟨hg, hd⟩ := br_run hd
  cases hd
  have he : imE a.1 a.2.1 = 0 := by simpa using hg
  have := fn51 h0 a.1 a.2.1
  rw [he] at this
  exact this

/-! ## Compare -/

noncomputable def rN (a : Tup [ik, ik]) : Int := a.1
noncomputable def rD (a : Tup [ik, ik]) : Int := a.2.1
noncomputable def ltC (a b : Tup [ik, ik]) : Bool := decide (W (rN a * rD b) < W (rN b * rD a))
noncomputable def gtC (a b : Tup [ik, ik]) : Bool := decide (W (rN a * rD b) > W (rN b * rD a))
noncomputable def rcmpZ (a b : Tup [ik, ik]) : Int := bif ltC a b then -1 else bif gtC a b then 1 else 0
noncomputable def pr' (a : Tup [ik, ik]) : D := .agg [I a.1, I a.2.1]
theorem fn85 (h0 : Lib0 w0) (a b : Tup [ik, ik]) : FnD (cfg w0) 85 [pr' a, pr' b] (I (rcmpZ a b)) :=
  fnD_k (cfg_ok w0) h0 (cs := []) trivial (fd := fnOf Tryz.f85) rfl (n := 40) ((show bodyK ((cfg w0).at []) 40 (fnOf Tryz.f85) [pr' a, pr' b] =
    bif ltC a b then some (I (-1)) else bif gtC a b then some (I 1) else some (I 0) by kernel_rfl).trans (by
      unfold rcmpZ
      cases ltC a b <;> cases gtC a b <;> rfl))
noncomputable def c85 : Ct := ct 85 [.b [ik, ik], .b [ik, ik]] fun a => .leaf (I (rcmpZ a.1 a.2.1))
theorem gd85 (h0 : Lib0 w0) : Gd (cfg w0) c85 := gd_sig fun a d hd => by cases hd; exact fn85 h0 a.1 a.2.1
end
end Go.Proofs.YtmlglimahbjgbaaGreatDoor

namespace Go.Proofs.YtmlglimahbjgbaaGreatDoor
open Go Go.Am Go.Town
set_option maxRecDepth 100000
variable {w0 : World}
noncomputable section

/-! # A wall that reflects -/

abbrev plK : List Kd := [ik, ik, ik, ik]
abbrev mirK : List Kd := [ik, ik, ik, ik, ik, ik, ik, ik, ik, ik, ik]
noncomputable def lX (p : Tup plK) : Int := p.1
noncomputable def lY (p : Tup plK) : Int := p.2.1
noncomputable def lZ (p : Tup plK) : Int := p.2.2.1
noncomputable def lD (p : Tup plK) : Int := p.2.2.2.1
noncomputable def t4 (X Y Z den : Int) : Tup plK := (X, Y, Z, den, ())
noncomputable def o4 (p : Tup plK) : D := .obox [I p.1, I p.2.1, I p.2.2.1, I p.2.2.2.1]
noncomputable def zM : List D := [I 0, I 0, I 0, I 0, I 0, I 0, I 0, I 0, I 0, I 0, I 0]
noncomputable def t11 (a b c d e f g h i j k : Int) : Tup mirK := (a, b, c, d, e, f, g, h, i, j, k, ())
noncomputable def mD (m : Tup mirK) : D := .agg [I m.1, I m.2.1, I m.2.2.1, I m.2.2.2.1, I m.2.2.2.2.1, I m.2.2.2.2.2.1, I m.2.2.2.2.2.2.1, I m.2.2.2.2.2.2.2.1, I m.2.2.2.2.2.2.2.2.1, I m.2.2.2.2.2.2.2.2.2.1, I m.2.2.2.2.2.2.2.2.2.2.1]

noncomputable def sdW (w : Tup wallK) (s : Tup v3K) : Int := sideZ (aX w) (aY w) (bX w) (bY w) (pX s) (pY s) 1
noncomputable def bsA (i r : Tup v3K) (w : Tup wallK) : Int := besideZ (pX i) (pY i) (pX r) (pY r) 1 (aX w) (aY w)
noncomputable def bsB (i r : Tup v3K) (w : Tup wallK) : Int := besideZ (pX i) (pY i) (pX r) (pY r) 1 (bX w) (bY w)
noncomputable def plW (w : Tup wallK) (s r : Tup v3K) : Tup plK :=
  t4 (W (W (absZ (sdW w r) * pX (imW w s)) + W (absZ (sdW w s) * pX r))) (W (W (absZ (sdW w r) * pY (imW w s)) + W (absZ (sdW w s) * pY r))) (W (W (absZ (sdW w r) * pZ s) + W (absZ (sdW w s) * pZ r))) (W (absZ (sdW w s) + absZ (sdW w r)))
noncomputable def exW (o : Tup wallK) (s : Tup v3K) (p : Tup plK) : Bool :=
  meetsZ (sdW o s) (sideZ (aX o) (aY o) (bX o) (bY o) (lX p) (lY p) (lD p)) (besideZ (pX s) (pY s) (lX p) (lY p) (lD p) (aX o) (aY o)) (besideZ (pX s) (pY s) (lX p) (lY p) (lD p) (bX o) (bY o)) &&
    decide (numZ (sdW o s) (sideZ (aX o) (aY o) (bX o) (bY o) (lX p) (lY p) (lD p)) (hW o) (pZ s) (lZ p) (lD p) > 0)
noncomputable def lnZ (a b : Int) : Int := a.tdiv (gcdZ a b)
noncomputable def ldZ (a b : Int) : Int := b.tdiv (gcdZ a b)
noncomputable def sqW (a b : Tup v3K) : Int := sqZ (pX a) (pY a) (pZ a) (pX b) (pY b) (pZ b)
noncomputable def mirW (w : Tup wallK) (k : Int) (s r : Tup v3K) : Tup mirK :=
  t11 k (pX (imW w s)) (pY (imW w s)) (pZ (imW w s)) (lnZ (lX (plW w s r)) (lD (plW w s r))) (ldZ (lX (plW w s r)) (lD (plW w s r))) (lnZ (lY (plW w s r)) (lD (plW w s r))) (ldZ (lY (plW w s r)) (lD (plW w s r)))
    (lnZ (lZ (plW w s r)) (lD (plW w s r))) (ldZ (lZ (plW w s r)) (lD (plW w s r))) (sqW (imW w s) r)

noncomputable def cs130 : List Ct := [⟨105, tG excessF⟩, c129, ⟨106, tG lowF⟩, ⟨167, tG sqrF⟩]
theorem cs130_gd (h0 : Lib0 w0) : Gds (cfg w0) cs130 := ⟨gd_of (excess_good h0), gd129 h0, gd_of (low_good h0), gd_of (apart_good h0), trivial⟩
noncomputable def rel130 : List (Nat × Cv) := [(126, .id), (127, .id), (128, .id), (1, .id), (6, .id), (7, .id), (16, .id), (13, .id), (8, .id), (9, .id)]
noncomputable def st130 (l : List (Tup wallK)) (k : Int) (s r : Tup v3K) (p : Tup plK) (i : Tup v3K) (j : Int) : List D := [.vec wallK l, I l.length, I j, I k, ov3 s, ov3 r, o4 p, ov3 i, .obox zM, Bo false]

theorem round130 (l : List (Tup wallK)) (k : Int) (s r : Tup v3K) (p : Tup plK) (i : Tup v3K) (j : Int) : rndD ((cfg w0).at cs130) 40 [] 40 (fnOf Tryz.f130).ntmps rel130 (lpB 0 (fnOf Tryz.f130).body) (st130 l k s r p i j) =
    bif decide (j < l.length) then
      bif (Nat.beq 7 7 && (decide (0 ≤ j) && decide (j < l.length))) then
        bif j == k then some ([], .normal, st130 l k s r p i (W (j + 1))) else
        bif exW (nth l j.toNat) s p then some ([], .ret, st130 l k s r p i j) else
        bif exW (nth l j.toNat) r p then some ([], .ret, st130 l k s r p i j) else some ([], .normal, st130 l k s r p i (W (j + 1)))
      else none
    else some ([], .exit 0, st130 l k s r p i j) := by kernel_rfl

abbrev Ro := Option (Obs × D)
noncomputable def gO (b : Bool) (k : Ro) : Ro := bif b then k else none
noncomputable def noM : D := .tup [.agg zM, Bo false]
noncomputable def zR : Ro := some ([], noM)
noncomputable def inK (l : List (Tup wallK)) (k : Int) : Bool := Nat.beq 7 7 && (decide (0 ≤ k) && decide (k < l.length))

noncomputable def tr130 (w : Tup wallK) (s r : Tup v3K) (K : Ro) : Ro :=
  bif sdW w s == 0 then zR else bif sdW w r == 0 then zR else bif (decide (sdW w s > 0) != decide (sdW w r > 0)) then zR else
    treeT (decide (bsA (imW w s) r w > 0)) (decide (bsB (imW w s) r w > 0)) (decide (bsA (imW w s) r w < 0)) (decide (bsB (imW w s) r w < 0)) zR (bif decide (lZ (plW w s r) ≥ W (hW w * lD (plW w s r))) then zR else K)

noncomputable def quoM (p : Tup plK) : Bool := quoG (lX p) (lD p) && (quoG (lY p) (lD p) && quoG (lZ p) (lD p))
noncomputable def ld130 (l : List (Tup wallK)) (k : Int) (s r : Tup v3K) (w : Tup wallK) (x : X) (j : Int) : Ld := ldP 0 (fnOf Tryz.f130).ntmps rel130 x (st130 l k s r (plW w s r) (imW w s) j)
noncomputable def ob130 (l : List (Tup wallK)) (k : Int) (s r : Tup v3K) (w : Tup wallK) (x : X) (j : Int) : Obs := [(ld130 l k s r w x j, .loop (lpB 0 (fnOf Tryz.f130).body), st130 l k s r (plW w s r) (imW w s) 0)]

theorem body130n (l : List (Tup wallK)) (k : Int) (s r : Tup v3K) (j : Int) : bodyT ((cfg w0).at cs130) 60 [ld130 l k s r (nth l k.toNat) .normal j] 60 (fnOf Tryz.f130) [.vec wallK l, I k, vec3 s, vec3 r] =
    gO (inK l k) (tr130 (nth l k.toNat) s r (gO (quoG (lX (plW (nth l k.toNat) s r)) (lD (plW (nth l k.toNat) s r))) (gO (quoG (lY (plW (nth l k.toNat) s r)) (lD (plW (nth l k.toNat) s r))) (gO (quoG (lZ (plW (nth l k.toNat) s r)) (lD (plW (nth l k.toNat) s r)))
      (some (ob130 l k s r (nth l k.toNat) .normal j, .tup [mD (mirW (nth l k.toNat) k s r), Bo true])))))) := by kernel_rfl

theorem body130r (l : List (Tup wallK)) (k : Int) (s r : Tup v3K) (j : Int) : bodyT ((cfg w0).at cs130) 60 [ld130 l k s r (nth l k.toNat) .ret j] 60 (fnOf Tryz.f130) [.vec wallK l, I k, vec3 s, vec3 r] =
    gO (inK l k) (tr130 (nth l k.toNat) s r (some (ob130 l k s r (nth l k.toNat) .ret j, noM))) := by kernel_rfl
end
end Go.Proofs.YtmlglimahbjgbaaGreatDoor

namespace Go.Proofs.YtmlglimahbjgbaaGreatDoor
open Go Go.Am Go.Town
set_option maxRecDepth 100000
variable {w0 : World}
noncomputable section

/-! # reflected: its contract -/

noncomputable def preM (w : Tup wallK) (s r : Tup v3K) : Bool :=
  !(sdW w s == 0) && (!(sdW w r == 0) && (!(decide (sdW w s > 0) != decide (sdW w r > 0)) && (!((decide (bsA (imW w s) r w > 0) && decide (bsB (imW w s) r w > 0)) || (decide (bsA (imW w s) r w < 0) && decide (bsB (imW w s) r w < 0))) &&
    !(decide (lZ (plW w s r) ≥ W (hW w * lD (plW w s r)))))))

theorem treeT_eq {α : Type} (A B A' B' : Bool) (Z N : α) : treeT A B A' B' Z N = bif (A && B) || (A' && B') then Z else N := by
  cases A <;> cases B <;> cases A' <;> cases B' <;> rfl

theorem tr130_eq (w : Tup wallK) (s r : Tup v3K) (K : Ro) : tr130 w s r K = bif preM w s r then K else zR := by
  unfold tr130 preM
  rw [treeT_eq]
  cases (sdW w s == 0) <;> cases (sdW w r == 0) <;> cases (decide (sdW w s > 0) != decide (sdW w r > 0)) <;> cases ((decide (bsA (imW w s) r w > 0) && decide (bsB (imW w s) r w > 0)) || (decide (bsA (imW w s) r w < 0) && decide (bsB (imW w s) r w < 0))) <;> cases decide (lZ (plW w s r) ≥ W (hW w * lD (plW w s r))) <;> rfl

/-- Another wall is in the way. -/
noncomputable def wayB (l : List (Tup wallK)) (k : Int) (s r : Tup v3K) (p : Tup plK) (j : Nat) : Bool := !((j : Int) == k) && (exW (nth l j) s p || exW (nth l j) r p)
noncomputable def anyW (l : List (Tup wallK)) (k : Int) (s r : Tup v3K) (p : Tup plK) : Bool := (List.range' 0 l.length).any (wayB l k s r p)

theorem loop130 (h0 : Lib0 w0) (l : List (Tup wallK)) (hl : l.length ≤ 1000000) (k : Int) (s r : Tup v3K) (w : Tup wallK) :
    ∃ j : Int, LdT ((cfg w0).at cs130) (ld130 l k s r w (bif anyW l k s r (plW w s r) then X.ret else .normal) j) (.loop (lpB 0 (fnOf Tryz.f130).body)) (st130 l k s r (plW w s r) (imW w s) 0) := by
  obtain ⟨q, hq⟩ := rgRun_any (id := 0) (p := wayB l k s r (plW w s r)) (c := ()) l.length 0 ()
  have key := fun x p => ldT_rg (at_ok (cfg_ok w0) cs130) (at_sp h0 (cs130_gd h0)) (N := (fnOf Tryz.f130).ntmps) (rel := rel130) (B := lpB 0 (fnOf Tryz.f130).body) (id := 0) (k := l.length) (by omega) (fun a : Int × Unit => st130 l k s r (plW w s r) (imW w s) a.1)
    (fun j a => bif wayB l k s r (plW w s r) j then (X.ret, ()) else (.normal, a)) (fun _ _ => True)
    (fun j b hj _ => .leaf (by
      rw [round130, inb 7 hj, lt_t hj, Int.toNat_natCast]
      unfold wayB
      cases ((j : Int) == k) <;> cases exW (nth l j) s (plW w s r) <;> cases exW (nth l j) r (plW w s r) <;> rfl)) (fun _ _ _ _ _ _ => trivial)
    (fun b _ => .leaf (by rw [round130, ge_f]; rfl)) (a0 := ()) trivial (x := x) (p := p)
  unfold anyW
  cases hb : (List.range' 0 l.length).any (wayB l k s r (plW w s r)) <;> rw [hb] at hq
  · exact ⟨_, key _ _ hq⟩
  · exact ⟨_, key _ _ hq⟩

noncomputable def refB (l : List (Tup wallK)) (k : Int) (s r : Tup v3K) : Bool := preM (nth l k.toNat) s r && !anyW l k s r (plW (nth l k.toNat) s r)
noncomputable def okM (l : List (Tup wallK)) (k : Int) (s r : Tup v3K) : Bool := inK l k && (Nat.ble l.length 100000 && (!preM (nth l k.toNat) s r || quoM (plW (nth l k.toNat) s r)))
noncomputable def yesM (m : Tup mirK) : D := .tup [mD m, Bo true]

theorem fn130 (h0 : Lib0 w0) (l : List (Tup wallK)) (k : Int) (s r : Tup v3K) (h : okM l k s r = true) : FnD (cfg w0) 130 [.vec wallK l, I k, vec3 s, vec3 r] (bif refB l k s r then yesM (mirW (nth l k.toNat) k s r) else noM) := by
  unfold okM at h
  simp only [Bool.and_eq_true, Nat.ble_eq] at h
  obtain ⟨hi, hl, hq⟩ := h
  unfold refB
  cases hp : preM (nth l k.toNat) s r with
  | false =>
    refine fnD_t (cfg_ok w0) h0 (cs130_gd h0) (fd := fnOf Tryz.f130) rfl (o := []) ((body130n l k s r 0).trans ?_) trivial
    rw [hi, tr130_eq, hp]; rfl
  | true =>
    rw [hp] at hq
    obtain ⟨j, hj⟩ := loop130 h0 l (by omega) k s r (nth l k.toNat)
    cases ha : anyW l k s r (plW (nth l k.toNat) s r) with
    | true =>
      rw [ha] at hj
      refine fnD_t (cfg_ok w0) h0 (cs130_gd h0) (fd := fnOf Tryz.f130) rfl (o := ob130 l k s r (nth l k.toNat) .ret j) ((body130r l k s r j).trans ?_) ⟨hj, trivial⟩
      rw [hi, tr130_eq, hp]; rfl
    | false =>
      rw [ha] at hj
      refine fnD_t (cfg_ok w0) h0 (cs130_gd h0) (fd := fnOf Tryz.f130) rfl (o := ob130 l k s r (nth l k.toNat) .normal j) ((body130n l k s r j).trans ?_) ⟨hj, trivial⟩
      have hq : quoM (plW (nth l k.toNat) s r) = true := by simpa using hq
      unfold quoM at hq
      simp only [Bool.and_eq_true] at hq
      rw [hi, tr130_eq, hp, hq.1, hq.2.1, hq.2.2]; rfl

noncomputable def c130 : Ct := ct 130 [.v wallK, .c ik, .b v3K, .b v3K] fun a => .br (okM a.1 a.2.1 a.2.2.1 a.2.2.2.1) (.br (refB a.1 a.2.1 a.2.2.1 a.2.2.2.1) (.leaf (yesM (mirW (nth a.1 (a.2.1 : Int).toNat) a.2.1 a.2.2.1 a.2.2.2.1))) (.leaf noM)) .bad
theorem gd130 (h0 : Lib0 w0) : Gd (cfg w0) c130 := gd_sig fun a d hd => by
  obtain ⟨hg, hd⟩ := br_run hd
  have := fn130 h0 a.1 a.2.1 a.2.2.1 a.2.2.2.1 hg
  simp only [FT.run] at hd
  cases hc : refB a.1 a.2.1 a.2.2.1 a.2.2.2.1 <;> rw [hc] at hd this <;> cases hd <;> exact this
end
end Go.Proofs.YtmlglimahbjgbaaGreatDoor

namespace Go.Proofs.YtmlglimahbjgbaaGreatDoor
open Go Go.Am Go.Town
set_option maxRecDepth 100000
variable {w0 : World}

/-! # What is valid: the place of a mirror -/

structure SmallW (w : Tup wallK) : Prop where
  a1 : -1000 ≤ aX w ∧ aX w ≤ 1000
  a2 : -1000 ≤ aY w ∧ aY w ≤ 1000
  b1 : -1000 ≤ bX w ∧ bX w ≤ 1000
  b2 : -1000 ≤ bY w ∧ bY w ≤ 1000
  ne : ¬ (aX w = bX w ∧ aY w = bY w)
  hh : 1 ≤ hW w ∧ hW w ≤ 1000

theorem w_small {w : Tup wallK} (hw : wChk w = 0) : SmallW w := by
  unfold wChk chkWall at hw
  rw [firstZ_nil] at hw
  have h5 := hw (whenZ (aX w == bX w && (aY w == bY w && true)) 24) (by simp [aX, aY, bX, bY])
  refine ⟨withinZ_nil.1 (hw (withinZ w.2.1 (-1000) 1000) (by simp)), withinZ_nil.1 (hw (withinZ w.2.2.1 (-1000) 1000) (by simp)), withinZ_nil.1 (hw (withinZ w.2.2.2.1 (-1000) 1000) (by simp)), withinZ_nil.1 (hw (withinZ w.2.2.2.2.1 (-1000) 1000) (by simp)), ?_, withinZ_nil.1 (hw (withinZ w.2.2.2.2.2.1 1 1000) (by simp))⟩
  rintro ⟨e1, e2⟩
  rw [e1, e2] at h5
  simp [whenZ] at h5

structure SmallP (s : Tup v3K) : Prop where
  x : -1000 ≤ pX s ∧ pX s ≤ 1000
  y : -1000 ≤ pY s ∧ pY s ≤ 1000
  z : 0 ≤ pZ s ∧ pZ s ≤ 1000

theorem p_small {s : Tup v3K} (hs : pChk s = 0) : SmallP s := by
  obtain ⟨h1, h2, h3⟩ := chkSpot_nil hs
  exact ⟨h1, h2, h3⟩

noncomputable def trW (w : Tup wallK) (x y : Int) : Int := turnI (aX w) (aY w) (bX w) (bY w) x y

theorem sd_eq {w : Tup wallK} {s : Tup v3K} (S : SmallW w) (P : SmallP s) : sdW w s = trW w (pX s) (pY s) ∧ -8000000 ≤ sdW w s ∧ sdW w s ≤ 8000000 := by
  obtain ⟨h1, h2, h3⟩ := side_bound S.a1 S.a2 S.b1 S.b2 P.x P.y
  exact ⟨h3, h1, h2⟩

/-- What the place of a mirror is. -/
structure MirF (w : Tup wallK) (s r : Tup v3K) (p q : Int) : Prop where
  im : ImC (aX w) (aY w) (bX w) (bY w) (pX s) (pY s) (pX (imW w s)) (pY (imW w s))
  ix : -3000 ≤ pX (imW w s) ∧ pX (imW w s) ≤ 3000
  iy : -3000 ≤ pY (imW w s) ∧ pY (imW w s) ≤ 3000
  iz : pZ (imW w s) = pZ s
  ts : sdW w s = trW w (pX s) (pY s)
  tr : sdW w r = trW w (pX r) (pY r)
  p0 : 0 ≤ p ∧ p ≤ 8000000
  q0 : 0 ≤ q ∧ q ≤ 8000000
  pn : p = ((sdW w s).natAbs : Nat)
  qn : q = ((sdW w r).natAbs : Nat)
  X : lX (plW w s r) = q * pX (imW w s) + p * pX r
  Xb : -32000000000 ≤ lX (plW w s r) ∧ lX (plW w s r) ≤ 32000000000
  Y : lY (plW w s r) = q * pY (imW w s) + p * pY r
  Yb : -32000000000 ≤ lY (plW w s r) ∧ lY (plW w s r) ≤ 32000000000
  Z : lZ (plW w s r) = q * pZ s + p * pZ r
  Zb : 0 ≤ lZ (plW w s r) ∧ lZ (plW w s r) ≤ 16000000000
  D : lD (plW w s r) = p + q

theorem mir_f {w : Tup wallK} {s r : Tup v3K} (hw : wChk w = 0) (hs : pChk s = 0) (hr : pChk r = 0) (he : evW w = true) : MirF w s r (absZ (sdW w s)) (absZ (sdW w r)) := by
  have S := w_small hw
  have P := p_small hs
  have R := p_small hr
  obtain ⟨s1, s2, s3⟩ := sd_eq S P
  obtain ⟨r1, r2, r3⟩ := sd_eq S R
  have hi : ImC (aX w) (aY w) (bX w) (bY w) (pX s) (pY s) (pX (imW w s)) (pY (imW w s)) := img_ok S.a1 S.a2 S.b1 S.b2 P.x P.y S.ne he
  obtain ⟨i1, i2⟩ := hi.rng S.a1 S.a2 P.x P.y
  have ep := abs_in (n := sdW w s) (by omega)
  have eq := abs_in (n := sdW w r) (by omega)
  have p0 : 0 ≤ absZ (sdW w s) ∧ absZ (sdW w s) ≤ 8000000 := by omega
  have q0 : 0 ≤ absZ (sdW w r) ∧ absZ (sdW w r) ≤ 8000000 := by omega
  obtain ⟨x1, x2, x3⟩ := place_in p0 q0 i1 R.x
  obtain ⟨y1, y2, y3⟩ := place_in p0 q0 i2 R.y
  obtain ⟨z1, z2, z3⟩ := place_z p0 q0 P.z R.z
  exact ⟨hi, i1, i2, rfl, s1, r1, p0, q0, ep, eq, x1, by rw [show lX (plW w s r) = _ from x1]; omega, y1, by rw [show lY (plW w s r) = _ from y1]; omega, z1, by rw [show lZ (plW w s r) = _ from z1]; omega, W_in (by omega) (by omega)⟩

theorem MirF.quo {w : Tup wallK} {s r : Tup v3K} {p q : Int} (F : MirF w s r p q) (h : sdW w s ≠ 0) : 0 < lD (plW w s r) ∧ lD (plW w s r) ≤ 16000000 ∧ quoM (plW w s r) = true := by
  have hp := F.pn
  have hq := F.qn
  have p0 := F.p0
  have q0 := F.q0
  have e := F.D
  have b1 := F.Xb
  have b2 := F.Yb
  have b3 := F.Zb
  refine ⟨by omega, by omega, ?_⟩
  unfold quoM
  rw [Bool.and_eq_true, Bool.and_eq_true, quoG_iff, quoG_iff, quoG_iff, rng_iff, rng_iff, rng_iff, rng_iff]
  omega

theorem chkFrom_all : ∀ {l : List (Tup wallK)} {seen : List ByteArray}, chkFrom seen l = 0 → ∀ w ∈ l, wChk w = 0
  | [], _, _, w, hw => by cases hw
  | v :: vs, seen, h, w, hw => by
    unfold chkFrom at h
    cases hc : (chkE seen v != 0) with
    | true => rw [hc] at h; simp only [cond_true] at h; rw [h] at hc; cases hc
    | false =>
      rw [hc] at h
      simp only [cond_false] at h
      rcases List.mem_cons.1 hw with rfl | hw
      · have : chkE seen w = 0 := by simpa using hc
        unfold chkE at this
        cases hk : (wChk w != 0) with
        | true => rw [hk] at this; simp only [cond_true] at this; rw [this] at hk; cases hk
        | false => simpa using hk
      · exact chkFrom_all h w hw

theorem chkAll_all {l : List (Tup wallK)} (h : chkAllW l = 0) : l.length ≤ 32 ∧ ∀ w ∈ l, wChk w = 0 := by
  unfold chkAllW at h
  cases hd : decide ((l.length : Int) > 32) with
  | true => rw [hd] at h; cases h
  | false =>
    rw [hd] at h
    exact ⟨by rw [decide_eq_false_iff_not] at hd; omega, chkFrom_all h⟩

theorem nth_mem {l : List (Tup wallK)} {j : Nat} (h : j < l.length) : nth l j ∈ l := by
  simp [nth, List.getD_eq_getElem?_getD, h]

noncomputable section
/-! ## Reflected -/

noncomputable def cs52 : List Ct := [checkC 38, ⟨104, tG checkSpotF⟩, ⟨119, tG whenF⟩, ⟨98, tG firstF⟩, c128, c130]
theorem cs52_gd (h0 : Lib0 w0) : Gds (cfg w0) cs52 := ⟨gd38 h0, gd_of (checkSpot_good h0), gd_of (when_good h0), gd_of (first_good h0), gd128 h0, gd130 h0, trivial⟩
noncomputable def e52 (l : List (Tup wallK)) (b : Bool) (s r : Tup v3K) : Int := firstZ [chkAllW l, whenZ b 10, pChk s, pChk r]
noncomputable def outB (l : List (Tup wallK)) (k : Int) : Bool := bif decide (k < 0) then true else decide (k ≥ l.length)
noncomputable def zE (e : Int) : D := .tup [.agg zM, I e]
noncomputable def gS (b : Bool) (k : Option D) : Option D := bif b then k else none
noncomputable def nthW (l : List (Tup wallK)) (k : Int) : Tup wallK := nth l k.toNat
noncomputable def tl52 (l : List (Tup wallK)) (k : Int) (s r : Tup v3K) (e : Int) : Option D :=
  bif e != 0 then some (zE e) else gS (inK l k) (bif !evW (nthW l k) then some (zE 21) else gS (okM l k s r) (bif refB l k s r then some (.tup [mD (mirW (nthW l k) k s r), I 0]) else some (zE 7)))

noncomputable def err52 (l : List (Tup wallK)) (k : Int) (s r : Tup v3K) : Int := bif e52 l (outB l k) s r != 0 then e52 l (outB l k) s r else bif !evW (nthW l k) then 21 else bif refB l k s r then 0 else 7
noncomputable def out52 (l : List (Tup wallK)) (k : Int) (s r : Tup v3K) : D := bif err52 l k s r == 0 then .tup [mD (mirW (nthW l k) k s r), I 0] else zE (err52 l k s r)

theorem okM_of {l : List (Tup wallK)} {k : Int} {s r : Tup v3K} (h : e52 l (outB l k) s r = 0) (he : evW (nthW l k) = true) : okM l k s r = true ∧ inK l k = true ∧ k.toNat < l.length ∧ 0 ≤ k ∧ wChk (nthW l k) = 0 ∧ pChk s = 0 ∧ pChk r = 0 := by
  unfold e52 at h
  rw [firstZ_nil] at h
  obtain ⟨hl, hw⟩ := chkAll_all (h (chkAllW l) (by simp))
  have ho := h (whenZ (outB l k) 10) (by simp)
  have hs := h (pChk s) (by simp)
  have hr := h (pChk r) (by simp)
  have ho : outB l k = false := by
    cases hb : outB l k with
    | true => rw [hb] at ho; cases ho
    | false => rfl
  unfold outB at ho
  have hk : 0 ≤ k ∧ k < l.length := by
    cases hd : decide (k < 0) with
    | true => rw [hd] at ho; cases ho
    | false =>
      rw [hd] at ho
      simp only [cond_false, decide_eq_false_iff_not] at ho hd
      omega
  have hn : k.toNat < l.length := by omega
  have hwk := hw _ (nth_mem hn)
  have hin : inK l k = true := by unfold inK; simp; omega
  refine ⟨?_, hin, hn, hk.1, hwk, hs, hr⟩
  unfold okM
  rw [hin, Nat.ble_eq_true_of_le (show l.length ≤ 100000 by omega)]
  cases hp : preM (nth l k.toNat) s r with
  | false => rfl
  | true =>
    have hne : sdW (nth l k.toNat) s ≠ 0 := by
      intro h0
      unfold preM at hp
      rw [h0] at hp
      cases hp
    rw [((mir_f hwk hs hr he).quo hne).2.2]; rfl

theorem fn52 (h0 : Lib0 w0) (l : List (Tup wallK)) (k : Int) (s r : Tup v3K) : FnD (cfg w0) 52 [.vec wallK l, I k, vec3 s, vec3 r] (out52 l k s r) :=
  fnD_k (cfg_ok w0) h0 (cs52_gd h0) (fd := fnOf Tryz.f52) rfl (n := 60) ((show bodyK ((cfg w0).at cs52) 60 (fnOf Tryz.f52) [.vec wallK l, I k, vec3 s, vec3 r] =
    bif decide (k < 0) then tl52 l k s r (e52 l true s r) else tl52 l k s r (e52 l (decide (k ≥ l.length)) s r) by kernel_rfl).trans (by
      have e : (bif decide (k < 0) then tl52 l k s r (e52 l true s r) else tl52 l k s r (e52 l (decide (k ≥ l.length)) s r)) = tl52 l k s r (e52 l (outB l k) s r) := by
        unfold outB
        cases decide (k < 0) <;> rfl
      rw [e]
      unfold tl52 out52 err52
      cases hc : (e52 l (outB l k) s r != 0) with
      | true => simp only [cond_true]; rw [show (e52 l (outB l k) s r == 0) = false by simpa using hc]; rfl
      | false =>
        have h := show e52 l (outB l k) s r = 0 by simpa using hc
        simp only [cond_false]
        cases hev : evW (nthW l k) with
        | false =>
          have hin : inK l k = true := by
            rw [show inK l k = decide (0 ≤ k ∧ k < l.length) by unfold inK; simp [Nat.beq_refl]]
            unfold e52 at h
            rw [firstZ_nil] at h
            have ho := h (whenZ (outB l k) 10) (by simp)
            cases hb : outB l k with
            | true => rw [hb] at ho; cases ho
            | false =>
              unfold outB at hb
              cases hd : decide (k < 0) with
              | true => rw [hd] at hb; cases hb
              | false =>
                rw [hd] at hb
                simp only [cond_false, decide_eq_false_iff_not] at hb hd
                simp only [decide_eq_true_eq]
                omega
          rw [hin]; rfl
        | true =>
          obtain ⟨h1, h2, _⟩ := okM_of h hev
          rw [h1, h2]
          cases refB l k s r <;> rfl))
noncomputable def c52 : Ct := ct 52 [.v wallK, .c ik, .b v3K, .b v3K] fun a => .br (err52 a.1 a.2.1 a.2.2.1 a.2.2.2.1 == 0) (.leaf (.tup [mD (mirW (nthW a.1 a.2.1) a.2.1 a.2.2.1 a.2.2.2.1), I 0])) (.leaf (zE (err52 a.1 a.2.1 a.2.2.1 a.2.2.2.1)))
theorem gd52 (h0 : Lib0 w0) : Gd (cfg w0) c52 := gd_sig fun a d hd => by
  have := fn52 h0 a.1 a.2.1 a.2.2.1 a.2.2.2.1
  unfold out52 at this
  simp only [FT.run] at hd
  cases hc : (err52 a.1 a.2.1 a.2.2.1 a.2.2.2.1 == 0) <;> rw [hc] at hd this <;> cases hd <;> exact this
end
end Go.Proofs.YtmlglimahbjgbaaGreatDoor
