/-
 A part of the proof of the statement that the claim names: see the last file.
-/
import Derived.Test.YtmlglimahbjgbaaGreatDoorT4
namespace Go.Proofs.YtmlglimahbjgbaaGreatDoor
open Go Go.Am Go.Town
set_option maxRecDepth 100000
variable {w0 : World}
def binNext (id : Nat) (n : Int) (s : Int × Int) : X × (Int × Int) :=
 if s.2 - s.1 > 1 then (if ((s.1 + s.2) / 2) * ((s.1 + s.2) / 2) ≤ n then (.normal, ((s.1 + s.2) / 2, s.2)) else (.normal, (s.1, (s.1 + s.2) / 2))) else (.exit id, s)
def binInv (n : Int) (s : Int × Int) : Prop := 0 ≤ n ∧ n ≤ 1073741824 ∧ 0 ≤ s.1 ∧ s.1 < s.2 ∧ s.2 ≤ 1073741825 ∧ s.1 * s.1 ≤ n ∧ n < s.2 * s.2
theorem binInv_next {id : Nat} {n : Int} (a b : Int × Int) (ha : binInv n a) (h : binNext id n a = (.normal, b)) : binInv n b := by
 obtain ⟨lo, hi⟩ := a
 obtain ⟨h1, h2, h3, h4, h5, h6, h7⟩ := ha
 simp only at h3 h4 h5 h6 h7
 unfold binNext at h
 simp only at h
 split at h
 ·rename_i hg
  split at h
  ·rename_i hm
   simp only [Prod.mk.injEq, true_and] at h
   subst h
   exact ⟨h1, h2, by simp only; omega, by simp only; omega, h5, hm, h7⟩
  ·rename_i hm
   simp only [Prod.mk.injEq, true_and] at h
   subst h
   exact ⟨h1, h2, h3, by simp only; omega, by simp only; omega, h6, by simp only; omega⟩
 ·simp at h
theorem bin_iter {id : Nat} {n : Int} : ∀ (f : Nat) (s : Int × Int), binInv n s → (s.2 - s.1).toNat < f → iterN (binNext id n) f s = some (.exit id, (lowZ n, lowZ n + 1))
 | 0, s, _, h => by omega
 | f + 1, s, hi, h => by
   unfold iterN
   cases hn : binNext id n s with
   | mk x b =>
     cases x with
     | normal =>
       have hb := binInv_next s b hi hn
       simp only
       refine bin_iter f b hb ?_
       obtain ⟨lo, hh⟩ := s
       unfold binNext at hn
       simp only at hn h
       obtain ⟨_, _, _, h4, _⟩ := hb
       split at hn
       ·split at hn
        ·simp only [Prod.mk.injEq, true_and] at hn; subst hn; simp only at h4 ⊢; omega
        ·simp only [Prod.mk.injEq, true_and] at hn; subst hn; simp only at h4 ⊢; omega
       ·simp at hn
     | ret => unfold binNext at hn; split at hn <;> (try split at hn) <;> simp at hn
     | exit i =>
       unfold binNext at hn
       split at hn
       ·split at hn <;> simp at hn
       ·rename_i hg
        simp only [Prod.mk.injEq, X.exit.injEq] at hn
        obtain ⟨rfl, rfl⟩ := hn
        obtain ⟨lo, hh⟩ := s
        obtain ⟨g1, g2, g3, g4, g5, g6, g7⟩ := hi
        simp only at g3 g4 g5 g6 g7 hg
        have e : hh = lo + 1 := by omega
        subst e
        obtain ⟨k1, k2, k3⟩ := lowZ_ok (n := n) g1 (by omega)
        have := sq_unique g3 g6 g7 k1 k2 k3
        subst this
        rfl
def binV (n : Int) (s : Int × Int) : List Value := [iv n, p0, iv s.1, iv s.2]
def hpL : Heap := [.row [iv 0, iv 0] true none]
theorem bin_tree {id : Nat} {n lo hi : Int} (h : binInv n (lo, hi)) (N : Nat) :
  (bif decide (W (hi - lo) > 1) then bif decide (W (W ((W (lo + hi)).tdiv 2) * W ((W (lo + hi)).tdiv 2)) ≤ n) then some (X.normal, [iv n, p0, iv (W ((W (lo + hi)).tdiv 2)), iv hi], N, hpL) else some (.normal, [iv n, p0, iv lo, iv (W ((W (lo + hi)).tdiv 2))], N, hpL)
   else some (.exit id, [iv n, p0, iv lo, iv hi], N, hpL)) = some ((binNext id n (lo, hi)).1, binV n (binNext id n (lo, hi)).2, N, hpL) := by
 obtain ⟨g1, g2, g3, g4, g5, g6, g7⟩ := h
 simp only at g3 g4 g5 g6 g7
 have e1 : W (hi - lo) = hi - lo := W_in (by omega) (by omega)
 have e2 : W (lo + hi) = lo + hi := W_in (by omega) (by omega)
 have e3 : (lo + hi).tdiv 2 = (lo + hi) / 2 := Int.tdiv_eq_ediv_of_nonneg (by omega)
 have e4 : W ((lo + hi) / 2) = (lo + hi) / 2 := W_in (by omega) (by omega)
 have e5 : W ((lo + hi) / 2 * ((lo + hi) / 2)) = (lo + hi) / 2 * ((lo + hi) / 2) := W_mul 1073741825 1073741825 (by omega) (by omega) (by omega) (by omega) (by omega)
 rw [e1, e2, e3, e4, e5]
 unfold binNext binV
 by_cases c1 : hi - lo > 1
 ·by_cases c2 : (lo + hi) / 2 * ((lo + hi) / 2) ≤ n
  ·simp [c1, c2]
  ·simp [c1, c2]
 ·simp [c1]
noncomputable def L35 : Code := lpB 0 (fnOf Tryz.f35).body
noncomputable def L116a : Code := lpB 0 (fnOf Tryz.f116).body
noncomputable def L116b : Code := lpB 2 (fnOf Tryz.f116).body
theorem bin35_step (cs : List Ctr) (n : Int) (m : Nat) (s : Int × Int) (j : Nat → Value) (h : binInv n s) :
  evK (cfgC w0 cs) none (m + 12) false L35 ⟨mkT (fnOf Tryz.f35).ntmps [0, 2, 3, 4] (binV n s) j, hpL⟩ (prj [0, 2, 3, 4]) = some ((binNext 0 n s).1, binV n (binNext 0 n s).2, (fnOf Tryz.f35).ntmps, hpL) := by
 obtain ⟨lo, hi⟩ := s
 refine Eq.trans ?_ (bin_tree h _)
 show evK (cfgC w0 cs) none (m + 12) false L35 ⟨mkT (fnOf Tryz.f35).ntmps [0, 2, 3, 4] [iv n, p0, iv lo, iv hi] j, hpL⟩ (prj [0, 2, 3, 4]) = _
 kernel_rfl
theorem bin116_step (cs : List Ctr) (n : Int) (m : Nat) (s : Int × Int) (j : Nat → Value) (h : binInv n s) :
  evK (cfgC w0 cs) none (m + 12) false L116b ⟨mkT (fnOf Tryz.f116).ntmps [0, 2, 3, 4] (binV n s) j, hpL⟩ (prj [0, 2, 3, 4]) = some ((binNext 2 n s).1, binV n (binNext 2 n s).2, (fnOf Tryz.f116).ntmps, hpL) := by
 obtain ⟨lo, hi⟩ := s
 refine Eq.trans ?_ (bin_tree h _)
 show evK (cfgC w0 cs) none (m + 12) false L116b ⟨mkT (fnOf Tryz.f116).ntmps [0, 2, 3, 4] [iv n, p0, iv lo, iv hi] j, hpL⟩ (prj [0, 2, 3, 4]) = _
 kernel_rfl
def binB (n lo hi : Int) : Bool := decide (0 ≤ n) && decide (n ≤ 1073741824) && decide (0 ≤ lo) && decide (lo < hi) && decide (hi ≤ 1073741825) && decide (lo * lo ≤ n) && decide (n < hi * hi)
theorem binB_iff {n lo hi : Int} : binB n lo hi = true ↔ binInv n (lo, hi) := by
 unfold binB binInv
 simp only [Bool.and_eq_true, decide_eq_true_eq]
 constructor
 ·rintro ⟨⟨⟨⟨⟨⟨a, b⟩, c⟩, d⟩, e⟩, f⟩, g⟩; exact ⟨a, b, c, d, e, f, g⟩
 ·rintro ⟨a, b, c, d, e, f, g⟩; exact ⟨⟨⟨⟨⟨⟨a, b⟩, c⟩, d⟩, e⟩, f⟩, g⟩
def binO (N : Nat) : Ora := fun j s k =>
 match Nat.beq s.tmps.length N, relV [0, 2, 3, 4] s.tmps, s.heap with
 | true, [.int .i64 n, q, .int .i64 lo, .int .i64 hi], [.row [.int .i64 z0, .int .i64 z1] true none] =>
   match isPtr q K0 with
   | true => cond (decide (z0 = 0) && decide (z1 = 0) && binB n lo hi) (k .normal ⟨mkT N [0, 2, 3, 4] [iv n, p0, iv (lowZ n), iv (lowZ n + 1)] j, hpL⟩) none
   | false => none
 | _, _, _ => none
def bigF : Nat := 2000000000
theorem bin_ok {C : Cfg} {N id : Nat} {B : Code} (hstep : ∀ (n : Int) (m : Nat) (s : Int × Int) (j : Nat → Value), binInv n s →
  evK C none (m + 12) false B ⟨mkT N [0, 2, 3, 4] (binV n s) j, hpL⟩ (prj [0, 2, 3, 4]) = some ((binNext id n s).1, binV n (binNext id n s).2, N, hpL)) : OraOK C bigF 13 (binO N) id (.loop B) := by
 intro m hm s k d hd
 have main : ∀ n lo hi, binInv n (lo, hi) → s.tmps.length = N → relV [0, 2, 3, 4] s.tmps = binV n (lo, hi) → s.heap = hpL → k .normal ⟨mkT N [0, 2, 3, 4] [iv n, p0, iv (lowZ n), iv (lowZ n + 1)] (junk C (bigF + m) id (.loop B) s), hpL⟩ = some d →
   ∃ x s', ev C (bigF + m) false (.block id (.loop B)) s = some (x, s') ∧ k x s' = some d := by
  intro n lo hi hi0 hl hv hh hk
  refine ora_loop (o := fun j s' k => match (Classical.propDecidable (s' = s)).decide with | true => k .normal ⟨mkT N [0, 2, 3, 4] [iv n, p0, iv (lowZ n), iv (lowZ n + 1)] j, hpL⟩ | false => none) (vals := binV n) (hp := fun _ => hpL) (next := binNext id n) (inv := binInv n) (fun a b => binInv_next a b) (fun m a j h => hstep n m a j h) ?_ m hm s k d ?_
  ·intro j s' k' d' h'
   cases hc : (Classical.propDecidable (s' = s)).decide with
   | false => rw [hc] at h'; cases h'
   | true =>
     rw [hc] at h'
     have e := @of_decide_eq_true _ (Classical.propDecidable _) hc
     subst e
     refine ⟨(lo, hi), (hi - lo).toNat + 1, .exit id, (lowZ n, lowZ n + 1), hl, hv, hh, hi0, ?_, bin_iter _ _ hi0 (by simp only; omega), ?_⟩
     ·obtain ⟨_, _, g3, g4, g5, _⟩ := hi0
      simp only at g3 g4 g5
      unfold bigF
      omega
     ·have : outX id (.exit id) = .normal := by simp [outX, Nat.beq_refl]
      rw [this]; exact h'
  ·simp only
   exact hk
 unfold binO at hd
 split at hd
 ·rename_i n q lo hi z0 z1 hl hv hh
  rw [Nat.beq_eq] at hl
  split at hd
  ·rename_i hq
   have e0 := isPtr_eq hq
   cases hc : (decide (z0 = 0) && decide (z1 = 0) && binB n lo hi) with
   | false => rw [hc] at hd; cases hd
   | true =>
     rw [hc] at hd
     simp only [Bool.and_eq_true, decide_eq_true_eq] at hc
     obtain ⟨⟨g1, g2⟩, g3⟩ := hc
     subst g1 g2
     exact main n lo hi (binB_iff.1 g3) hl (by rw [hv, e0]; rfl) hh hd
  ·cases hd
 ·cases hd
def dblNext (n : Int) (h : Int) : X × Int := if h * h ≤ n then (.normal, h * 2) else (.exit 0, h)
def dblInv (n h : Int) : Prop := 0 ≤ n ∧ n ≤ 1073741824 ∧ 1 ≤ h ∧ h ≤ 65536
theorem dblInv_next {n : Int} (a b : Int) (ha : dblInv n a) (h : dblNext n a = (.normal, b)) : dblInv n b := by
 obtain ⟨h1, h2, h3, h4⟩ := ha
 unfold dblNext at h
 split at h
 ·rename_i hm
  simp only [Prod.mk.injEq, true_and] at h
  subst h
  refine ⟨h1, h2, by omega, ?_⟩
  by_cases hc : a ≤ 32768
  ·omega
  ·exfalso
   have : (32769 : Int) * 32769 ≤ a * a := Int.mul_le_mul (by omega) (by omega) (by omega) (by omega)
   omega
 ·simp at h
def dblZ (n : Int) : Int := match iterN (dblNext n) 65537 1 with
 | some (_, h) => h
 | none => 0
theorem dbl_iter {n : Int} : ∀ (f : Nat) (h : Int), dblInv n h → (65536 - h).toNat < f → ∃ r, iterN (dblNext n) f h = some (.exit 0, r) ∧ 1 ≤ r ∧ r ≤ 65536 ∧ n < r * r
 | 0, s, _, h => by omega
 | f + 1, s, hi, h => by
   unfold iterN
   cases hn : dblNext n s with
   | mk x b =>
     cases x with
     | normal =>
       have hb := dblInv_next s b hi hn
       simp only
       refine dbl_iter f b hb ?_
       unfold dblNext at hn
       obtain ⟨_, _, h3, h4⟩ := hb
       obtain ⟨_, _, k3, k4⟩ := hi
       split at hn
       ·simp only [Prod.mk.injEq, true_and] at hn; subst hn; omega
       ·simp at hn
     | ret => unfold dblNext at hn; split at hn <;> simp at hn
     | exit i =>
       unfold dblNext at hn
       split at hn
       ·simp at hn
       ·rename_i hg
        simp only [Prod.mk.injEq, X.exit.injEq] at hn
        obtain ⟨rfl, rfl⟩ := hn
        obtain ⟨_, _, k3, k4⟩ := hi
        exact ⟨s, rfl, k3, k4, by omega⟩
theorem dblZ_ok {n : Int} (h0 : 0 ≤ n) (h1 : n ≤ 1073741824) : iterN (dblNext n) 65537 1 = some (.exit 0, dblZ n) ∧ 1 ≤ dblZ n ∧ dblZ n ≤ 65536 ∧ n < dblZ n * dblZ n := by
 obtain ⟨r, e, h⟩ := dbl_iter (n := n) 65537 1 ⟨h0, h1, by omega, by omega⟩ (by omega)
 unfold dblZ
 rw [e]
 exact ⟨rfl, h⟩
def dblV (n : Int) (h : Int) : List Value := [iv n, p0, iv 0, iv h]
theorem dbl_step (cs : List Ctr) (n : Int) (m : Nat) (s : Int) (j : Nat → Value) (h : dblInv n s) :
  evK (cfgC w0 cs) none (m + 12) false L116a ⟨mkT (fnOf Tryz.f116).ntmps [0, 2, 3, 4] (dblV n s) j, hpL⟩ (prj [0, 2, 3, 4]) = some ((dblNext n s).1, dblV n (dblNext n s).2, (fnOf Tryz.f116).ntmps, hpL) := by
 have t : evK (cfgC w0 cs) none (m + 12) false L116a ⟨mkT (fnOf Tryz.f116).ntmps [0, 2, 3, 4] [iv n, p0, iv 0, iv s] j, hpL⟩ (prj [0, 2, 3, 4]) =
  bif decide (W (s * s) ≤ n) then some (.normal, [iv n, p0, iv 0, iv (W (s * 2))], (fnOf Tryz.f116).ntmps, hpL) else some (.exit 0, [iv n, p0, iv 0, iv s], (fnOf Tryz.f116).ntmps, hpL) := by kernel_rfl
 refine t.trans ?_
 obtain ⟨h1, h2, h3, h4⟩ := h
 rw [W_mul 65536 65536 (by omega) (by omega) (by omega) (by omega) (by omega), W_in (n := s * 2) (by omega) (by omega)]
 unfold dblNext dblV
 by_cases c : s * s ≤ n <;> simp [c]
def dblO (N : Nat) (n : Int) : Ora := fun j s k =>
 match Nat.beq s.tmps.length N, relV [0, 2, 3, 4] s.tmps, s.heap with
 | true, [.int .i64 n', q, .int .i64 lo, .int .i64 hi], [.row [.int .i64 z0, .int .i64 z1] true none] =>
   match isPtr q K0 with
   | true => cond (decide (z0 = 0) && decide (z1 = 0) && decide (n' = n) && decide (lo = 0) && decide (hi = 1) && decide (0 ≤ n) && decide (n ≤ 1073741824)) (k .normal ⟨mkT N [0, 2, 3, 4] [iv n, p0, iv 0, iv (dblZ n)] j, hpL⟩) none
   | false => none
 | _, _, _ => none
theorem dbl_ok (cs : List Ctr) (n : Int) : OraOK (cfgC w0 cs) bigF 13 (dblO 37 n) 0 (.loop L116a) := by
 have hN : (fnOf Tryz.f116).ntmps = 37 := by kernel_rfl
 refine ora_loop (c := 12) (inv := dblInv n) (hp := fun _ => hpL) (vals := dblV n) (fun a b => dblInv_next a b) (fun m a j h => dbl_step cs n m a j h) ?_
 intro j s k d h
 unfold dblO at h
 split at h
 ·rename_i n' q lo hi z0 z1 hl hv hh
  rw [Nat.beq_eq] at hl
  split at h
  ·rename_i hq
   have e0 := isPtr_eq hq
   cases hc : (decide (z0 = 0) && decide (z1 = 0) && decide (n' = n) && decide (lo = 0) && decide (hi = 1) && decide (0 ≤ n) && decide (n ≤ 1073741824)) with
   | false => rw [hc] at h; cases h
   | true =>
     rw [hc] at h
     simp only [Bool.and_eq_true, decide_eq_true_eq] at hc
     obtain ⟨⟨⟨⟨⟨⟨g1, g2⟩, g3⟩, g4⟩, g5⟩, g6⟩, g7⟩ := hc
     subst g1 g2 g3 g4 g5
     obtain ⟨k1, k2, k3, k4⟩ := dblZ_ok g6 g7
     refine ⟨1, 65537, .exit 0, dblZ n', by rw [hN]; exact hl, by rw [hv, e0]; rfl, hh, ⟨g6, g7, by omega, by omega⟩, by unfold bigF; omega, k1, ?_⟩
     rw [hN]; exact h
  ·cases h
 ·cases h
end Go.Proofs.YtmlglimahbjgbaaGreatDoor
namespace Go.Proofs.YtmlglimahbjgbaaGreatDoor
open Go Go.Am Go.Town
set_option maxRecDepth 100000
variable {w0 : World}
def sqB (n : Int) : Bool := decide (0 ≤ n) && decide (n ≤ 1073741824)
theorem sqB_iff {n : Int} : sqB n = true ↔ 0 ≤ n ∧ n ≤ 1073741824 := by simp [sqB]
def lenK (ns : List Int) : Option (Bool × D) :=
 match ns with
 | [n] => some (sqB n, nums [lowZ n, highZ n])
 | _ => none
theorem lenK_inv {ns : List Int} {d : D} (h : lenK ns = some (true, d)) : ∃ n, ns = [n] ∧ sqB n = true ∧ d = nums [lowZ n, highZ n] := by
 unfold lenK at h
 split at h
 ·rename_i n; simp only [Option.some.injEq, Prod.mk.injEq] at h; exact ⟨n, rfl, h.1, h.2.symm⟩
 ·cases h
theorem lowZ_bound {n : Int} (h : sqB n = true) : 0 ≤ lowZ n ∧ lowZ n ≤ 32768 ∧ lowZ n * lowZ n ≤ n ∧ n < (lowZ n + 1) * (lowZ n + 1) := by
 rw [sqB_iff] at h
 obtain ⟨h1, h2, h3⟩ := lowZ_ok (n := n) h.1 (by omega)
 refine ⟨h1, ?_, h2, h3⟩
 by_cases hc : lowZ n ≤ 32768
 ·exact hc
 ·exfalso
  have : (32769 : Int) * 32769 ≤ lowZ n * lowZ n := Int.mul_le_mul (by omega) (by omega) (by omega) (by omega)
  omega
theorem rlen_good (h0 : Lib0 w0) : Good w0 ⟨35, intsF lenK⟩ := good_loops h0 (cs := []) trivial _ (fnOf Tryz.f35) rfl fun ds d h => by
 obtain ⟨ns, rfl, hk⟩ := intsF_inv h
 obtain ⟨n, rfl, hg, rfl⟩ := lenK_inv hk
 have hN : (fnOf Tryz.f35).ntmps = 35 := by kernel_rfl
 refine ⟨bigF, [⟨0, 13, binO 35⟩], 60, ?_, ?_⟩
 ·have e : obs [⟨0, 13, binO 35⟩] (fnOf Tryz.f35).body = [(⟨0, 13, binO 35⟩, 0, .loop L35)] := by kernel_rfl
  rw [e]
  intro p hp
  simp only [List.mem_singleton] at hp
  subst hp
  exact bin_ok fun n m s j h => by have := bin35_step (w0 := w0) [] n m s j h; rwa [hN] at this
 ·refine (show bodyL (cfgC w0 []) bigF [⟨0, 13, binO 35⟩] 60 (fnOf Tryz.f35) [I n] =
   bif (decide ((0 : Int) = 0) && decide ((0 : Int) = 0) && binB n 0 (W (n + 1))) then bif (W (lowZ n * lowZ n) == n) then some (nums [lowZ n, lowZ n]) else some (nums [lowZ n, W (lowZ n + 1)]) else none by kernel_rfl).trans ?_
  obtain ⟨g1, g2⟩ := sqB_iff.1 hg
  obtain ⟨k1, k2, k3, k4⟩ := lowZ_bound hg
  have e1 : W (n + 1) = n + 1 := W_in (by omega) (by omega)
  have e2 : binB n 0 (n + 1) = true := binB_iff.2 ⟨g1, g2, by simp only; omega, by simp only; omega, by simp only; omega, by simp only; omega, by
   simp only
   have : (1 : Int) * (n + 1) ≤ (n + 1) * (n + 1) := Int.mul_le_mul_of_nonneg_right (by omega) (by omega)
   omega⟩
  have e3 : W (lowZ n * lowZ n) = lowZ n * lowZ n := W_mul 32768 32768 (by omega) (by omega) (by omega) (by omega) (by omega)
  have e4 : W (lowZ n + 1) = lowZ n + 1 := W_in (by omega) (by omega)
  rw [e1, e2, e3, e4]
  unfold highZ
  cases (lowZ n * lowZ n == n) <;> rfl
theorem len_good (h0 : Lib0 w0) : Good w0 ⟨116, intsF lenK⟩ := good_loops h0 (cs := []) trivial _ (fnOf Tryz.f116) rfl fun ds d h => by
 obtain ⟨ns, rfl, hk⟩ := intsF_inv h
 obtain ⟨n, rfl, hg, rfl⟩ := lenK_inv hk
 have hN : (fnOf Tryz.f116).ntmps = 37 := by kernel_rfl
 refine ⟨bigF, [⟨0, 13, dblO 37 n⟩, ⟨2, 13, binO 37⟩], 60, ?_, ?_⟩
 ·have e : obs [⟨0, 13, dblO 37 n⟩, ⟨2, 13, binO 37⟩] (fnOf Tryz.f116).body = [(⟨0, 13, dblO 37 n⟩, 0, .loop L116a), (⟨2, 13, binO 37⟩, 2, .loop L116b)] := by kernel_rfl
  rw [e]
  intro p hp
  simp only [List.mem_cons, List.not_mem_nil, or_false] at hp
  rcases hp with rfl | rfl
  ·exact dbl_ok [] n
  ·exact bin_ok fun n m s j h => by have := bin116_step (w0 := w0) [] n m s j h; rwa [hN] at this
 ·refine (show bodyL (cfgC w0 []) bigF [⟨0, 13, dblO 37 n⟩, ⟨2, 13, binO 37⟩] 60 (fnOf Tryz.f116) [I n] =
   bif (decide ((0 : Int) = 0) && decide ((0 : Int) = 0) && decide (n = n) && decide ((0 : Int) = 0) && decide ((1 : Int) = 1) && decide (0 ≤ n) && decide (n ≤ 1073741824)) then
    bif (decide ((0 : Int) = 0) && decide ((0 : Int) = 0) && binB n 0 (dblZ n)) then bif (W (lowZ n * lowZ n) == n) then some (nums [lowZ n, lowZ n]) else some (nums [lowZ n, lowZ n + 1]) else none else none by kernel_rfl).trans ?_
  obtain ⟨g1, g2⟩ := sqB_iff.1 hg
  obtain ⟨k1, k2, k3, k4⟩ := lowZ_bound hg
  obtain ⟨_, q1, q2, q3⟩ := dblZ_ok g1 g2
  have e2 : binB n 0 (dblZ n) = true := binB_iff.2 ⟨g1, g2, by simp only; omega, by simp only; omega, by simp only; omega, by simp only; omega, q3⟩
  have e3 : W (lowZ n * lowZ n) = lowZ n * lowZ n := W_mul 32768 32768 (by omega) (by omega) (by omega) (by omega) (by omega)
  have e5 : (decide ((0 : Int) = 0) && decide ((0 : Int) = 0) && decide (n = n) && decide ((0 : Int) = 0) && decide ((1 : Int) = 1) && decide (0 ≤ n) && decide (n ≤ 1073741824)) = true := by
   simp [g1, g2]
  rw [e5, e2, e3]
  unfold highZ
  cases (lowZ n * lowZ n == n) <;> rfl
end Go.Proofs.YtmlglimahbjgbaaGreatDoor
namespace Go.Proofs.YtmlglimahbjgbaaGreatDoor
open Go Go.Am Go.Town
set_option maxRecDepth 100000
variable {w0 : World}
def okB (A B E G Q U V Y : Bool) : Bool := (A && B) || (E && G) || (!Q && (U || (V && Y)))
def tree158 {α : Type} (b A B E G Q U V Y : Bool) (NM RT EX : α) : α := bif b then bif A then bif B then NM else bif E then bif (!G) then bif Q then RT else bif (!U) then bif V then RT else bif Y then RT else NM else NM else NM else bif Q then RT else bif (!U) then bif V then RT else bif Y then RT else NM else NM else bif E then bif (!G) then bif Q then RT else bif (!U) then bif V then RT else bif Y then RT else NM else NM else NM else bif Q then RT else bif (!U) then bif V then RT else bif Y then RT else NM else NM else EX
theorem tree158_eq {α : Type} (b A B E G Q U V Y : Bool) (NM RT EX : α) : tree158 b A B E G Q U V Y NM RT EX = bif b then (bif okB A B E G Q U (!V) (!Y) then NM else RT) else EX := by
 cases b
 ·rfl
 ·cases A <;> cases B <;> cases E <;> cases G <;> cases Q <;> cases U <;> cases V <;> cases Y <;> rfl
def tree144 {α : Type} (l g A B E G Q U V Y : Bool) (NM RT EX : α) (none : α) : α := bif l then bif g then bif E then bif g then bif G then bif g then bif V then bif g then bif Y then NM else bif g then NM else none else none else bif g then NM else none else none else bif g then bif A then bif g then bif g then bif V then bif g then bif Y then bif (!B) then bif Q then RT else NM else NM else bif g then bif (!B) then bif Q then RT else bif (!U) then RT else NM else NM else none else none else bif g then bif (!B) then bif Q then RT else bif (!U) then RT else NM else NM else none else none else none else bif g then bif V then bif g then bif Y then bif Q then RT else NM else bif g then bif Q then RT else bif (!U) then RT else NM else none else none else bif g then bif Q then RT else bif (!U) then RT else NM else none else none else none else none else bif g then bif A then bif g then bif g then bif V then bif g then bif Y then bif (!B) then bif Q then RT else NM else NM else bif g then bif (!B) then bif Q then RT else bif (!U) then RT else NM else NM else none else none else bif g then bif (!B) then bif Q then RT else bif (!U) then RT else NM else NM else none else none else none else bif g then bif V then bif g then bif Y then bif Q then RT else NM else bif g then bif Q then RT else bif (!U) then RT else NM else none else none else bif g then bif Q then RT else bif (!U) then RT else NM else none else none else none else none else EX
theorem tree144_eq {α : Type} (A B E G Q U V Y : Bool) (NM RT EX none : α) : tree144 true true A B E G Q U V Y NM RT EX none = bif okB A B E G Q U V Y then NM else RT := by
 cases A <;> cases B <;> cases E <;> cases G <;> cases Q <;> cases U <;> cases V <;> cases Y <;> rfl
theorem tree144_end {α : Type} (g A B E G Q U V Y : Bool) (NM RT EX none : α) : tree144 false g A B E G Q U V Y NM RT EX none = EX := rfl
theorem okB_at (c : Nat) (q : Int) (i : Nat) (hq : q = i) : okB (decide ((c : Int) ≥ 97)) (decide ((c : Int) ≤ 122)) (decide ((c : Int) ≥ 65)) (decide ((c : Int) ≤ 90)) (q == 0) ((c : Int) == 95) (decide ((c : Int) ≥ 48)) (decide ((c : Int) ≤ 57)) =
  (letterN c || (decide (i ≠ 0) && otherN c)) := by
 subst hq
 unfold okB letterN otherN
 have e1 : decide ((c : Int) ≥ 97) = decide (97 ≤ c) := by apply decide_eq_decide.2; omega
 have e2 : decide ((c : Int) ≤ 122) = decide (c ≤ 122) := by apply decide_eq_decide.2; omega
 have e3 : decide ((c : Int) ≥ 65) = decide (65 ≤ c) := by apply decide_eq_decide.2; omega
 have e4 : decide ((c : Int) ≤ 90) = decide (c ≤ 90) := by apply decide_eq_decide.2; omega
 have e5 : ((i : Int) == 0) = !decide (i ≠ 0) := by by_cases h : i = 0 <;> simp [h]
 have e6 : ((c : Int) == 95) = decide (c = 95) := by by_cases h : c = 95 <;> simp [h] <;> omega
 have e7 : decide ((c : Int) ≥ 48) = decide (48 ≤ c) := by apply decide_eq_decide.2; omega
 have e8 : decide ((c : Int) ≤ 57) = decide (c ≤ 57) := by apply decide_eq_decide.2; omega
 rw [e1, e2, e3, e4, e5, e6, e7, e8, Bool.not_not]
theorem dec_small {s : ByteArray} {i : Nat} (h : (s.get! i).toNat < 128) : Utf8.decode s i = ((s.get! i).toNat, 1) := by
 unfold Utf8.decode
 simp only [Nat.add_zero]
 rw [if_pos h]
theorem fst_ite {p : Prop} [Decidable p] {x y : Nat × Nat} (hx : p → 128 ≤ x.1) (hy : ¬ p → 128 ≤ y.1) : 128 ≤ (if p then x else y).1 := by
 split
 ·rename_i h; exact hx h
 ·rename_i h; exact hy h
theorem and_ge {c k : Nat} {b : Bool} (h : (decide (c ≥ k) && b) = true) : k ≤ c := by
 simp only [Bool.and_eq_true, decide_eq_true_eq] at h; exact h.1
theorem dec_big {s : ByteArray} {i : Nat} (h : ¬ (s.get! i).toNat < 128) : 128 ≤ (Utf8.decode s i).1 := by
 unfold Utf8.decode
 refine fst_ite (fun h' => absurd h' h) fun _ => fst_ite (fun _ => fst_ite (fun h2 => h2) fun _ => ?_) fun _ => fst_ite (fun _ => fst_ite (fun h2 => Nat.le_trans (by decide) (and_ge h2)) fun _ => ?_) fun _ => fst_ite (fun _ => fst_ite (fun h2 => Nat.le_trans (by decide) (and_ge h2)) fun _ => ?_) fun _ => ?_
 all_goals (show 128 ≤ 65533; decide)
theorem okAt_big {s : ByteArray} {i : Nat} (h : ¬ (s.get! i).toNat < 128) : okAt s i = false := by
 unfold okAt letterN otherN
 generalize (s.get! i).toNat = c at h
 simp; omega
theorem ok_big {c : Nat} (h : 128 ≤ c) (i : Nat) : (letterN c || (decide (i ≠ 0) && otherN c)) = false := by
 unfold letterN otherN
 simp; omega
def nm158 (s : ByteArray) (pos : Nat) : X × Nat :=
 if pos < s.size then (if okAt s pos then (.normal, pos + 1) else (.ret, pos + (Utf8.decode s pos).2)) else (.exit 0, pos)
noncomputable def L158 : Code := lpB 0 (fnOf Tryz.f158).body
theorem nm158_step (cs : List Ctr) (s : ByteArray) (m : Nat) (pos : Nat) (j : Nat → Value) :
  evK (cfgC w0 cs) none (m + 14) false L158 ⟨mkT (fnOf Tryz.f158).ntmps [0, 2, 7] [.string s, .bool false, p0] j, [.iter s pos]⟩ (prj [0, 2, 7]) =
   some ((nm158 s pos).1, [.string s, .bool false, p0], (fnOf Tryz.f158).ntmps, [.iter s (nm158 s pos).2]) := by
 have t : evK (cfgC w0 cs) none (m + 14) false L158 ⟨mkT (fnOf Tryz.f158).ntmps [0, 2, 7] [.string s, .bool false, p0] j, [.iter s pos]⟩ (prj [0, 2, 7]) =
  tree158 (Nat.blt pos s.size) (decide ((((Utf8.decode s pos).1 : Nat) : Int) ≥ 97)) (decide ((((Utf8.decode s pos).1 : Nat) : Int) ≤ 122)) (decide ((((Utf8.decode s pos).1 : Nat) : Int) ≥ 65)) (decide ((((Utf8.decode s pos).1 : Nat) : Int) ≤ 90)) (((pos : Nat) : Int) == 0) ((((Utf8.decode s pos).1 : Nat) : Int) == 95) (decide ((((Utf8.decode s pos).1 : Nat) : Int) < 48)) (decide ((((Utf8.decode s pos).1 : Nat) : Int) > 57))
   (some (.normal, [.string s, .bool false, p0], (fnOf Tryz.f158).ntmps, [.iter s (pos + (Utf8.decode s pos).2)])) (some (.ret, [.string s, .bool false, p0], (fnOf Tryz.f158).ntmps, [.iter s (pos + (Utf8.decode s pos).2)])) (some (.exit 0, [.string s, .bool false, p0], (fnOf Tryz.f158).ntmps, [.iter s pos])) := by kernel_rfl
 refine t.trans ?_
 rw [tree158_eq]
 have e1 : (!decide ((((Utf8.decode s pos).1 : Nat) : Int) < 48)) = decide ((((Utf8.decode s pos).1 : Nat) : Int) ≥ 48) := by
  by_cases h : (((Utf8.decode s pos).1 : Nat) : Int) < 48 <;> simp [h] <;> omega
 have e2 : (!decide ((((Utf8.decode s pos).1 : Nat) : Int) > 57)) = decide ((((Utf8.decode s pos).1 : Nat) : Int) ≤ 57) := by
  by_cases h : (((Utf8.decode s pos).1 : Nat) : Int) > 57 <;> simp [h] <;> omega
 rw [e1, e2, okB_at _ _ pos rfl]
 unfold nm158
 by_cases hp : pos < s.size
 ·have hb : Nat.blt pos s.size = true := by rw [Nat.blt_eq]; exact hp
  rw [hb, if_pos hp]
  by_cases hc : (s.get! pos).toNat < 128
  ·rw [dec_small hc]
   show (bif true then bif okAt s pos then _ else _ else _) = _
   cases okAt s pos <;> rfl
  ·rw [ok_big (dec_big hc), okAt_big hc]; rfl
 ·have hb : Nat.blt pos s.size = false := by
   cases h : Nat.blt pos s.size with
   | false => rfl
   | true => rw [Nat.blt_eq] at h; exact absurd h hp
  rw [hb, if_neg hp]; rfl
theorem nm158_iter (s : ByteArray) : ∀ (f pos : Nat), s.size - pos = f → pos ≤ s.size → ∃ p, iterN (nm158 s) (f + 1) pos = some (bif nameFrom s f pos then (.exit 0) else .ret, p)
 | 0, pos, h, hp => by
   refine ⟨pos, ?_⟩
   unfold iterN nm158
   rw [if_neg (by omega)]; rfl
 | f + 1, pos, h, hp => by
   unfold iterN
   unfold nameFrom
   cases ho : okAt s pos with
   | true =>
     have e : nm158 s pos = (.normal, pos + 1) := by unfold nm158; rw [if_pos (by omega), ho]; rfl
     rw [e]
     simp only [Bool.true_and]
     exact nm158_iter s f (pos + 1) (by omega) (by omega)
   | false =>
     have e : nm158 s pos = (.ret, pos + (Utf8.decode s pos).2) := by unfold nm158; rw [if_pos (by omega), ho]; rfl
     rw [e]
     exact ⟨_, rfl⟩
def endP (s : ByteArray) : Nat := match iterN (nm158 s) (s.size + 1) 0 with
 | some (_, p) => p
 | none => 0
def isZero (n : Nat) : Bool := Nat.beq n 0
def nm158O (F : Nat) : Ora := fun j s k =>
 match Nat.beq s.tmps.length 51, relV [0, 2, 7] s.tmps, s.heap with
 | true, [.string a, .bool false, q], [.iter b pos] =>
   match isPtr q K0 && isZero pos with
   | true => cond (a.data.toList == b.data.toList && decide (b.size + 1 ≤ F)) (cond (nameFrom b b.size 0) (k .normal ⟨mkT 51 [0, 2, 7] [.string b, .bool false, p0] j, [.iter b (endP b)]⟩) (k .ret ⟨mkT 51 [0, 2, 7] [.string b, .bool false, p0] j, [.iter b (endP b)]⟩)) none
   | false => none
 | _, _, _ => none
theorem bytes_eq {a b : ByteArray} (h : (a.data.toList == b.data.toList) = true) : a = b := by
 obtain ⟨⟨x⟩⟩ := a
 obtain ⟨⟨y⟩⟩ := b
 simp at h
 subst h; rfl
theorem nm158_ok (cs : List Ctr) (F : Nat) : OraOK (cfgC w0 cs) F 15 (nm158O F) 0 (.loop L158) := by
 have hN : (fnOf Tryz.f158).ntmps = 51 := by kernel_rfl
 intro m hm s k d hd
 have main : ∀ b : ByteArray, s.tmps.length = 51 → relV [0, 2, 7] s.tmps = [.string b, .bool false, p0] → s.heap = [.iter b 0] → b.size + 1 ≤ F →
   k (bif nameFrom b b.size 0 then .normal else .ret) ⟨mkT 51 [0, 2, 7] [.string b, .bool false, p0] (junk (cfgC w0 cs) (F + m) 0 (.loop L158) s), [.iter b (endP b)]⟩ = some d →
   ∃ x s', ev (cfgC w0 cs) (F + m) false (.block 0 (.loop L158)) s = some (x, s') ∧ k x s' = some d := by
  intro b hl hv hh hF hk
  refine ora_loop (c := 14) (o := fun j s' k => match (Classical.propDecidable (s' = s)).decide with | true => k (bif nameFrom b b.size 0 then .normal else .ret) ⟨mkT 51 [0, 2, 7] [.string b, .bool false, p0] j, [.iter b (endP b)]⟩ | false => none) (vals := fun _ => [.string b, .bool false, p0]) (hp := fun pos => [.iter b pos]) (next := nm158 b) (inv := fun _ => True) (fun _ _ _ _ => trivial) (fun m a j _ => nm158_step cs b m a j) ?_ m hm s k d ?_
  ·intro j s' k' d' h'
   cases hc : (Classical.propDecidable (s' = s)).decide with
   | false => rw [hc] at h'; cases h'
   | true =>
     rw [hc] at h'
     have e := @of_decide_eq_true _ (Classical.propDecidable _) hc
     subst e
     obtain ⟨p, hp⟩ := nm158_iter b b.size 0 (by omega) (by omega)
     have ep : endP b = p := by unfold endP; rw [hp]
     refine ⟨0, b.size + 1, bif nameFrom b b.size 0 then (.exit 0) else .ret, p, by rw [hN]; exact hl, hv, hh, trivial, hF, hp, ?_⟩
     rw [hN]
     rw [ep] at h'
     have : outX 0 (bif nameFrom b b.size 0 then (.exit 0) else .ret) = (bif nameFrom b b.size 0 then .normal else .ret) := by cases nameFrom b b.size 0 <;> rfl
     rw [this]; exact h'
  ·simp only
   exact hk
 unfold nm158O at hd
 split at hd
 ·rename_i a q b pos hl hv hh
  rw [Nat.beq_eq] at hl
  split at hd
  ·rename_i hq
   simp only [Bool.and_eq_true, isZero, Nat.beq_eq] at hq
   have e0 := isPtr_eq hq.1
   cases hc : (a.data.toList == b.data.toList && decide (b.size + 1 ≤ F)) with
   | false => rw [hc] at hd; cases hd
   | true =>
     rw [hc] at hd
     simp only [Bool.and_eq_true, decide_eq_true_eq] at hc
     obtain ⟨g1, g2⟩ := hc
     have g1 := bytes_eq g1
     subst g1
     refine main a hl (by rw [hv, e0]; rfl) (by rw [hh, hq.2]) g2 ?_
     cases hn : nameFrom a a.size 0 <;> rw [hn] at hd <;> exact hd
  ·cases hd
 ·cases hd
theorem empty_bytes (s : ByteArray) : (s.toList == (ByteArray.mk #[]).toList) = decide (s.size = 0) := by
 rw [← beq_toListBytes]
 obtain ⟨⟨x⟩⟩ := s
 cases x with
 | nil => rfl
 | cons a l => rfl
theorem name_good (h0 : Lib0 w0) : Good w0 ⟨158, nameF⟩ := good_loops h0 (cs := []) trivial _ (fnOf Tryz.f158) rfl fun ds d h => by
 obtain ⟨s, rfl, rfl⟩ := nameF_inv h
 refine ⟨s.size + 1, [⟨0, 15, nm158O (s.size + 1)⟩], 60, ?_, ?_⟩
 ·have e : obs [⟨0, 15, nm158O (s.size + 1)⟩] (fnOf Tryz.f158).body = [(⟨0, 15, nm158O (s.size + 1)⟩, 0, .loop L158)] := by kernel_rfl
  rw [e]
  intro p hp
  simp only [List.mem_singleton] at hp
  subst hp
  exact nm158_ok [] _
 ·refine (show bodyL (cfgC w0 []) (s.size + 1) [⟨0, 15, nm158O (s.size + 1)⟩] 60 (fnOf Tryz.f158) [Str s] =
   bif (s.data.toList == s.data.toList && decide (s.size + 1 ≤ s.size + 1)) then bif nameFrom s s.size 0 then bif (!(s.toList == (ByteArray.mk #[]).toList)) then some (Bo (decide ((s.size : Int) ≤ 24))) else some (Bo false) else some (Bo false) else none by kernel_rfl).trans ?_
  rw [show (s.data.toList == s.data.toList && decide (s.size + 1 ≤ s.size + 1)) = true by simp, empty_bytes]
  unfold isName
  have e2 : decide ((s.size : Int) ≤ 24) = decide (s.size ≤ 24) := by apply decide_eq_decide.2; omega
  rw [e2]
  by_cases hz : s.size = 0
  ·simp [hz]
  ·simp [hz]
   cases nameFrom s s.size 0 <;> simp
def nm144 (s : ByteArray) (i : Nat) : X × Nat :=
 if i < s.size then (if okAt s i then (.normal, i + 1) else (.ret, i)) else (.exit 0, i)
noncomputable def L144 : Code := lpB 0 (fnOf Tryz.f144).body
def nm144I (s : ByteArray) (i : Nat) : Prop := s.size ≤ 24 ∧ i ≤ s.size
theorem nm144_next (s : ByteArray) (a b : Nat) (ha : nm144I s a) (h : nm144 s a = (.normal, b)) : nm144I s b := by
 unfold nm144 at h
 split at h
 ·split at h
  ·simp only [Prod.mk.injEq, true_and] at h; subst h; exact ⟨ha.1, by omega⟩
  ·simp at h
 ·simp at h
theorem nm144_step (cs : List Ctr) (s : ByteArray) (m : Nat) (i : Nat) (j : Nat → Value) (hi : nm144I s i) :
  evK (cfgC w0 cs) none (m + 14) false L144 ⟨mkT (fnOf Tryz.f144).ntmps [0, 2, 3] [.string s, .bool false, iv (i : Nat)] j, []⟩ (prj [0, 2, 3]) =
   some ((nm144 s i).1, [.string s, .bool false, iv ((nm144 s i).2 : Nat)], (fnOf Tryz.f144).ntmps, []) := by
 have t : evK (cfgC w0 cs) none (m + 14) false L144 ⟨mkT (fnOf Tryz.f144).ntmps [0, 2, 3] [.string s, .bool false, iv (i : Nat)] j, []⟩ (prj [0, 2, 3]) =
  tree144 (decide (((i : Nat) : Int) < s.size)) (decide (0 ≤ ((i : Nat) : Int)) && decide (((i : Nat) : Int) < s.size)) (decide ((((s.get! ((i : Nat) : Int).toNat).toNat : Nat) : Int) ≥ 97)) (decide ((((s.get! ((i : Nat) : Int).toNat).toNat : Nat) : Int) ≤ 122)) (decide ((((s.get! ((i : Nat) : Int).toNat).toNat : Nat) : Int) ≥ 65)) (decide ((((s.get! ((i : Nat) : Int).toNat).toNat : Nat) : Int) ≤ 90)) (((i : Nat) : Int) == 0) ((((s.get! ((i : Nat) : Int).toNat).toNat : Nat) : Int) == 95) (decide ((((s.get! ((i : Nat) : Int).toNat).toNat : Nat) : Int) ≥ 48)) (decide ((((s.get! ((i : Nat) : Int).toNat).toNat : Nat) : Int) ≤ 57))
   (some (.normal, [.string s, .bool false, iv (W (((i : Nat) : Int) + 1))], (fnOf Tryz.f144).ntmps, [])) (some (.ret, [.string s, .bool false, iv (i : Nat)], (fnOf Tryz.f144).ntmps, [])) (some (.exit 0, [.string s, .bool false, iv (i : Nat)], (fnOf Tryz.f144).ntmps, [])) none := by kernel_rfl
 refine t.trans ?_
 unfold nm144
 obtain ⟨h1, h2⟩ := hi
 by_cases hp : i < s.size
 ·have e1 : decide (((i : Nat) : Int) < s.size) = true := decide_eq_true (by omega)
  have e2 : decide (0 ≤ ((i : Nat) : Int)) = true := decide_eq_true (by omega)
  have e3 : W (((i : Nat) : Int) + 1) = ((i + 1 : Nat) : Int) := by rw [W_in (by omega) (by omega)]; omega
  rw [e1, e2, Bool.and_self, tree144_eq, okB_at _ _ i rfl, Int.toNat_natCast, e3, if_pos hp]
  show (bif okAt s i then _ else _) = _
  cases okAt s i <;> rfl
 ·have e1 : decide (((i : Nat) : Int) < s.size) = false := decide_eq_false (by omega)
  rw [e1, tree144_end, if_neg hp]
theorem nm144_iter (s : ByteArray) : ∀ (f i : Nat), s.size - i = f → i ≤ s.size → ∃ p, iterN (nm144 s) (f + 1) i = some (bif nameFrom s f i then (.exit 0) else .ret, p)
 | 0, pos, h, hp => by
   refine ⟨pos, ?_⟩
   unfold iterN nm144
   rw [if_neg (by omega)]; rfl
 | f + 1, pos, h, hp => by
   unfold iterN
   unfold nameFrom
   cases ho : okAt s pos with
   | true =>
     have e : nm144 s pos = (.normal, pos + 1) := by unfold nm144; rw [if_pos (by omega), ho]; rfl
     rw [e]
     simp only [Bool.true_and]
     exact nm144_iter s f (pos + 1) (by omega) (by omega)
   | false =>
     have e : nm144 s pos = (.ret, pos) := by unfold nm144; rw [if_pos (by omega), ho]; rfl
     rw [e]
     exact ⟨_, rfl⟩
def endQ (s : ByteArray) : Nat := match iterN (nm144 s) (s.size + 1) 0 with
 | some (_, p) => p
 | none => 0
def nm144O (F N : Nat) : Ora := fun j s k =>
 match Nat.beq s.tmps.length N, relV [0, 2, 3] s.tmps, s.heap with
 | true, [.string b, .bool false, .int .i64 i], [] =>
   cond (decide (i = 0) && decide (b.size ≤ 24) && decide (b.size + 1 ≤ F)) (cond (nameFrom b b.size 0) (k .normal ⟨mkT N [0, 2, 3] [.string b, .bool false, iv (endQ b : Nat)] j, []⟩) (k .ret ⟨mkT N [0, 2, 3] [.string b, .bool false, iv (endQ b : Nat)] j, []⟩)) none
 | _, _, _ => none
theorem nm144_ok (cs : List Ctr) (F : Nat) : OraOK (cfgC w0 cs) F 15 (nm144O F 68) 0 (.loop L144) := by
 have hN : (fnOf Tryz.f144).ntmps = 68 := by kernel_rfl
 intro m hm s k d hd
 have main : ∀ b : ByteArray, s.tmps.length = 68 → relV [0, 2, 3] s.tmps = [.string b, .bool false, iv 0] → s.heap = [] → b.size ≤ 24 → b.size + 1 ≤ F →
   k (bif nameFrom b b.size 0 then .normal else .ret) ⟨mkT 68 [0, 2, 3] [.string b, .bool false, iv (endQ b : Nat)] (junk (cfgC w0 cs) (F + m) 0 (.loop L144) s), []⟩ = some d →
   ∃ x s', ev (cfgC w0 cs) (F + m) false (.block 0 (.loop L144)) s = some (x, s') ∧ k x s' = some d := by
  intro b hl hv hh h24 hF hk
  refine ora_loop (c := 14) (o := fun j s' k => match (Classical.propDecidable (s' = s)).decide with | true => k (bif nameFrom b b.size 0 then .normal else .ret) ⟨mkT 68 [0, 2, 3] [.string b, .bool false, iv (endQ b : Nat)] j, []⟩ | false => none) (vals := fun (i : Nat) => [.string b, .bool false, iv (i : Nat)]) (hp := fun _ => []) (next := nm144 b) (inv := nm144I b) (fun x y => nm144_next b x y) (fun m a j h => nm144_step cs b m a j h) ?_ m hm s k d ?_
  ·intro j s' k' d' h'
   cases hc : (Classical.propDecidable (s' = s)).decide with
   | false => rw [hc] at h'; cases h'
   | true =>
     rw [hc] at h'
     have e := @of_decide_eq_true _ (Classical.propDecidable _) hc
     subst e
     obtain ⟨p, hp⟩ := nm144_iter b b.size 0 (by omega) (by omega)
     have ep : endQ b = p := by unfold endQ; rw [hp]
     refine ⟨0, b.size + 1, bif nameFrom b b.size 0 then (.exit 0) else .ret, p, by rw [hN]; exact hl, hv, hh, ⟨h24, by omega⟩, hF, hp, ?_⟩
     rw [hN]
     rw [ep] at h'
     have : outX 0 (bif nameFrom b b.size 0 then (.exit 0) else .ret) = (bif nameFrom b b.size 0 then .normal else .ret) := by cases nameFrom b b.size 0 <;> rfl
     rw [this]; exact h'
  ·simp only
   exact hk
 unfold nm144O at hd
 split at hd
 ·rename_i b i hl hv hh
  rw [Nat.beq_eq] at hl
  cases hc : (decide (i = 0) && decide (b.size ≤ 24) && decide (b.size + 1 ≤ F)) with
  | false => rw [hc] at hd; cases hd
  | true =>
    rw [hc] at hd
    simp only [Bool.and_eq_true, decide_eq_true_eq] at hc
    obtain ⟨⟨g1, g2⟩, g3⟩ := hc
    subst g1
    refine main b hl hv hh g2 g3 ?_
    cases hn : nameFrom b b.size 0 <;> rw [hn] at hd <;> exact hd
 ·cases hd
theorem rname_good (h0 : Lib0 w0) : Good w0 ⟨144, nameF⟩ := good_loops h0 (cs := []) trivial _ (fnOf Tryz.f144) rfl fun ds d h => by
 obtain ⟨s, rfl, rfl⟩ := nameF_inv h
 refine ⟨s.size + 1, [⟨0, 15, nm144O (s.size + 1) 68⟩], 60, ?_, ?_⟩
 ·have e : obs [⟨0, 15, nm144O (s.size + 1) 68⟩] (fnOf Tryz.f144).body = [(⟨0, 15, nm144O (s.size + 1) 68⟩, 0, .loop L144)] := by kernel_rfl
  rw [e]
  intro p hp
  simp only [List.mem_singleton] at hp
  subst hp
  exact nm144_ok [] _
 ·refine (show bodyL (cfgC w0 []) (s.size + 1) [⟨0, 15, nm144O (s.size + 1) 68⟩] 60 (fnOf Tryz.f144) [Str s] =
   bif ((s.size : Int) == 0) then some (Bo false) else bif decide ((s.size : Int) > 24) then some (Bo false) else
   bif (decide ((0 : Int) = 0) && decide (s.size ≤ 24) && decide (s.size + 1 ≤ s.size + 1)) then bif nameFrom s s.size 0 then some (Bo true) else some (Bo false) else none by kernel_rfl).trans ?_
  unfold isName
  by_cases hz : s.size = 0
  ·simp [hz]
  ·have e1 : ((s.size : Int) == 0) = false := by simp [hz]
   rw [e1]
   by_cases hb : s.size ≤ 24
   ·have e2 : decide ((s.size : Int) > 24) = false := decide_eq_false (by omega)
    rw [e2]
    simp [hz, hb]
    cases nameFrom s s.size 0 <;> rfl
   ·have e2 : decide ((s.size : Int) > 24) = true := decide_eq_true (by omega)
    rw [e2]
    simp [hb]
end Go.Proofs.YtmlglimahbjgbaaGreatDoor
namespace Go.Proofs.YtmlglimahbjgbaaGreatDoor
open Go Go.Am Go.Town
set_option maxRecDepth 100000
variable {w0 : World}
def sqZ (a b c d e f : Int) : Int := W (W (W (W (a - d) * W (a - d)) + W (W (b - e) * W (b - e))) + W (W (c - f) * W (c - f)))
def sqrF : List D → Option (Bool × D) := aggF (three fun a b c => aggF (three fun d e f => endF true (I (sqZ a b c d e f))))
theorem apart_good (h0 : Lib0 w0) : Good w0 ⟨167, sqrF⟩ := good_body h0 (cs := []) trivial _ (fnOf Tryz.f167) rfl fun ds d h => by
 obtain ⟨ns, r, rfl, hk⟩ := aggF_inv h
 obtain ⟨x, y, z, rfl, hk1⟩ := three_inv hk
 obtain ⟨ns2, r2, rfl, hk2⟩ := aggF_inv hk1
 obtain ⟨x', y', z', rfl, hk3⟩ := three_inv hk2
 obtain ⟨rfl, _, rfl⟩ := endF_inv hk3
 exact ⟨40, show bodyK (cfgC w0 []) 40 (fnOf Tryz.f167) [nums [x, y, z], nums [x', y', z']] = some (I (sqZ x y z x' y' z')) by kernel_rfl⟩
theorem rsquare_good (h0 : Lib0 w0) : Good w0 ⟨81, sqrF⟩ := good_body h0 (cs := []) trivial _ (fnOf Tryz.f81) rfl fun ds d h => by
 obtain ⟨ns, r, rfl, hk⟩ := aggF_inv h
 obtain ⟨x, y, z, rfl, hk1⟩ := three_inv hk
 obtain ⟨ns2, r2, rfl, hk2⟩ := aggF_inv hk1
 obtain ⟨x', y', z', rfl, hk3⟩ := three_inv hk2
 obtain ⟨rfl, _, rfl⟩ := endF_inv hk3
 exact ⟨40, show bodyK (cfgC w0 []) 40 (fnOf Tryz.f81) [nums [x, y, z], nums [x', y', z']] = some (I (sqZ x y z x' y' z')) by kernel_rfl⟩
def detL (A B C : Int) : Int := if W (W (lowZ A + lowZ B) - highZ C) > 0 then W (W (lowZ A + lowZ B) - highZ C) else 0
def detH (A B C : Int) : Int := W (W (highZ A + highZ B) - lowZ C)
def detF : List D → Option (Bool × D) := aggF (three fun a b c => aggF (three fun d e f => aggF (three fun g h i =>
 endF (sqB (sqZ a b c d e f) && (sqB (sqZ d e f g h i) && sqB (sqZ a b c g h i))) (nums [detL (sqZ a b c d e f) (sqZ d e f g h i) (sqZ a b c g h i), detH (sqZ a b c d e f) (sqZ d e f g h i) (sqZ a b c g h i)]))))
theorem detF_inv {ds : List D} {d : D} (h : detF ds = some (true, d)) : ∃ a b c d' e f g h' i, ds = [nums [a, b, c], nums [d', e, f], nums [g, h', i]] ∧ sqB (sqZ a b c d' e f) = true ∧ sqB (sqZ d' e f g h' i) = true ∧ sqB (sqZ a b c g h' i) = true ∧
  d = nums [detL (sqZ a b c d' e f) (sqZ d' e f g h' i) (sqZ a b c g h' i), detH (sqZ a b c d' e f) (sqZ d' e f g h' i) (sqZ a b c g h' i)] := by
 obtain ⟨ns, r, rfl, hk⟩ := aggF_inv h
 obtain ⟨x, y, z, rfl, hk1⟩ := three_inv hk
 obtain ⟨ns2, r2, rfl, hk2⟩ := aggF_inv hk1
 obtain ⟨x', y', z', rfl, hk3⟩ := three_inv hk2
 obtain ⟨ns3, r3, rfl, hk4⟩ := aggF_inv hk3
 obtain ⟨x2, y2, z2, rfl, hk5⟩ := three_inv hk4
 obtain ⟨rfl, hg, rfl⟩ := endF_inv hk5
 simp only [Bool.and_eq_true] at hg
 exact ⟨x, y, z, x', y', z', x2, y2, z2, rfl, hg.1, hg.2.1, hg.2.2, rfl⟩
theorem detour_good (h0 : Lib0 w0) : Good w0 ⟨117, detF⟩ := good_body h0 (cs := [⟨167, sqrF⟩, ⟨116, intsF lenK⟩]) ⟨apart_good h0, len_good h0, trivial⟩ _ (fnOf Tryz.f117) rfl fun ds d h => by
 obtain ⟨a, b, c, d', e, f, g, h', i, rfl, g1, g2, g3, rfl⟩ := detF_inv h
 refine ⟨60, (show bodyK (cfgC w0 [⟨167, sqrF⟩, ⟨116, intsF lenK⟩]) 60 (fnOf Tryz.f117) [nums [a, b, c], nums [d', e, f], nums [g, h', i]] =
  bif sqB (sqZ a b c d' e f) then bif sqB (sqZ d' e f g h' i) then bif sqB (sqZ a b c g h' i) then some (nums [detL (sqZ a b c d' e f) (sqZ d' e f g h' i) (sqZ a b c g h' i), detH (sqZ a b c d' e f) (sqZ d' e f g h' i) (sqZ a b c g h' i)]) else none else none else none by kernel_rfl).trans ?_⟩
 rw [g1, g2, g3]; rfl
theorem rdetour_good (h0 : Lib0 w0) : Good w0 ⟨36, detF⟩ := good_body h0 (cs := [⟨81, sqrF⟩, ⟨35, intsF lenK⟩]) ⟨rsquare_good h0, rlen_good h0, trivial⟩ _ (fnOf Tryz.f36) rfl fun ds d h => by
 obtain ⟨a, b, c, d', e, f, g, h', i, rfl, g1, g2, g3, rfl⟩ := detF_inv h
 refine ⟨60, (show bodyK (cfgC w0 [⟨81, sqrF⟩, ⟨35, intsF lenK⟩]) 60 (fnOf Tryz.f36) [nums [a, b, c], nums [d', e, f], nums [g, h', i]] =
  bif sqB (sqZ a b c d' e f) then bif sqB (sqZ d' e f g h' i) then bif sqB (sqZ a b c g h' i) then some (nums [detL (sqZ a b c d' e f) (sqZ d' e f g h' i) (sqZ a b c g h' i), detH (sqZ a b c d' e f) (sqZ d' e f g h' i) (sqZ a b c g h' i)]) else none else none else none by kernel_rfl).trans ?_⟩
 rw [g1, g2, g3]; rfl
def treeT {α : Type} (A B A' B' : Bool) (Z N : α) : α := bif A then bif B then Z else bif A' then bif B' then Z else N else N else bif A' then bif B' then Z else N else N
def treeEx {α : Type} (X1 X2 A B A' B' : Bool) (Z N : α) : α := bif !X1 then bif !X2 then Z else treeT A B A' B' Z N else treeT A B A' B' Z N
theorem treeEx_eq {α : Type} (X1 X2 A B A' B' : Bool) (Z N : α) : treeEx X1 X2 A B A' B' Z N = bif (X1 || X2) && !((A && B) || (A' && B')) then N else Z := by
 cases X1 <;> cases X2 <;> cases A <;> cases B <;> cases A' <;> cases B' <;> rfl
theorem cmp_one (p : Int) : (cmpZ p 0 == 1) = decide (0 < p) := by
 unfold cmpZ
 by_cases h : p < 0
 ·have : ¬ 0 < p := by omega
  simp [h, this]
 ·by_cases h2 : 0 < p <;> simp [h, h2]
theorem cmp_neg (p : Int) : (cmpZ p 0 == -1) = decide (p < 0) := by
 unfold cmpZ
 by_cases h : p < 0
 ·simp [h]
 ·by_cases h2 : 0 < p <;> simp [h, h2]
def exD (p q a b h sz tz den : Int) : D :=
 .tup [nums [bif meetsZ p q a b then numZ p q h sz tz den else 0, bif meetsZ p q a b then denZ p q den else 0], Bo (meetsZ p q a b && decide (numZ p q h sz tz den > 0))]
def excessF : List D → Option (Bool × D) := wallF fun _ ax ay bx by' h _ => aggF (three fun sx sy sz => aggF (four fun tx ty tz den =>
 endF true (exD (sideZ ax ay bx by' sx sy 1) (sideZ ax ay bx by' tx ty den) (besideZ sx sy tx ty den ax ay) (besideZ sx sy tx ty den bx by') h sz tz den)))
theorem excess_good (h0 : Lib0 w0) : Good w0 ⟨105, excessF⟩ := good_body h0 (cs := [⟨101, intsF cmpK⟩]) ⟨cmp_good h0, trivial⟩ _ (fnOf Tryz.f105) rfl fun ds d h => by
 obtain ⟨nm, ax, ay, bx, by', hh, e, r, rfl, hk⟩ := wallF_inv h
 obtain ⟨ns, r, rfl, hk0⟩ := aggF_inv hk
 obtain ⟨sx, sy, sz, rfl, hk1⟩ := three_inv hk0
 obtain ⟨ns2, r2, rfl, hk2⟩ := aggF_inv hk1
 obtain ⟨tx, ty, tz, den, rfl, hk3⟩ := four_inv hk2
 obtain ⟨rfl, _, rfl⟩ := endF_inv hk3
 refine ⟨60, (show bodyK (cfgC w0 [⟨101, intsF cmpK⟩]) 60 (fnOf Tryz.f105) [wall nm ax ay bx by' hh e, nums [sx, sy, sz], nums [tx, ty, tz, den]] =
  treeEx ((cmpZ (sideZ ax ay bx by' sx sy 1) 0 == 1) && ((cmpZ (sideZ ax ay bx by' tx ty den) 0 == -1) && true)) ((cmpZ (sideZ ax ay bx by' sx sy 1) 0 == -1) && ((cmpZ (sideZ ax ay bx by' tx ty den) 0 == 1) && true))
   (decide (besideZ sx sy tx ty den ax ay > 0)) (decide (besideZ sx sy tx ty den bx by' > 0)) (decide (besideZ sx sy tx ty den ax ay < 0)) (decide (besideZ sx sy tx ty den bx by' < 0))
   (some (.tup [nums [0, 0], Bo false])) (some (.tup [nums [numZ (sideZ ax ay bx by' sx sy 1) (sideZ ax ay bx by' tx ty den) hh sz tz den, denZ (sideZ ax ay bx by' sx sy 1) (sideZ ax ay bx by' tx ty den) den], Bo (decide (numZ (sideZ ax ay bx by' sx sy 1) (sideZ ax ay bx by' tx ty den) hh sz tz den > 0))])) by kernel_rfl).trans ?_⟩
 rw [treeEx_eq, cmp_one, cmp_one, cmp_neg, cmp_neg, Bool.and_true, Bool.and_true]
 unfold exD
 show (bif meetsZ (sideZ ax ay bx by' sx sy 1) (sideZ ax ay bx by' tx ty den) (besideZ sx sy tx ty den ax ay) (besideZ sx sy tx ty den bx by') then _ else _) = _
 cases meetsZ (sideZ ax ay bx by' sx sy 1) (sideZ ax ay bx by' tx ty den) (besideZ sx sy tx ty den ax ay) (besideZ sx sy tx ty den bx by') <;> rfl
structure Small (ax ay bx by' h sx sy sz rx ry rz : Int) : Prop where
 a1 : -1000 ≤ ax ∧ ax ≤ 1000
 a2 : -1000 ≤ ay ∧ ay ≤ 1000
 b1 : -1000 ≤ bx ∧ bx ≤ 1000
 b2 : -1000 ≤ by' ∧ by' ≤ 1000
 hh : 1 ≤ h ∧ h ≤ 1000
 s1 : -1000 ≤ sx ∧ sx ≤ 1000
 s2 : -1000 ≤ sy ∧ sy ≤ 1000
 s3 : 0 ≤ sz ∧ sz ≤ 1000
 r1 : -1000 ≤ rx ∧ rx ≤ 1000
 r2 : -1000 ≤ ry ∧ ry ≤ 1000
 r3 : 0 ≤ rz ∧ rz ≤ 1000
def errZ (nm : ByteArray) (ax ay bx by' h e sx sy sz rx ry rz : Int) : Int := firstZ [chkWall nm ax ay bx by' h e, chkSpot sx sy sz, chkSpot rx ry rz]
theorem errZ_small {nm : ByteArray} {ax ay bx by' h e sx sy sz rx ry rz : Int} (hz : errZ nm ax ay bx by' h e sx sy sz rx ry rz = 0) : Small ax ay bx by' h sx sy sz rx ry rz := by
 unfold errZ at hz
 rw [firstZ_nil] at hz
 have h1 := hz (chkWall nm ax ay bx by' h e) (by simp)
 have h2 := hz (chkSpot sx sy sz) (by simp)
 have h3 := hz (chkSpot rx ry rz) (by simp)
 unfold chkWall at h1
 unfold chkSpot at h2 h3
 rw [firstZ_nil] at h1 h2 h3
 refine ⟨withinZ_nil.1 (h1 _ (by simp)), withinZ_nil.1 (h1 _ (by simp)), withinZ_nil.1 (h1 _ (by simp)), withinZ_nil.1 (h1 _ (by simp)), withinZ_nil.1 (h1 (withinZ h 1 1000) (by simp)), withinZ_nil.1 (h2 _ (by simp)), withinZ_nil.1 (h2 _ (by simp)), withinZ_nil.1 (h2 _ (by simp)), withinZ_nil.1 (h3 _ (by simp)), withinZ_nil.1 (h3 _ (by simp)), withinZ_nil.1 (h3 _ (by simp))⟩
theorem side_bound {ax ay bx by' px py : Int} (a1 : -1000 ≤ ax ∧ ax ≤ 1000) (a2 : -1000 ≤ ay ∧ ay ≤ 1000) (b1 : -1000 ≤ bx ∧ bx ≤ 1000) (b2 : -1000 ≤ by' ∧ by' ≤ 1000) (p1 : -1000 ≤ px ∧ px ≤ 1000) (p2 : -1000 ≤ py ∧ py ≤ 1000) :
  -8000000 ≤ sideZ ax ay bx by' px py 1 ∧ sideZ ax ay bx by' px py 1 ≤ 8000000 ∧ sideZ ax ay bx by' px py 1 = (bx - ax) * (py - ay) - (by' - ay) * (px - ax) := by
 unfold sideZ
 rw [Int.mul_one, Int.mul_one, W_in (n := ay) (by omega) (by omega), W_in (n := ax) (by omega) (by omega), W_in (n := bx - ax) (by omega) (by omega), W_in (n := py - ay) (by omega) (by omega), W_in (n := by' - ay) (by omega) (by omega), W_in (n := px - ax) (by omega) (by omega)]
 have m1 := mul_bound (a := bx - ax) (b := py - ay) (A := 2000) (B := 2000) (by omega) (by omega) (by omega) (by omega)
 have m2 := mul_bound (a := by' - ay) (b := px - ax) (A := 2000) (B := 2000) (by omega) (by omega) (by omega) (by omega)
 generalize (bx - ax) * (py - ay) = u at *
 generalize (by' - ay) * (px - ax) = v at *
 rw [W_in (n := u) (by omega) (by omega), W_in (n := v) (by omega) (by omega), W_in (n := u - v) (by omega) (by omega)]
 omega
theorem absZ_small {n : Int} (h : -8000000 ≤ n ∧ n ≤ 8000000) : absZ n = (n.natAbs : Nat) ∧ 0 ≤ absZ n ∧ absZ n ≤ 8000000 := by
 have e := absZ_nat (n := n) (by rw [rng_iff]; omega)
 rw [e]; omega
theorem numden {p q h sz tz : Int} (hp : -8000000 ≤ p ∧ p ≤ 8000000) (hq : -8000000 ≤ q ∧ q ≤ 8000000) (hh : 1 ≤ h ∧ h ≤ 1000) (hs : 0 ≤ sz ∧ sz ≤ 1000) (ht : 0 ≤ tz ∧ tz ≤ 1000) :
  denZ p q 1 = absZ p + absZ q ∧ numZ p q h sz tz 1 = h * (absZ p + absZ q) - absZ q * sz - absZ p * tz ∧ -16000000000 ≤ numZ p q h sz tz 1 ∧ numZ p q h sz tz 1 ≤ 16000000000 := by
 obtain ⟨_, p1, p2⟩ := absZ_small hp
 obtain ⟨_, q1, q2⟩ := absZ_small hq
 generalize hP : absZ p = P at *
 generalize hQ : absZ q = Q at *
 have d : denZ p q 1 = P + Q := by
  unfold denZ
  rw [hP, hQ, Int.mul_one, W_in (n := P) (by omega) (by omega), W_in (n := P + Q) (by omega) (by omega)]
 have m1 := mul_bound (a := h) (b := P + Q) (A := 1000) (B := 16000000) (by omega) (by omega) (by omega) (by omega)
 have m2 := mul_bound (a := Q) (b := sz) (A := 8000000) (B := 1000) (by omega) (by omega) (by omega) (by omega)
 have m3 := mul_bound (a := P) (b := tz) (A := 8000000) (B := 1000) (by omega) (by omega) (by omega) (by omega)
 have g1 : 0 ≤ h * (P + Q) := Int.mul_nonneg (by omega) (by omega)
 have g2 : 0 ≤ Q * sz := Int.mul_nonneg (by omega) (by omega)
 have g3 : 0 ≤ P * tz := Int.mul_nonneg (by omega) (by omega)
 have n : numZ p q h sz tz 1 = h * (P + Q) - Q * sz - P * tz := by
  unfold numZ
  rw [d, hP, hQ]
  generalize h * (P + Q) = u at *
  generalize Q * sz = v at *
  generalize P * tz = x at *
  rw [W_in (n := u) (by omega) (by omega), W_in (n := v) (by omega) (by omega), W_in (n := x) (by omega) (by omega), W_in (n := u - v) (by omega) (by omega), W_in (n := u - v - x) (by omega) (by omega)]
 refine ⟨d, n, ?_⟩
 rw [n]
 omega
theorem sq_small {a b c d e f : Int} (h1 : -1000 ≤ a ∧ a ≤ 1000) (h2 : -1000 ≤ b ∧ b ≤ 1000) (h3 : 0 ≤ c ∧ c ≤ 1000) (h4 : -1000 ≤ d ∧ d ≤ 1000) (h5 : -1000 ≤ e ∧ e ≤ 1000) (h6 : 0 ≤ f ∧ f ≤ 1000) : sqB (sqZ a b c d e f) = true := by
 rw [sqB_iff]
 unfold sqZ
 rw [W_in (n := a - d) (by omega) (by omega), W_in (n := b - e) (by omega) (by omega), W_in (n := c - f) (by omega) (by omega)]
 have m1 := mul_bound (a := a - d) (b := a - d) (A := 2000) (B := 2000) (by omega) (by omega) (by omega) (by omega)
 have m2 := mul_bound (a := b - e) (b := b - e) (A := 2000) (B := 2000) (by omega) (by omega) (by omega) (by omega)
 have m3 := mul_bound (a := c - f) (b := c - f) (A := 2000) (B := 2000) (by omega) (by omega) (by omega) (by omega)
 have sq : ∀ x : Int, 0 ≤ x * x := fun x => by
  rcases Int.le_total 0 x with hx | hx
  ·exact Int.mul_nonneg hx hx
  ·exact Int.mul_nonneg_of_nonpos_of_nonpos hx hx
 have g1 := sq (a - d)
 have g2 := sq (b - e)
 have g3 := sq (c - f)
 generalize (a - d) * (a - d) = u at *
 generalize (b - e) * (b - e) = v at *
 generalize (c - f) * (c - f) = x at *
 rw [W_in (n := u) (by omega) (by omega), W_in (n := v) (by omega) (by omega), W_in (n := x) (by omega) (by omega), W_in (n := u + v) (by omega) (by omega), W_in (n := u + v + x) (by omega) (by omega)]
 omega
end Go.Proofs.YtmlglimahbjgbaaGreatDoor
namespace Go.Proofs.YtmlglimahbjgbaaGreatDoor
open Go Go.Am Go.Town
set_option maxRecDepth 100000
variable {w0 : World}
def sideD (nm : ByteArray) (ax ay bx by' h e px py : Int) : D :=
 .tup [I (bif firstZ [chkWall nm ax ay bx by' h e, chkPoint px py] != 0 then 0 else cmpZ (sideZ ax ay bx by' px py 1) 0), I (firstZ [chkWall nm ax ay bx by' h e, chkPoint px py])]
def sideF : List D → Option (Bool × D) := wallF fun nm ax ay bx by' h e => aggF (two fun px py => endF true (sideD nm ax ay bx by' h e px py))
def rsideF : List D → Option (Bool × D) := wallF fun _ ax ay bx by' _ _ => aggF (two fun px py => endF true (I (sgnZ (sideZ ax ay bx by' px py 1))))
noncomputable def lvX : List Ctr := [⟨99, checkWallF⟩, ⟨100, checkPointF⟩, ⟨104, checkSpotF⟩, ⟨98, firstF⟩, ⟨101, intsF cmpK⟩, ⟨105, excessF⟩, ⟨106, lowF⟩, ⟨165, upF⟩, ⟨117, detF⟩]
theorem lvX_good (h0 : Lib0 w0) : Goods w0 lvX := ⟨check_good (name_good h0) h0, checkPoint_good h0, checkSpot_good h0, first_good h0, cmp_good h0, excess_good h0, low_good h0, up_good h0, detour_good h0, trivial⟩
noncomputable def rvX : List Ctr := [⟨110, intsF sgnK⟩, ⟨84, intsF lowK⟩, ⟨114, intsF ceilK⟩, ⟨36, detF⟩]
theorem rvX_good (h0 : Lib0 w0) : Goods w0 rvX := ⟨sgn_good h0, rlow_good h0, ceil_good h0, rdetour_good h0, trivial⟩
theorem side_good (h0 : Lib0 w0) : Good w0 ⟨14, sideF⟩ := good_body h0 (lvX_good h0) _ (fnOf Tryz.f14) rfl fun ds d h => by
 obtain ⟨nm, ax, ay, bx, by', hh, e, r, rfl, hk⟩ := wallF_inv h
 obtain ⟨ns, r, rfl, hk0⟩ := aggF_inv hk
 obtain ⟨px, py, rfl, hk1⟩ := two_inv hk0
 obtain ⟨rfl, _, rfl⟩ := endF_inv hk1
 refine ⟨60, (show bodyK (cfgC w0 lvX) 60 (fnOf Tryz.f14) [wall nm ax ay bx by' hh e, nums [px, py]] =
  bif firstZ [chkWall nm ax ay bx by' hh e, chkPoint px py] != 0 then some (.tup [I 0, I (firstZ [chkWall nm ax ay bx by' hh e, chkPoint px py])]) else some (.tup [I (cmpZ (sideZ ax ay bx by' px py 1) 0), I 0]) by kernel_rfl).trans ?_⟩
 unfold sideD
 generalize firstZ [chkWall nm ax ay bx by' hh e, chkPoint px py] = E
 by_cases hE : E = 0
 ·subst hE; rfl
 ·rw [show (E != 0) = true by simp [hE]]; rfl
theorem rside_good (h0 : Lib0 w0) : Good w0 ⟨22, rsideF⟩ := good_body h0 (rvX_good h0) _ (fnOf Tryz.f22) rfl fun ds d h => by
 obtain ⟨nm, ax, ay, bx, by', hh, e, r, rfl, hk⟩ := wallF_inv h
 obtain ⟨ns, r, rfl, hk0⟩ := aggF_inv hk
 obtain ⟨px, py, rfl, hk1⟩ := two_inv hk0
 obtain ⟨rfl, _, rfl⟩ := endF_inv hk1
 exact ⟨60, show bodyK (cfgC w0 rvX) 60 (fnOf Tryz.f22) [wall nm ax ay bx by' hh e, nums [px, py]] = some (I (sgnZ (sideZ ax ay bx by' px py 1))) by kernel_rfl⟩
def meetP (ax ay bx by' sx sy rx ry : Int) : Bool := meetsZ (sideZ ax ay bx by' sx sy 1) (sideZ ax ay bx by' rx ry 1) (besideZ sx sy rx ry 1 ax ay) (besideZ sx sy rx ry 1 bx by')
def numP (ax ay bx by' h sx sy sz rx ry rz : Int) : Int := numZ (sideZ ax ay bx by' sx sy 1) (sideZ ax ay bx by' rx ry 1) h sz rz 1
def denP (ax ay bx by' sx sy rx ry : Int) : Int := denZ (sideZ ax ay bx by' sx sy 1) (sideZ ax ay bx by' rx ry 1) 1
def cutP (ax ay bx by' h sx sy sz rx ry rz : Int) : Bool := meetP ax ay bx by' sx sy rx ry && decide (numP ax ay bx by' h sx sy sz rx ry rz > 0)
def pathF (k : ByteArray → Int → Int → Int → Int → Int → Int → Int → Int → Int → Int → Int → Int → Option (Bool × D)) : List D → Option (Bool × D) :=
 wallF fun nm ax ay bx by' h e => aggF (three fun sx sy sz => aggF (three fun rx ry rz r => match r with
  | [] => k nm ax ay bx by' h e sx sy sz rx ry rz
  | _ => none))
theorem pathF_inv {k : ByteArray → Int → Int → Int → Int → Int → Int → Int → Int → Int → Int → Int → Int → Option (Bool × D)} {ds : List D} {d : D} (h : pathF k ds = some (true, d)) :
  ∃ nm ax ay bx by' h e sx sy sz rx ry rz, ds = [wall nm ax ay bx by' h e, nums [sx, sy, sz], nums [rx, ry, rz]] ∧ k nm ax ay bx by' h e sx sy sz rx ry rz = some (true, d) := by
 obtain ⟨nm, ax, ay, bx, by', hh, e, r, rfl, hk⟩ := wallF_inv h
 obtain ⟨ns, r, rfl, hk0⟩ := aggF_inv hk
 obtain ⟨sx, sy, sz, rfl, hk1⟩ := three_inv hk0
 obtain ⟨ns2, r2, rfl, hk2⟩ := aggF_inv hk1
 obtain ⟨rx, ry, rz, rfl, hk3⟩ := three_inv hk2
 split at hk3
 ·exact ⟨nm, ax, ay, bx, by', hh, e, sx, sy, sz, rx, ry, rz, rfl, hk3⟩
 ·cases hk3
def cutsD (nm : ByteArray) (ax ay bx by' h e sx sy sz rx ry rz : Int) : D :=
 .tup [Bo (bif errZ nm ax ay bx by' h e sx sy sz rx ry rz != 0 then false else cutP ax ay bx by' h sx sy sz rx ry rz), I (errZ nm ax ay bx by' h e sx sy sz rx ry rz)]
def cutsF : List D → Option (Bool × D) := pathF fun nm ax ay bx by' h e sx sy sz rx ry rz => some (true, cutsD nm ax ay bx by' h e sx sy sz rx ry rz)
theorem cuts_good (h0 : Lib0 w0) : Good w0 ⟨15, cutsF⟩ := good_body h0 (lvX_good h0) _ (fnOf Tryz.f15) rfl fun ds d h => by
 obtain ⟨nm, ax, ay, bx, by', hh, e, sx, sy, sz, rx, ry, rz, rfl, hk⟩ := pathF_inv h
 cases hk
 refine ⟨60, (show bodyK (cfgC w0 lvX) 60 (fnOf Tryz.f15) [wall nm ax ay bx by' hh e, nums [sx, sy, sz], nums [rx, ry, rz]] =
  bif errZ nm ax ay bx by' hh e sx sy sz rx ry rz != 0 then some (.tup [Bo false, I (errZ nm ax ay bx by' hh e sx sy sz rx ry rz)]) else some (.tup [Bo (cutP ax ay bx by' hh sx sy sz rx ry rz), I 0]) by kernel_rfl).trans ?_⟩
 unfold cutsD
 generalize errZ nm ax ay bx by' hh e sx sy sz rx ry rz = E
 by_cases hE : E = 0
 ·subst hE; rfl
 ·rw [show (E != 0) = true by simp [hE]]; rfl
theorem cut_facts {nm : ByteArray} {ax ay bx by' h e sx sy sz rx ry rz : Int} (hz : errZ nm ax ay bx by' h e sx sy sz rx ry rz = 0) (hc : meetP ax ay bx by' sx sy rx ry = true) :
  quoG (numP ax ay bx by' h sx sy sz rx ry rz) (denP ax ay bx by' sx sy rx ry) = true := by
 have S := errZ_small hz
 obtain ⟨p1, p2, _⟩ := side_bound S.a1 S.a2 S.b1 S.b2 S.s1 S.s2
 obtain ⟨q1, q2, _⟩ := side_bound S.a1 S.a2 S.b1 S.b2 S.r1 S.r2
 unfold numP denP
 unfold meetP at hc
 generalize sideZ ax ay bx by' sx sy 1 = P at *
 generalize sideZ ax ay bx by' rx ry 1 = Q at *
 obtain ⟨d, _, n1, n2⟩ := numden (p := P) (q := Q) (h := h) (sz := sz) (tz := rz) ⟨p1, p2⟩ ⟨q1, q2⟩ S.hh S.s3 S.r3
 obtain ⟨eP, a1, a2⟩ := absZ_small (n := P) ⟨p1, p2⟩
 obtain ⟨_, b1, b2⟩ := absZ_small (n := Q) ⟨q1, q2⟩
 rw [quoG_iff, rng_iff, rng_iff]
 have hp : P ≠ 0 := by
  intro h0
  subst h0
  simp [meetsZ] at hc
 omega
def exErr (E : Int) (c : Bool) : Int := bif E != 0 then E else bif c then 0 else 7
def excD (nm : ByteArray) (ax ay bx by' h e sx sy sz rx ry rz : Int) : D :=
 .tup [nums [bif (errZ nm ax ay bx by' h e sx sy sz rx ry rz == 0) && cutP ax ay bx by' h sx sy sz rx ry rz then (numP ax ay bx by' h sx sy sz rx ry rz).tdiv (gcdZ (numP ax ay bx by' h sx sy sz rx ry rz) (denP ax ay bx by' sx sy rx ry)) else 0,
  bif (errZ nm ax ay bx by' h e sx sy sz rx ry rz == 0) && cutP ax ay bx by' h sx sy sz rx ry rz then (denP ax ay bx by' sx sy rx ry).tdiv (gcdZ (numP ax ay bx by' h sx sy sz rx ry rz) (denP ax ay bx by' sx sy rx ry)) else 0],
  I (exErr (errZ nm ax ay bx by' h e sx sy sz rx ry rz) (cutP ax ay bx by' h sx sy sz rx ry rz))]
def excF : List D → Option (Bool × D) := pathF fun nm ax ay bx by' h e sx sy sz rx ry rz => some (true, excD nm ax ay bx by' h e sx sy sz rx ry rz)
theorem exc_good (h0 : Lib0 w0) : Good w0 ⟨16, excF⟩ := good_body h0 (lvX_good h0) _ (fnOf Tryz.f16) rfl fun ds d h => by
 obtain ⟨nm, ax, ay, bx, by', hh, e, sx, sy, sz, rx, ry, rz, rfl, hk⟩ := pathF_inv h
 cases hk
 refine ⟨60, (show bodyK (cfgC w0 lvX) 60 (fnOf Tryz.f16) [wall nm ax ay bx by' hh e, nums [sx, sy, sz], nums [rx, ry, rz]] =
  bif errZ nm ax ay bx by' hh e sx sy sz rx ry rz != 0 then some (.tup [nums [0, 0], I (errZ nm ax ay bx by' hh e sx sy sz rx ry rz)]) else
  bif !(cutP ax ay bx by' hh sx sy sz rx ry rz) then some (.tup [nums [0, 0], I 7]) else
  bif quoG (bif meetP ax ay bx by' sx sy rx ry then numP ax ay bx by' hh sx sy sz rx ry rz else 0) (bif meetP ax ay bx by' sx sy rx ry then denP ax ay bx by' sx sy rx ry else 0) then
   some (.tup [lowD (bif meetP ax ay bx by' sx sy rx ry then numP ax ay bx by' hh sx sy sz rx ry rz else 0) (bif meetP ax ay bx by' sx sy rx ry then denP ax ay bx by' sx sy rx ry else 0), I 0]) else none by kernel_rfl).trans ?_⟩
 unfold excD exErr
 have hf := cut_facts (nm := nm) (ax := ax) (ay := ay) (bx := bx) (by' := by') (h := hh) (e := e) (sx := sx) (sy := sy) (sz := sz) (rx := rx) (ry := ry) (rz := rz)
 have hm : cutP ax ay bx by' hh sx sy sz rx ry rz = true → meetP ax ay bx by' sx sy rx ry = true := fun h => by
  unfold cutP at h; simp only [Bool.and_eq_true] at h; exact h.1
 generalize errZ nm ax ay bx by' hh e sx sy sz rx ry rz = E at *
 generalize meetP ax ay bx by' sx sy rx ry = M at *
 generalize numP ax ay bx by' hh sx sy sz rx ry rz = N at *
 generalize denP ax ay bx by' sx sy rx ry = Dn at *
 generalize cutP ax ay bx by' hh sx sy sz rx ry rz = C at *
 by_cases hE : E = 0
 ·subst hE
  cases C with
  | false => rfl
  | true =>
    have hM := hm rfl
    subst hM
    have hq := hf rfl rfl
    simp only [bne_self_eq_false, cond_false, Bool.not_true, cond_true, hq, beq_self_eq_true, Bool.and_self]
    rfl
 ·rw [show (E != 0) = true by simp [hE], show (E == 0) = false by simp [hE]]; rfl
def maxI (a b : Int) : Int := if b > a then b else a
def minI (a b : Int) : Int := if b < a then b else a
def cornerL (x y sx sy sz rx ry rz : Int) : Int := detL (sqZ sx sy sz x y (minI sz rz)) (sqZ x y (minI sz rz) rx ry rz) (sqZ sx sy sz rx ry rz)
def cornerG (x y sx sy sz rx ry rz : Int) : Bool := sqB (sqZ sx sy sz x y (minI sz rz)) && (sqB (sqZ x y (minI sz rz) rx ry rz) && sqB (sqZ sx sy sz rx ry rz))
def depP (ax ay bx by' h sx sy sz rx ry rz : Int) : Int :=
 bif cutP ax ay bx by' h sx sy sz rx ry rz then maxI 1 (minI (minI (ceilZ (numP ax ay bx by' h sx sy sz rx ry rz) (denP ax ay bx by' sx sy rx ry)) (cornerL ax ay sx sy sz rx ry rz)) (cornerL bx by' sx sy sz rx ry rz)) else 0
theorem corner_ok {x y sx sy sz rx ry rz : Int} (x1 : -1000 ≤ x ∧ x ≤ 1000) (y1 : -1000 ≤ y ∧ y ≤ 1000) (s1 : -1000 ≤ sx ∧ sx ≤ 1000) (s2 : -1000 ≤ sy ∧ sy ≤ 1000) (s3 : 0 ≤ sz ∧ sz ≤ 1000)
  (r1 : -1000 ≤ rx ∧ rx ≤ 1000) (r2 : -1000 ≤ ry ∧ ry ≤ 1000) (r3 : 0 ≤ rz ∧ rz ≤ 1000) : cornerG x y sx sy sz rx ry rz = true := by
 have hm : 0 ≤ minI sz rz ∧ minI sz rz ≤ 1000 := by unfold minI; split <;> omega
 unfold cornerG
 rw [sq_small s1 s2 s3 x1 y1 hm, sq_small x1 y1 hm r1 r2 r3, sq_small s1 s2 s3 r1 r2 r3]
 rfl
def depthF : List D → Option (Bool × D) := pathF fun nm ax ay bx by' h e sx sy sz rx ry rz => some (errZ nm ax ay bx by' h e sx sy sz rx ry rz == 0, I (depP ax ay bx by' h sx sy sz rx ry rz))
theorem depthK_inv {nm : ByteArray} {ax ay bx by' h e sx sy sz rx ry rz : Int} {d d' : D} (hk : some (errZ nm ax ay bx by' h e sx sy sz rx ry rz == 0, d) = some (true, d')) : errZ nm ax ay bx by' h e sx sy sz rx ry rz = 0 ∧ d' = d := by
 simp only [Option.some.injEq, Prod.mk.injEq, beq_iff_eq] at hk
 exact ⟨hk.1, hk.2.symm⟩
theorem depth_good (h0 : Lib0 w0) : Good w0 ⟨107, depthF⟩ := good_body h0 (lvX_good h0) _ (fnOf Tryz.f107) rfl fun ds d h => by
 obtain ⟨nm, ax, ay, bx, by', hh, e, sx, sy, sz, rx, ry, rz, rfl, hk⟩ := pathF_inv h
 obtain ⟨hz, rfl⟩ := depthK_inv hk
 refine ⟨80, (show bodyK (cfgC w0 lvX) 80 (fnOf Tryz.f107) [wall nm ax ay bx by' hh e, nums [sx, sy, sz], nums [rx, ry, rz]] =
  bif !(cutP ax ay bx by' hh sx sy sz rx ry rz) then some (I 0) else
  bif quoG (bif meetP ax ay bx by' sx sy rx ry then numP ax ay bx by' hh sx sy sz rx ry rz else 0) (bif meetP ax ay bx by' sx sy rx ry then denP ax ay bx by' sx sy rx ry else 0) then
   bif cornerG ax ay sx sy sz rx ry rz then bif cornerG bx by' sx sy sz rx ry rz then
    some (I (maxI 1 (minI (minI (ceilZ (bif meetP ax ay bx by' sx sy rx ry then numP ax ay bx by' hh sx sy sz rx ry rz else 0) (bif meetP ax ay bx by' sx sy rx ry then denP ax ay bx by' sx sy rx ry else 0)) (cornerL ax ay sx sy sz rx ry rz)) (cornerL bx by' sx sy sz rx ry rz)))) else none else none else none by kernel_rfl).trans ?_⟩
 have S := errZ_small hz
 rw [corner_ok S.a1 S.a2 S.s1 S.s2 S.s3 S.r1 S.r2 S.r3, corner_ok S.b1 S.b2 S.s1 S.s2 S.s3 S.r1 S.r2 S.r3]
 unfold depP
 have hf := cut_facts hz
 have hm : cutP ax ay bx by' hh sx sy sz rx ry rz = true → meetP ax ay bx by' sx sy rx ry = true := fun h => by
  unfold cutP at h; simp only [Bool.and_eq_true] at h; exact h.1
 cases hC : cutP ax ay bx by' hh sx sy sz rx ry rz with
 | false => rfl
 | true =>
   rw [hm hC, cond_true, cond_true, hf (hm hC)]
   rfl
def depD (nm : ByteArray) (ax ay bx by' h e sx sy sz rx ry rz : Int) : D :=
 .tup [I (bif errZ nm ax ay bx by' h e sx sy sz rx ry rz != 0 then 0 else depP ax ay bx by' h sx sy sz rx ry rz), I (errZ nm ax ay bx by' h e sx sy sz rx ry rz)]
def depF : List D → Option (Bool × D) := pathF fun nm ax ay bx by' h e sx sy sz rx ry rz => some (true, depD nm ax ay bx by' h e sx sy sz rx ry rz)
theorem dep_good (h0 : Lib0 w0) : Good w0 ⟨17, depF⟩ := good_body h0 (cs := ⟨107, depthF⟩ :: lvX) ⟨depth_good h0, lvX_good h0⟩ _ (fnOf Tryz.f17) rfl fun ds d h => by
 obtain ⟨nm, ax, ay, bx, by', hh, e, sx, sy, sz, rx, ry, rz, rfl, hk⟩ := pathF_inv h
 cases hk
 refine ⟨80, (show bodyK (cfgC w0 (⟨107, depthF⟩ :: lvX)) 80 (fnOf Tryz.f17) [wall nm ax ay bx by' hh e, nums [sx, sy, sz], nums [rx, ry, rz]] =
  bif errZ nm ax ay bx by' hh e sx sy sz rx ry rz != 0 then some (.tup [I 0, I (errZ nm ax ay bx by' hh e sx sy sz rx ry rz)]) else
  bif errZ nm ax ay bx by' hh e sx sy sz rx ry rz == 0 then some (.tup [I (depP ax ay bx by' hh sx sy sz rx ry rz), I 0]) else none by kernel_rfl).trans ?_⟩
 unfold depD
 generalize errZ nm ax ay bx by' hh e sx sy sz rx ry rz = E
 by_cases hE : E = 0
 ·subst hE; rfl
 ·rw [show (E != 0) = true by simp [hE]]; rfl
end Go.Proofs.YtmlglimahbjgbaaGreatDoor
namespace Go.Proofs.YtmlglimahbjgbaaGreatDoor
open Go Go.Am Go.Town
set_option maxRecDepth 100000
variable {w0 : World}
end Go.Proofs.YtmlglimahbjgbaaGreatDoor
namespace Go.Proofs.YtmlglimahbjgbaaGreatDoor
open Go Go.Am Go.Town
set_option maxRecDepth 100000
variable {w0 : World}
end Go.Proofs.YtmlglimahbjgbaaGreatDoor
