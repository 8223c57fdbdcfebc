/-
 A part of the proof of the statement that the claim names: see the last file.
-/
import Derived.Test.YthcpfignhalffaaGreatDoorC5
namespace Go.Proofs.YthcpfignhalffaaGreatDoor
open Go Go.Am
set_option maxRecDepth 100000
variable {w0 : World}
noncomputable section
abbrev nilD : D := .val (.slice none 0 0)
def sizeB (a b : Gr) : Bool := a.w == b.w && (a.h == b.h && true)
theorem chk_len {g : Gr} (h : chkG g = 0) : (g.l.length : Int) = W (g.w * g.h) ∧ 1 ≤ g.w ∧ g.w ≤ 16 ∧ 1 ≤ g.h ∧ g.h ≤ 16 ∧ ∀ x ∈ g.l, 0 ≤ i1 x ∧ i1 x ≤ maxE := by
 have wz : ∀ n lo hi : Int, withinZ n lo hi = 0 → lo ≤ n ∧ n ≤ hi := fun n lo hi h => by
  unfold withinZ whenZ at h
  by_cases h1 : n < lo
  ·simp [h1] at h
  ·by_cases h2 : n > hi
   ·simp [h2] at h
   ·omega
 have fz : ∀ l : List Int, firstZ l = 0 → ∀ e ∈ l, e = 0 := fun l => by
  induction l with
  | nil => intro _ e he; cases he
  | cons x xs ih =>
    intro hf e he
    unfold firstZ at hf
    cases hx : (x != 0) with
    | true => rw [hx] at hf; simp only [cond_true] at hf; rw [hf] at hx; cases hx
    | false =>
      rw [hx] at hf
      rcases List.mem_cons.1 he with rfl | he
      ·simpa using hx
      ·exact ih hf e he
 rw [chk_alt] at h
 cases he : (e0G g != 0) with
 | true => rw [he] at h; simp only [cond_true] at h; rw [h] at he; cases he
 | false =>
   rw [he] at h
   simp only [cond_false] at h
   have h0 := fz _ (show e0G g = 0 by simpa using he)
   have hw := wz _ _ _ (h0 (withinZ g.w 1 16) (by simp))
   have hh := wz _ _ _ (h0 (withinZ g.h 1 16) (by simp))
   cases hs : ((g.l.length : Int) != W (g.w * g.h)) with
   | true => rw [hs] at h; cases h
   | false =>
     rw [hs] at h
     simp only [cond_false] at h
     exact ⟨by simpa using hs, hw.1, hw.2, hh.1, hh.2, fun x hx => wz _ _ _ (fz _ h (enZ x) (List.mem_map_of_mem hx))⟩
end
end Go.Proofs.YthcpfignhalffaaGreatDoor
namespace Go.Proofs.YthcpfignhalffaaGreatDoor
open Go Go.Am
set_option maxRecDepth 100000
variable {w0 : World}
noncomputable section
structure Bx where
 c0 : Int
 c1 : Int
 r0 : Int
 r1 : Int
def loI' (g : Gr) (c y : Int) : Int := W (W (y * g.w) + c)
def rowI (g : Gr) (b : Bx) (y : Int) : List (Tup intK) := (g.l.drop (0 + (loI' g b.c0 y).toNat)).take ((loI' g b.c1 y).toNat - (loI' g b.c0 y).toNat)
def inR (g : Gr) (b : Bx) (y : Int) : Bool := decide (0 ≤ loI' g b.c0 y) && (decide (loI' g b.c0 y ≤ loI' g b.c1 y) && decide (loI' g b.c1 y ≤ g.l.length))
end
end Go.Proofs.YthcpfignhalffaaGreatDoor
namespace Go.Proofs.YthcpfignhalffaaGreatDoor
open Go Go.Am
set_option maxRecDepth 100000
variable {w0 : World}
noncomputable section
structure BoxOK (g : Gr) (b : Bx) : Prop where
 chk : chkG g = 0
 c0 : 0 ≤ b.c0
 c1 : b.c0 < b.c1
 cw : b.c1 ≤ g.w
 r0 : 0 ≤ b.r0
 r1 : b.r0 < b.r1
 rh : b.r1 ≤ g.h
 w16 : g.w ≤ 16
 h16 : g.h ≤ 16
 len : (g.l.length : Int) = g.h * g.w
theorem mul_bound {a b : Int} (h1 : 0 ≤ a) (h2 : a ≤ 16) (h3 : 0 ≤ b) (h4 : b ≤ 16) : 0 ≤ a * b ∧ a * b ≤ 256 :=
 ⟨Int.mul_nonneg h1 h3, Int.le_trans (Int.mul_le_mul_of_nonneg_right h2 h3) (by omega)⟩
theorem chk_mul {g : Gr} (h : chkG g = 0) : (g.l.length : Int) = g.h * g.w := by
 obtain ⟨h1, h2, h3, h4, h5, _⟩ := chk_len h
 have := mul_bound (a := g.w) (b := g.h) (by omega) h3 (by omega) h5
 rw [h1, W_in (by omega), Int.mul_comm]
theorem BoxOK.lo {g : Gr} {b : Bx} (k : BoxOK g b) {y c : Int} (h1 : b.r0 ≤ y) (h2 : y < b.r1) (h3 : 0 ≤ c) (h4 : c ≤ g.w) : loI' g c y = y * g.w + c ∧ 0 ≤ y * g.w ∧ y * g.w + c ≤ g.l.length := by
 obtain ⟨_, a1, a2, a3, a4, a5, a6, a7, a8, a9⟩ := k
 have hy := mul_bound (a := y) (b := g.w) (by omega) (by omega) (by omega) a7
 have hs : (y + 1) * g.w ≤ g.h * g.w := Int.mul_le_mul_of_nonneg_right (by omega) (by omega)
 rw [Int.add_mul, Int.one_mul] at hs
 refine ⟨?_, hy.1, by rw [a9]; omega⟩
 unfold loI'
 rw [W_in (n := y * g.w) (by omega), W_in (by omega)]
theorem BoxOK.inr {g : Gr} {b : Bx} (k : BoxOK g b) {y : Int} (h1 : b.r0 ≤ y) (h2 : y < b.r1) : inR g b y = true := by
 obtain ⟨e0, p0, _⟩ := k.lo h1 h2 k.c0 (by have := k.c1; have := k.cw; omega)
 obtain ⟨e1, _, q1⟩ := k.lo h1 h2 (c := b.c1) (by have := k.c0; have := k.c1; omega) k.cw
 unfold inR
 rw [e0, e1]
 have := k.c0; have := k.c1
 simp only [Bool.and_eq_true, decide_eq_true_eq]
 omega
def rowsF (g : Gr) (b : Bx) : Nat → Int → List (Tup intK)
 | 0, _ => []
 | n + 1, y => rowI g b y ++ rowsF g b n (y + 1)
end
end Go.Proofs.YthcpfignhalffaaGreatDoor
namespace Go.Proofs.YthcpfignhalffaaGreatDoor
open Go Go.Am
set_option maxRecDepth 100000
variable {w0 : World}
noncomputable section
def cellI (g : Gr) (y x : Int) : Tup intK := nth g.l ((loI' g x y).toNat + 0)
def rowR (g : Gr) (y : Int) : Nat → Int → List (Tup intK)
 | 0, _ => []
 | n + 1, x => cellI g y x :: rowR g y n (x + 1)
def rowB (g : Gr) (b : Bx) (y : Int) : List (Tup intK) := rowR g y (b.c1 - b.c0).toNat b.c0
def rowsR (g : Gr) (b : Bx) : Nat → Int → List (Tup intK)
 | 0, _ => []
 | n + 1, y => rowB g b y ++ rowsR g b n (y + 1)
theorem drop_take {k : Nat} : ∀ (n : Nat) (l : List (Tup intK)), k + n ≤ l.length → (l.drop k).take n = (List.range' k n).map (nth l) := fun n l h => by
 apply List.ext_getElem?
 intro j
 rw [List.getElem?_take]
 by_cases hj : j < n
 ·rw [if_pos hj, List.getElem?_drop, List.getElem?_map, List.getElem?_range' hj]
  simp only [Option.map_some, Nat.one_mul, nth, List.getD_eq_getElem?_getD]
  rw [List.getElem?_eq_getElem (by omega)]
  simp
 ·rw [if_neg hj, List.getElem?_eq_none (by simp; omega)]
theorem BoxOK.row {g : Gr} {b : Bx} (k : BoxOK g b) {y : Int} (h1 : b.r0 ≤ y) (h2 : y < b.r1) : rowB g b y = rowI g b y := by
 have hc0 := k.c0; have hc1 := k.c1; have hcw := k.cw
 obtain ⟨e0, p0, _⟩ := k.lo h1 h2 hc0 (by omega)
 obtain ⟨e1, _, q1⟩ := k.lo h1 h2 (c := b.c1) (by omega) k.cw
 unfold rowI rowB
 rw [e0, e1]
 have hk : (y * g.w + b.c1).toNat - (y * g.w + b.c0).toNat = (b.c1 - b.c0).toNat := by omega
 rw [hk, Nat.zero_add, drop_take _ _ (by omega)]
 have key : ∀ (n : Nat) (x : Int), 0 ≤ x → x + n ≤ g.w → rowR g y n x = (List.range' (y * g.w + x).toNat n).map (nth g.l) := fun n => by
  induction n with
  | zero => intro x _ _; rfl
  | succ n ih =>
    intro x hx0 hx1
    obtain ⟨ex, _, _⟩ := k.lo h1 h2 (c := x) hx0 (by omega)
    unfold rowR
    rw [List.range'_succ, List.map_cons, ih (x + 1) (by omega) (by omega)]
    unfold cellI
    rw [ex, show (y * g.w + (x + 1)).toNat = (y * g.w + x).toNat + 1 by omega]
    rfl
 exact key _ _ hc0 (by omega)
theorem BoxOK.rows {g : Gr} {b : Bx} (k : BoxOK g b) : ∀ (n : Nat) (y : Int), b.r0 ≤ y → y + n = b.r1 → rowsR g b n y = rowsF g b n y
 | 0, _, _, _ => rfl
 | n + 1, y, h1, h2 => by
   unfold rowsR rowsF
   rw [k.row h1 (by omega), k.rows n (y + 1) (by omega) (by omega)]
end
end Go.Proofs.YthcpfignhalffaaGreatDoor
