/-
 A part of the proof of the statement that the claim names: see the last file.
-/
import Derived.Test.YtmlglimahbjgbaaGreatDoorS2
import Derived.Test.YtmlglimahbjgbaaGreatDoorS4
namespace Go.Proofs.YtmlglimahbjgbaaGreatDoor
open Go Go.Am Go.RowKit Go.Town
set_option maxRecDepth 100000
variable {w0 : World}
noncomputable section
structure Qz where
 o : WL
 i : Int
 r : Int
 e : Int
def wd1 (W : SLs) : ByteArray := (nth W (Int.toNat 1)).1
def wd0 (W : SLs) : ByteArray := (nth W (Int.toNat 0)).1
def cn : Nat → Int
 | 0 => 0
 | j + 1 => IntKind.i64.wrap (cn j + 1)
def ixQ (j : Nat) : Int := IntKind.i64.wrap (2 + cn j)
def sq (W : SLs) (j : Nat) : Int × Bool := sgL (bl (nth W (ixQ j).toNat).1)
def wQ (W : SLs) : Tup wallK := (wd1 W, (sq W 0).1, (sq W 1).1, (sq W 2).1, (sq W 3).1, (sq W 4).1, (sq W 5).1, ())
end
end Go.Proofs.YtmlglimahbjgbaaGreatDoor
namespace Go.Proofs.YtmlglimahbjgbaaGreatDoor
open Go Go.Am Go.RowKit Go.Town
set_option maxRecDepth 100000
variable {w0 : World}
noncomputable section
def okQ (W : SLs) : Bool := Nat.beq W.length 8 && ((wd0 W).toList == walB.toList && (!((wd1 W).toList == mtL.toList) && ((sq W 0).2 && ((sq W 1).2 && ((sq W 2).2 && ((sq W 3).2 && ((sq W 4).2 && (sq W 5).2)))))))
theorem ixQ_all : ixQ 0 = 2 ∧ ixQ 1 = 3 ∧ ixQ 2 = 4 ∧ ixQ 3 = 5 ∧ ixQ 4 = 6 ∧ ixQ 5 = 7 := by
 refine ⟨?_, ?_, ?_, ?_, ?_, ?_⟩ <;> kernel_rfl
theorem bd_t {W : SLs} {j n : Nat} (h1 : n ≠ 0) (h2 : ((wrd W j).toList == mtL.toList) = false) : bdW W j n = false := by
 unfold bdW
 rw [show (((n : Nat) : Int) == 0) = false by rw [beq_eq_false_iff_ne]; omega, h2]
 rfl
theorem tkW_t {W : SLs} {p : Tk} (hb : bdW W p.1 p.2.1 = false) : tkW W p = (p.1 + 1, p.2.1 - 1, p.2.2) := by
 unfold tkW wdL wdN wdB
 rw [hb]; rfl
theorem isN_t {W : SLs} {lo n : Nat} (hb : bdW W lo n = false) : isN W lo n = sgL (bl (wrd W lo)) := by
 unfold isN wdW
 rw [hb]; rfl
theorem tkN_t {W : SLs} {p : Tk} (hb : bdW W p.1 p.2.1 = false) (hn : (isN W p.1 p.2.1).2 = true) (hw : p.2.2 = false) : tkN W p = (p.1 + 1, p.2.1 - 1, false) := by
 unfold tkN wdL wdN nmB wdB
 rw [hb, hn, hw]; rfl
theorem pr {a b c d : Nat} (h1 : a = c) (h2 : b = d) : ((a, b, false) : Tk) = (c, d, false) := by rw [h1, h2]
theorem sq_wrd (W : SLs) : sq W 0 = sgL (bl (wrd W 2)) ∧ sq W 1 = sgL (bl (wrd W 3)) ∧ sq W 2 = sgL (bl (wrd W 4)) ∧ sq W 3 = sgL (bl (wrd W 5)) ∧ sq W 4 = sgL (bl (wrd W 6)) ∧ sq W 5 = sgL (bl (wrd W 7)) := by
 obtain ⟨i0, i1, i2, i3, i4, i5⟩ := ixQ_all
 unfold sq wrd
 rw [i0, i1, i2, i3, i4, i5]
 exact ⟨rfl, rfl, rfl, rfl, rfl, rfl⟩
theorem sg_full {s : ByteArray} (h : (sgL (bl s)).2 = true) : (s.toList == mtL.toList) = false := by
 rw [str_eq]
 cases hx : (bl s == bl mtL) with
 | false => rfl
 | true =>
   have e : bl s = [] := eq_of_beq hx
   rw [e] at h
   cases h
theorem lineOk_of {W : SLs} (h : okQ W = true) : lineOk true W = true ∧ wlT W = wQ W := by
 unfold okQ at h
 simp only [Bool.and_eq_true] at h
 obtain ⟨hl, h0, h1, q0, q1, q2, q3, q4, q5⟩ := h
 have hL : W.length = 8 := Nat.eq_of_beq_eq_true hl
 obtain ⟨s0, s1, s2, s3, s4, s5⟩ := sq_wrd W
 have w0 : ((wrd W 0).toList == mtL.toList) = false := by
  have : ((wrd W 0).toList == walB.toList) = true := h0
  rw [str_eq] at this ⊢
  rw [eq_of_beq this]
  rfl
 have w1 : ((wrd W 1).toList == mtL.toList) = false := by
  have : (!((wrd W 1).toList == mtL.toList)) = true := h1
  simpa using this
 have b0 : bdW W 0 W.length = false := bd_t (by omega) w0
 have e1 : tk1 W = (1, 7, false) := (tkW_t (p := tk0 W) b0).trans (pr rfl (by show W.length - 1 = 7; omega))
 have b1 : bdW W 1 7 = false := bd_t (by omega) w1
 have e2 : tk2 W = (2, 6, false) := by show tkW W (tk1 W) = _; rw [e1]; exact tkW_t b1
 have b2 : bdW W 2 6 = false := bd_t (by omega) (sg_full (s0 ▸ q0))
 have e3 : tk3 W = (3, 5, false) := by show tkN W (tk2 W) = _; rw [e2]; exact tkN_t b2 (by rw [isN_t b2, ← s0]; exact q0) rfl
 have b3 : bdW W 3 5 = false := bd_t (by omega) (sg_full (s1 ▸ q1))
 have e4 : tk4 W = (4, 4, false) := by show tkN W (tk3 W) = _; rw [e3]; exact tkN_t b3 (by rw [isN_t b3, ← s1]; exact q1) rfl
 have b4 : bdW W 4 4 = false := bd_t (by omega) (sg_full (s2 ▸ q2))
 have e5 : tk5 W = (5, 3, false) := by show tkN W (tk4 W) = _; rw [e4]; exact tkN_t b4 (by rw [isN_t b4, ← s2]; exact q2) rfl
 have b5 : bdW W 5 3 = false := bd_t (by omega) (sg_full (s3 ▸ q3))
 have e6 : tk6 W = (6, 2, false) := by show tkN W (tk5 W) = _; rw [e5]; exact tkN_t b5 (by rw [isN_t b5, ← s3]; exact q3) rfl
 have b6 : bdW W 6 2 = false := bd_t (by omega) (sg_full (s4 ▸ q4))
 have e7 : tk7 W = (7, 1, false) := by show tkN W (tk6 W) = _; rw [e6]; exact tkN_t b6 (by rw [isN_t b6, ← s4]; exact q4) rfl
 have b7 : bdW W 7 1 = false := bd_t (by omega) (sg_full (s5 ▸ q5))
 have e8 : tk8 W = (8, 0, false) := by show tkN W (tk7 W) = _; rw [e7]; exact tkN_t b7 (by rw [isN_t b7, ← s5]; exact q5) rfl
 have hh : hdW W = wrd W 0 := by show wdW W 0 W.length = _; unfold wdW; rw [b0]; rfl
 refine ⟨?_, ?_⟩
 ·unfold lineOk
  rw [e8, hh, show ((wrd W 0).toList == walB.toList) = true from h0]
  rfl
 ·unfold wlT wQ
  rw [e1, e2, e3, e4, e5, e6, e7, s0, s1, s2, s3, s4, s5, isN_t b2, isN_t b3, isN_t b4, isN_t b5, isN_t b6, isN_t b7]
  unfold wdW
  rw [b1]
  rfl
end
end Go.Proofs.YtmlglimahbjgbaaGreatDoor
namespace Go.Proofs.YtmlglimahbjgbaaGreatDoor
open Go Go.Am Go.RowKit Go.Town
set_option maxRecDepth 100000
variable {w0 : World}
noncomputable section
end
end Go.Proofs.YtmlglimahbjgbaaGreatDoor
