/-
  A part of the proof of the statement that the claim names: see the last file.
-/
import Derived.Test.YtmlglimahbjgbaaGreatDoorS2
import Derived.Test.YtmlglimahbjgbaaGreatDoorS4
namespace Go.Proofs.YtmlglimahbjgbaaGreatDoor
open Go Go.Am Go.RowKit Go.Town
set_option maxRecDepth 100000
variable {w0 : World}
noncomputable section


def c1S (s : ByteArray) : Bool := decide ((0 : Int) ≤ 1) && decide ((1 : Int) ≤ s.size)
def tlS (s : ByteArray) : ByteArray := s.extract (Int.toNat 1) s.size
theorem run157 (s : ByteArray) : bodyK ((cfg w0).at [dgC 191 9]) 40 (fnOf Tryz.f157) [St_ s] =
    bif !(s.toList == mtL.toList) then bif idS s 0 then bif byI s 0 == 45 then bif c1S s then bif (dgL (bl (tlS s)) 9).2 then some (.tup [I (IntKind.i64.wrap (0 - (dgL (bl (tlS s)) 9).1)), Bo (decide ((dgL (bl (tlS s)) 9).1 > 0))]) else
      some (.tup [I (IntKind.i64.wrap (0 - (dgL (bl (tlS s)) 9).1)), Bo false]) else none else some (.tup [I (dgL (bl s) 9).1, Bo (dgL (bl s) 9).2]) else none else some (.tup [I (dgL (bl s) 9).1, Bo (dgL (bl s) 9).2]) := by kernel_rfl
theorem dgL_rg (l : List UInt8) : 0 ≤ (dgL l 9).1 ∧ (dgL l 9).1 < 1000000000 := by
  have := numL_rg l
  unfold dgL
  cases (numL l 9).2 with
  | true => exact ⟨Int.le_refl _, by show (0 : Int) < _; omega⟩
  | false => exact this
theorem run157' (s : ByteArray) : bodyK ((cfg w0).at [dgC 191 9]) 40 (fnOf Tryz.f157) [St_ s] = some (.tup [I (sgL (bl s)).1, Bo (sgL (bl s)).2]) := by
  rw [run157, show (s.toList == mtL.toList) = decide (s.size = 0) from empty_bytes s]
  unfold sgL
  by_cases h0 : s.size = 0
  · have : bl s = [] := List.length_eq_zero_iff.1 (by rw [bl_len]; exact h0)
    rw [decide_eq_true h0, this]
    rfl
  · have hd := drop_get (s := s) (i := 0) (by omega)
    rw [List.drop_zero] at hd
    have hid : idS s 0 = true := by unfold idS; rw [decide_eq_true (show (0 : Int) ≤ 0 by omega), decide_eq_true (show (0 : Int) < s.size by omega)]; rfl
    have hc1 : c1S s = true := by unfold c1S; rw [decide_eq_true (show (0 : Int) ≤ 1 by omega), decide_eq_true (show (1 : Int) ≤ s.size by omega)]; rfl
    have htl : bl (tlS s) = (bl s).tail := by
      unfold tlS
      rw [show Int.toNat 1 = 1 from rfl, ext_e, bl_mkB, List.drop_one]
    have hmi : miH (bl s) = (byI s 0 == 45) := by
      rw [hd]
      show (some (s.get! 0) == some 45) = ((((s.get! 0).toNat : Nat) : Int) == 45)
      have e : (some (s.get! 0) == some (45 : UInt8)) = (s.get! 0 == 45) := rfl
      rw [e]
      cases hx : (s.get! 0 == 45) with
      | true => rw [eq_of_beq hx]; rfl
      | false =>
        symm
        rw [beq_eq_false_iff_ne] at hx ⊢
        intro e
        exact hx (UInt8.toNat_inj.1 (by show (s.get! 0).toNat = 45; omega))
    have hr := dgL_rg (bl s).tail
    rw [decide_eq_false h0, hid, hc1, htl, hmi, W_id (by omega) (by omega)]
    cases (byI s 0 == 45) with
    | false => rfl
    | true => cases (dgL (bl s).tail 9).2 <;> rfl
def c157 : Ct := ct 157 [.c .str] fun a => .leaf (.tup [I (sgL (bl a.1)).1, Bo (sgL (bl a.1)).2])
theorem gd157 (h0 : Lib0 w0) : Gd (cfg w0) c157 := gd_sig fun a d hd => by
  obtain ⟨s, u⟩ := a
  cases hd
  exact fnD_k (cfg_ok w0) h0 (cs := [dgC 191 9]) ⟨gd191 h0, trivial⟩ (fd := fnOf Tryz.f157) rfl (n := 40) (run157' s)


def rel89 : List (Nat × Cv) := [(5, .sv sK1), (6, .id), (7, .ov wallK), (8, .id), (2, .id), (3, .id), (4, .id)]
def nlV : D := .val (.slice none 0 0)
structure Qz where
  o : WL
  i : Int
  r : Int
  e : Int
def st89 (L : SLs) (en : Int) (q : Qz) : List D := [.vec sK1 L, I en, .ovec wallK q.o, I q.i, nlV, I q.r, I q.e]
abbrev N89 : Nat := (fnOf Tryz.f89).ntmps
def cs89 : List Ct := [c93, c157, checkC 33]
def lnL (L : SLs) (i : Int) : ByteArray := (nth L i.toNat).1
def wd1 (W : SLs) : ByteArray := (nth W (Int.toNat 1)).1
def wd0 (W : SLs) : ByteArray := (nth W (Int.toNat 0)).1
def rt89 (L : SLs) (en : Int) (q : Qz) : Rn' := some ([], .ret, st89 L en ⟨q.o, q.i, q.i, 25⟩)
def nm89 (L : SLs) (en : Int) (q : Qz) : Rn' := some ([], .normal, st89 L en ⟨q.o, IntKind.i64.wrap (q.i + 1), q.r, q.e⟩)
def cn : Nat → Int
  | 0 => 0
  | j + 1 => IntKind.i64.wrap (cn j + 1)
def ixQ (j : Nat) : Int := IntKind.i64.wrap (2 + cn j)
def sq (W : SLs) (j : Nat) : Int × Bool := sgL (bl (nth W (ixQ j).toNat).1)
def sgQ (W : SLs) (j : Nat) (r k : Rn') : Rn' := gN (inL W (ixQ j)) (bif !(sq W j).2 then r else k)
def wQ (W : SLs) : Tup wallK := (wd1 W, (sq W 0).1, (sq W 1).1, (sq W 2).1, (sq W 3).1, (sq W 4).1, (sq W 5).1, ())
def tl89 (L : SLs) (en : Int) (q : Qz) (W : SLs) : Rn' :=
  bif (W.length : Int) != 8 then rt89 L en q else gN (inL W 0) (bif !((wd0 W).toList == walB.toList) then rt89 L en q else gN (inL W 1) (bif (wd1 W).toList == mtL.toList then rt89 L en q else
    sgQ W 0 (rt89 L en q) (sgQ W 1 (rt89 L en q) (sgQ W 2 (rt89 L en q) (sgQ W 3 (rt89 L en q) (sgQ W 4 (rt89 L en q) (sgQ W 5 (rt89 L en q) (gN (inL W 1) (gN (rmW (q.o ++ [wQ W])) (nm89 L en ⟨q.o ++ [wQ W], q.i, q.r, q.e⟩))))))))))
def tree89 (L : SLs) (en : Int) (q : Qz) : Rn' :=
  bif decide (q.i < en) then gN (inL L q.i) (gN (smS (lnL L q.i)) (tl89 L en q (splC (cU 32) (lnL L q.i)))) else some ([], .exit 0, st89 L en q)
theorem round89 (L : SLs) (en : Int) (q : Qz) : rndD ((cfg w0).at cs89) 40 [] 40 N89 rel89 (lpB 0 (fnOf Tryz.f89).body) (st89 L en q) = tree89 L en q := by
  obtain ⟨o, i, r, e⟩ := q
  kernel_rfl
def ld89 (L : SLs) (en : Int) (x : X) (q : Qz) : Ld := ldP 0 N89 rel89 x (st89 L en q)
def en89 (L : SLs) : Int := IntKind.i64.wrap ((L.length : Int) - 1)
def ob89 (L : SLs) (x : X) (q : Qz) : Obs := [(ld89 L (en89 L) x q, .loop (lpB 0 (fnOf Tryz.f89).body), st89 L (en89 L) ⟨[], 0, 0, 0⟩)]
def gP (b : Bool) (k : Option (Obs × D)) : Option (Obs × D) := bif b then k else none
theorem body89n (s : ByteArray) (q : Qz) : bodyT ((cfg w0).at cs89) 40 [ld89 (splC (cU 10) s) (en89 (splC (cU 10) s)) .normal q] 40 (fnOf Tryz.f89) [St_ s] =
    bif lgS s then some ([], .tup [nlV, I 0, I 26]) else gP (smS s) (gP (inL (splC (cU 10) s) (en89 (splC (cU 10) s))) (bif !((lnL (splC (cU 10) s) (en89 (splC (cU 10) s))).toList == mtL.toList) then some (ob89 (splC (cU 10) s) .normal q, .tup [nlV, I (en89 (splC (cU 10) s)), I 25]) else
      bif chkAllW q.o != 0 then some (ob89 (splC (cU 10) s) .normal q, .tup [nlV, I (en89 (splC (cU 10) s)), I (chkAllW q.o)]) else some (ob89 (splC (cU 10) s) .normal q, .tup [.vec wallK q.o, I 0, I 0]))) := by
  obtain ⟨o, i, r, e⟩ := q
  kernel_rfl
theorem body89r (s : ByteArray) (q : Qz) : bodyT ((cfg w0).at cs89) 40 [ld89 (splC (cU 10) s) (en89 (splC (cU 10) s)) .ret q] 40 (fnOf Tryz.f89) [St_ s] =
    bif lgS s then some ([], .tup [nlV, I 0, I 26]) else gP (smS s) (some (ob89 (splC (cU 10) s) .ret q, .tup [nlV, I q.r, I q.e])) := by
  obtain ⟨o, i, r, e⟩ := q
  kernel_rfl
end
end Go.Proofs.YtmlglimahbjgbaaGreatDoor

namespace Go.Proofs.YtmlglimahbjgbaaGreatDoor
open Go Go.Am Go.RowKit Go.Town
set_option maxRecDepth 100000
variable {w0 : World}
noncomputable section


def okQ (W : SLs) : Bool := Nat.beq W.length 8 && ((wd0 W).toList == walB.toList && (!((wd1 W).toList == mtL.toList) && ((sq W 0).2 && ((sq W 1).2 && ((sq W 2).2 && ((sq W 3).2 && ((sq W 4).2 && (sq W 5).2)))))))
theorem ixQ_all : ixQ 0 = 2 ∧ ixQ 1 = 3 ∧ ixQ 2 = 4 ∧ ixQ 3 = 5 ∧ ixQ 4 = 6 ∧ ixQ 5 = 7 := by
  refine ⟨?_, ?_, ?_, ?_, ?_, ?_⟩ <;> kernel_rfl
theorem tl89_eq (L : SLs) (en : Int) (q : Qz) (W : SLs) (hr : rmW (q.o ++ [wQ W]) = true) : tl89 L en q W = bif okQ W then nm89 L en ⟨q.o ++ [wQ W], q.i, q.r, q.e⟩ else rt89 L en q := by
  unfold tl89 okQ
  by_cases hW : W.length = 8
  · have h8 : ((W.length : Int) != 8) = false := by rw [hW]; rfl
    obtain ⟨i0, i1, i2, i3, i4, i5⟩ := ixQ_all
    have hin : ∀ j : Nat, j < 8 → inL W (j : Int) = true := fun j hj => inL_nat (by omega)
    unfold sgQ
    rw [h8, hr, i0, i1, i2, i3, i4, i5, show inL W 0 = true from hin 0 (by omega), show inL W 1 = true from hin 1 (by omega), show inL W 2 = true from hin 2 (by omega), show inL W 3 = true from hin 3 (by omega), show inL W 4 = true from hin 4 (by omega), show inL W 5 = true from hin 5 (by omega), show inL W 6 = true from hin 6 (by omega), show inL W 7 = true from hin 7 (by omega), show Nat.beq W.length 8 = true by rw [Nat.beq_eq]; exact hW]
    unfold gN
    cases ((wd0 W).toList == walB.toList) with
    | false => rfl
    | true =>
      cases ((wd1 W).toList == mtL.toList) with
      | true => rfl
      | false =>
        cases (sq W 0).2 with
        | false => rfl
        | true =>
          cases (sq W 1).2 with
          | false => rfl
          | true =>
            cases (sq W 2).2 with
            | false => rfl
            | true =>
              cases (sq W 3).2 with
              | false => rfl
              | true =>
                cases (sq W 4).2 with
                | false => rfl
                | true => cases (sq W 5).2 <;> rfl
  · have h8 : ((W.length : Int) != 8) = true := by rw [bne_iff_ne]; omega
    have hb : Nat.beq W.length 8 = false := by cases hx : Nat.beq W.length 8 with | false => rfl | true => rw [Nat.beq_eq] at hx; exact absurd hx hW
    rw [h8, hb]
    rfl
theorem bd_f {W : SLs} {j n : Nat} (h : bdW W j n = false) : n ≠ 0 ∧ ((wrd W j).toList == mtL.toList) = false := by
  unfold bdW at h
  cases hz : (((n : Nat) : Int) == 0) with
  | true => rw [hz] at h; cases h
  | false =>
    rw [hz] at h
    have : ((n : Nat) : Int) ≠ 0 := by simpa using hz
    exact ⟨by omega, h⟩
theorem bd_t {W : SLs} {j n : Nat} (h1 : n ≠ 0) (h2 : ((wrd W j).toList == mtL.toList) = false) : bdW W j n = false := by
  unfold bdW
  rw [show (((n : Nat) : Int) == 0) = false by rw [beq_eq_false_iff_ne]; omega, h2]
  rfl
theorem tkW_t {W : SLs} {p : Tk} (hb : bdW W p.1 p.2.1 = false) : tkW W p = (p.1 + 1, p.2.1 - 1, p.2.2) := by
  unfold tkW wdL wdN wdB
  rw [hb]; rfl
theorem isN_t {W : SLs} {lo n : Nat} (hb : bdW W lo n = false) : isN W lo n = sgL (bl (wrd W lo)) := by
  unfold isN wdW
  rw [hb]; rfl
theorem tkN_t {W : SLs} {p : Tk} (hb : bdW W p.1 p.2.1 = false) (hn : (isN W p.1 p.2.1).2 = true) (hw : p.2.2 = false) : tkN W p = (p.1 + 1, p.2.1 - 1, false) := by
  unfold tkN wdL wdN nmB wdB
  rw [hb, hn, hw]; rfl
theorem tkW_f {W : SLs} {p : Tk} (h : (tkW W p).2.2 = false) : bdW W p.1 p.2.1 = false ∧ p.2.2 = false ∧ tkW W p = (p.1 + 1, p.2.1 - 1, false) := by
  have hb : bdW W p.1 p.2.1 = false := by
    cases hx : bdW W p.1 p.2.1 with
    | false => rfl
    | true =>
      have h : (bif bdW W p.1 p.2.1 then true else p.2.2) = false := h
      rw [hx] at h; cases h
  have e := tkW_t hb
  rw [e] at h
  have h : p.2.2 = false := h
  exact ⟨hb, h, by rw [e, h]⟩
theorem tkN_f {W : SLs} {p : Tk} (h : (tkN W p).2.2 = false) : bdW W p.1 p.2.1 = false ∧ p.2.2 = false ∧ (isN W p.1 p.2.1).2 = true ∧ tkN W p = (p.1 + 1, p.2.1 - 1, false) := by
  have h : (bif (bif bdW W p.1 p.2.1 then true else p.2.2) then true else !(isN W p.1 p.2.1).2) = false := h
  have hb : bdW W p.1 p.2.1 = false := by
    cases hx : bdW W p.1 p.2.1 with
    | false => rfl
    | true => rw [hx] at h; cases h
  rw [hb] at h
  have hw : p.2.2 = false := by
    cases hx : p.2.2 with
    | false => rfl
    | true => rw [hx] at h; cases h
  rw [hw] at h
  have hn : (isN W p.1 p.2.1).2 = true := by
    cases hx : (isN W p.1 p.2.1).2 with
    | true => rfl
    | false => rw [hx] at h; cases h
  exact ⟨hb, hw, hn, tkN_t hb hn hw⟩
theorem pr {a b c d : Nat} (h1 : a = c) (h2 : b = d) : ((a, b, false) : Tk) = (c, d, false) := by rw [h1, h2]
theorem sq_wrd (W : SLs) : sq W 0 = sgL (bl (wrd W 2)) ∧ sq W 1 = sgL (bl (wrd W 3)) ∧ sq W 2 = sgL (bl (wrd W 4)) ∧ sq W 3 = sgL (bl (wrd W 5)) ∧ sq W 4 = sgL (bl (wrd W 6)) ∧ sq W 5 = sgL (bl (wrd W 7)) := by
  obtain ⟨i0, i1, i2, i3, i4, i5⟩ := ixQ_all
  unfold sq wrd
  rw [i0, i1, i2, i3, i4, i5]
  exact ⟨rfl, rfl, rfl, rfl, rfl, rfl⟩
theorem sg_full {s : ByteArray} (h : (sgL (bl s)).2 = true) : (s.toList == mtL.toList) = false := by
  rw [str_eq]
  cases hx : (bl s == bl mtL) with
  | false => rfl
  | true =>
    have e : bl s = [] := eq_of_beq hx
    rw [e] at h
    cases h
theorem lineOk_of {W : SLs} (h : okQ W = true) : lineOk true W = true ∧ wlT W = wQ W := by
  unfold okQ at h
  simp only [Bool.and_eq_true] at h
  obtain ⟨hl, h0, h1, q0, q1, q2, q3, q4, q5⟩ := h
  have hL : W.length = 8 := Nat.eq_of_beq_eq_true hl
  obtain ⟨s0, s1, s2, s3, s4, s5⟩ := sq_wrd W
  have w0 : ((wrd W 0).toList == mtL.toList) = false := by
    have : ((wrd W 0).toList == walB.toList) = true := h0
    rw [str_eq] at this ⊢
    rw [eq_of_beq this]
    rfl
  have w1 : ((wrd W 1).toList == mtL.toList) = false := by
    have : (!((wrd W 1).toList == mtL.toList)) = true := h1
    simpa using this
  have b0 : bdW W 0 W.length = false := bd_t (by omega) w0
  have e1 : tk1 W = (1, 7, false) := (tkW_t (p := tk0 W) b0).trans (pr rfl (by show W.length - 1 = 7; omega))
  have b1 : bdW W 1 7 = false := bd_t (by omega) w1
  have e2 : tk2 W = (2, 6, false) := by show tkW W (tk1 W) = _; rw [e1]; exact tkW_t b1
  have b2 : bdW W 2 6 = false := bd_t (by omega) (sg_full (s0 ▸ q0))
  have e3 : tk3 W = (3, 5, false) := by show tkN W (tk2 W) = _; rw [e2]; exact tkN_t b2 (by rw [isN_t b2, ← s0]; exact q0) rfl
  have b3 : bdW W 3 5 = false := bd_t (by omega) (sg_full (s1 ▸ q1))
  have e4 : tk4 W = (4, 4, false) := by show tkN W (tk3 W) = _; rw [e3]; exact tkN_t b3 (by rw [isN_t b3, ← s1]; exact q1) rfl
  have b4 : bdW W 4 4 = false := bd_t (by omega) (sg_full (s2 ▸ q2))
  have e5 : tk5 W = (5, 3, false) := by show tkN W (tk4 W) = _; rw [e4]; exact tkN_t b4 (by rw [isN_t b4, ← s2]; exact q2) rfl
  have b5 : bdW W 5 3 = false := bd_t (by omega) (sg_full (s3 ▸ q3))
  have e6 : tk6 W = (6, 2, false) := by show tkN W (tk5 W) = _; rw [e5]; exact tkN_t b5 (by rw [isN_t b5, ← s3]; exact q3) rfl
  have b6 : bdW W 6 2 = false := bd_t (by omega) (sg_full (s4 ▸ q4))
  have e7 : tk7 W = (7, 1, false) := by show tkN W (tk6 W) = _; rw [e6]; exact tkN_t b6 (by rw [isN_t b6, ← s4]; exact q4) rfl
  have b7 : bdW W 7 1 = false := bd_t (by omega) (sg_full (s5 ▸ q5))
  have e8 : tk8 W = (8, 0, false) := by show tkN W (tk7 W) = _; rw [e7]; exact tkN_t b7 (by rw [isN_t b7, ← s5]; exact q5) rfl
  have hh : hdW W = wrd W 0 := by show wdW W 0 W.length = _; unfold wdW; rw [b0]; rfl
  refine ⟨?_, ?_⟩
  · unfold lineOk
    rw [e8, hh, show ((wrd W 0).toList == walB.toList) = true from h0]
    rfl
  · unfold wlT wQ
    rw [e1, e2, e3, e4, e5, e6, e7, s0, s1, s2, s3, s4, s5, isN_t b2, isN_t b3, isN_t b4, isN_t b5, isN_t b6, isN_t b7]
    unfold wdW
    rw [b1]
    rfl
theorem okQ_of {W : SLs} (h : lineOk true W = true) : okQ W = true := by
  unfold lineOk at h
  simp only [Bool.true_and, Bool.and_eq_true, Bool.not_eq_true'] at h
  obtain ⟨hh, hw, hn⟩ := h
  have hn : (tk8 W).2.1 = 0 := Nat.eq_of_beq_eq_true hn
  obtain ⟨b7, f7, n7, e8⟩ := tkN_f (p := tk7 W) hw
  obtain ⟨b6, f6, n6, e7⟩ := tkN_f (p := tk6 W) f7
  obtain ⟨b5, f5, n5, e6⟩ := tkN_f (p := tk5 W) f6
  obtain ⟨b4, f4, n4, e5⟩ := tkN_f (p := tk4 W) f5
  obtain ⟨b3, f3, n3, e4⟩ := tkN_f (p := tk3 W) f4
  obtain ⟨b2, f2, n2, e3⟩ := tkN_f (p := tk2 W) f3
  obtain ⟨b1, f1, e2⟩ := tkW_f (p := tk1 W) f2
  obtain ⟨b0, _, e1⟩ := tkW_f (p := tk0 W) f1
  have e1 : tk1 W = (1, W.length - 1, false) := e1
  have e2 : tk2 W = (2, W.length - 2, false) := by rw [e1] at e2; exact (show tk2 W = _ from (show tk2 W = tkW W (tk1 W) from rfl).trans (by rw [e1]; exact e2)).trans (pr rfl (by simp only; omega))
  have e3 : tk3 W = (3, W.length - 3, false) := by rw [e2] at e3; exact ((show tk3 W = tkN W (tk2 W) from rfl).trans (by rw [e2]; exact e3)).trans (pr rfl (by simp only; omega))
  have e4 : tk4 W = (4, W.length - 4, false) := by rw [e3] at e4; exact ((show tk4 W = tkN W (tk3 W) from rfl).trans (by rw [e3]; exact e4)).trans (pr rfl (by simp only; omega))
  have e5 : tk5 W = (5, W.length - 5, false) := by rw [e4] at e5; exact ((show tk5 W = tkN W (tk4 W) from rfl).trans (by rw [e4]; exact e5)).trans (pr rfl (by simp only; omega))
  have e6 : tk6 W = (6, W.length - 6, false) := by rw [e5] at e6; exact ((show tk6 W = tkN W (tk5 W) from rfl).trans (by rw [e5]; exact e6)).trans (pr rfl (by simp only; omega))
  have e7 : tk7 W = (7, W.length - 7, false) := by rw [e6] at e7; exact ((show tk7 W = tkN W (tk6 W) from rfl).trans (by rw [e6]; exact e7)).trans (pr rfl (by simp only; omega))
  have e8 : tk8 W = (8, W.length - 8, false) := by rw [e7] at e8; exact ((show tk8 W = tkN W (tk7 W) from rfl).trans (by rw [e7]; exact e8)).trans (pr rfl (by simp only; omega))
  rw [e8] at hn
  have hn : W.length - 8 = 0 := hn
  have b0 : bdW W 0 W.length = false := b0
  rw [e1] at b1
  rw [e2] at b2 n2
  rw [e3] at b3 n3
  rw [e4] at b4 n4
  rw [e5] at b5 n5
  rw [e6] at b6 n6
  rw [e7] at b7 n7
  have n2 : (isN W 2 (W.length - 2)).2 = true := n2
  have n3 : (isN W 3 (W.length - 3)).2 = true := n3
  have n4 : (isN W 4 (W.length - 4)).2 = true := n4
  have n5 : (isN W 5 (W.length - 5)).2 = true := n5
  have n6 : (isN W 6 (W.length - 6)).2 = true := n6
  have n7 : (isN W 7 (W.length - 7)).2 = true := n7
  have hL : W.length = 8 := by have := (bd_f (j := 7) (n := W.length - 7) b7).1; omega
  obtain ⟨s0, s1, s2, s3, s4, s5⟩ := sq_wrd W
  have hh : ((wrd W 0).toList == walB.toList) = true := by
    have e : hdW W = wrd W 0 := by show wdW W 0 W.length = _; unfold wdW; rw [b0]; rfl
    rw [e] at hh; exact hh
  have h1 := (bd_f (j := 1) (n := W.length - 1) b1).2
  unfold okQ
  rw [s0, s1, s2, s3, s4, s5, show Nat.beq W.length 8 = true by rw [Nat.beq_eq]; exact hL, show ((wd0 W).toList == walB.toList) = true from hh, show ((wd1 W).toList == mtL.toList) = false from h1]
  rw [isN_t b2] at n2
  rw [isN_t b3] at n3
  rw [isN_t b4] at n4
  rw [isN_t b5] at n5
  rw [isN_t b6] at n6
  rw [isN_t b7] at n7
  rw [n2, n3, n4, n5, n6, n7]
  rfl
theorem lineOk_eq (W : SLs) : lineOk true W = okQ W := by
  cases h : okQ W with
  | true => exact (lineOk_of h).1
  | false =>
    cases h2 : lineOk true W with
    | false => rfl
    | true => rw [okQ_of h2] at h; cases h
end
end Go.Proofs.YtmlglimahbjgbaaGreatDoor

namespace Go.Proofs.YtmlglimahbjgbaaGreatDoor
open Go Go.Am Go.RowKit Go.Town
set_option maxRecDepth 100000
variable {w0 : World}
noncomputable section


theorem splC_mkB (l : List UInt8) : splC (cU 32) (mkB l) = splW l := by unfold splC splW; rw [bl_mkB]; rfl
def gQ (x : Tup sK1) (a : WL × Int × Int) : X × (WL × Int × Int) := bif okQ (splC (cU 32) x.1) then (.normal, (a.1 ++ [wQ (splC (cU 32) x.1)], a.2)) else (.ret, (a.1, a.1.length, 25))
theorem gQ_t {l : List UInt8} (h : lineOk true (splW l) = true) (o : WL) : gQ (tupS l) (o, 0, 0) = (.normal, (o ++ [wlT (splW l)], 0, 0)) := by
  have h2 := h
  rw [lineOk_eq] at h2
  show (bif okQ (splC (cU 32) (mkB l)) then ((.normal : X), (o ++ [wQ (splC (cU 32) (mkB l))], (0 : Int), (0 : Int))) else _) = _
  rw [splC_mkB, h2, (lineOk_of h2).2]
  rfl
theorem gQ_f {l : List UInt8} (h : lineOk true (splW l) = false) (o : WL) : gQ (tupS l) (o, 0, 0) = (.ret, (o, (o.length : Int), 25)) := by
  rw [lineOk_eq] at h
  show (bif okQ (splC (cU 32) (mkB l)) then _ else ((.ret : X), (o, (o.length : Int), (25 : Int)))) = _
  rw [splC_mkB, h]
  rfl
theorem lsRun_n {τ α : Type} {id : Nat} {g : τ → α → X × α} {x : τ} {xs : List τ} {i : Nat} {a a' : α} (h : g x a = (.normal, a')) : lsRun id g (x :: xs) i a = lsRun id g xs (i + 1) a' := by
  conv => lhs; unfold lsRun
  rw [h]
theorem lsRun_x {τ α : Type} {id : Nat} {g : τ → α → X × α} {x : τ} {xs : List τ} {i : Nat} {a a' : α} (h : g x a = (.ret, a')) : lsRun id g (x :: xs) i a = (.ret, ((i : Int), a')) := by
  unfold lsRun
  rw [h]
theorem runQ : ∀ (ls : List (List UInt8)) (o : WL) (i : Nat), ls ≠ [] → match goP ls o with
    | .bad k => (∃ (n : Int) (q : WL), lsRun 0 gQ (ls.dropLast.map tupS) i (o, 0, 0) = (.ret, (n, (q, k, 25)))) ∨ (∃ q : WL, lsRun 0 gQ (ls.dropLast.map tupS) i (o, 0, 0) = (.exit 0, (((i + (ls.length - 1) : Nat) : Int), (q, 0, 0))) ∧ ls.getLast? ≠ some [] ∧ k = (q.length : Int) ∧ q.length = o.length + (ls.length - 1))
    | .good q => lsRun 0 gQ (ls.dropLast.map tupS) i (o, 0, 0) = (.exit 0, (((i + (ls.length - 1) : Nat) : Int), (q, 0, 0))) ∧ ls.getLast? = some [] ∧ q.length = o.length + (ls.length - 1)
  | [], _, _, h => absurd rfl h
  | [l], o, i, _ => by
    cases l with
    | nil => exact ⟨rfl, rfl, rfl⟩
    | cons a l => exact .inr ⟨o, rfl, by simp, rfl, rfl⟩
  | l :: m :: ls, o, i, _ => by
    show (match bif lineOk true (splW l) then goP (m :: ls) (o ++ [wlT (splW l)]) else .bad o.length with
      | .bad k => _
      | .good q => _)
    cases hok : lineOk true (splW l) with
    | false =>
      refine .inl ⟨(i : Int), o, ?_⟩
      exact lsRun_x (x := tupS l) (xs := (m :: ls).dropLast.map tupS) (gQ_f hok o)
    | true =>
      have ih := runQ (m :: ls) (o ++ [wlT (splW l)]) (i + 1) (by simp)
      have e : lsRun 0 gQ ((l :: m :: ls).dropLast.map tupS) i (o, 0, 0) = lsRun 0 gQ ((m :: ls).dropLast.map tupS) (i + 1) (o ++ [wlT (splW l)], 0, 0) := lsRun_n (x := tupS l) (xs := (m :: ls).dropLast.map tupS) (gQ_t hok o)
      simp only [cond_true]
      rw [e]
      cases hg : goP (m :: ls) (o ++ [wlT (splW l)]) with
      | bad k =>
        rw [hg] at ih
        rcases ih with h | ⟨q, h1, h2, h3, h4⟩
        · exact .inl h
        · refine .inr ⟨q, ?_, by simpa using h2, h3, ?_⟩
          · rw [h1]
            simp only [List.length_cons]
            congr 3
            omega
          · rw [h4]; simp only [List.length_append, List.length_cons, List.length_nil]; omega
      | good q =>
        rw [hg] at ih
        obtain ⟨h1, h2, h4⟩ := ih
        refine ⟨?_, by simpa using h2, ?_⟩
        · rw [h1]
          simp only [List.length_cons]
          congr 3
          omega
        · rw [h4]; simp only [List.length_append, List.length_cons, List.length_nil]; omega
theorem cs89_gd (h0 : Lib0 w0) : Gds (cfg w0) cs89 := ⟨gd93 h0, gd157 h0, gd33 h0, trivial⟩
theorem spl_ne (c : UInt8) (l : List UInt8) : spl c l ≠ [] := fun h => by have := spl_len c l; rw [h] at this; simp at this
theorem nth_drop {P : List (List UInt8)} {j : Nat} (h : j < P.length - 1) : nth (P.map tupS) j = nth (P.dropLast.map tupS) j := by
  unfold nth
  rw [List.getD_eq_getElem?_getD, List.getD_eq_getElem?_getD, List.getElem?_map, List.getElem?_map, List.getElem?_dropLast, if_pos h]
theorem nth_last {P : List (List UInt8)} (h : P ≠ []) : (nth (P.map tupS) (P.length - 1)).1 = mkB (P.getLast h) := by
  have : (P.map tupS)[P.length - 1]? = some (tupS (P.getLast h)) := by
    rw [List.getElem?_map, ← List.getLast?_eq_getElem?, List.getLast?_eq_some_getLast h]
    rfl
  unfold nth
  rw [List.getD_eq_getElem?_getD, this]
  rfl
theorem nth_size {P : List (List UInt8)} (hlsz : ∀ l ∈ P, l.length ≤ 5000) {j : Nat} (hj : j < P.length) : (nth (P.map tupS) j).1.size ≤ 5000 := by
  have e1 : (P.map tupS)[j]? = some (tupS P[j]) := by rw [List.getElem?_map, List.getElem?_eq_getElem hj]; rfl
  have e2 : nth (P.map tupS) j = tupS P[j] := by unfold nth; rw [List.getD_eq_getElem?_getD, e1]; rfl
  rw [e2]
  show (mkB P[j]).size ≤ 5000
  rw [← bl_len, bl_mkB]
  exact hlsz _ (List.getElem_mem hj)
theorem rmW_ok {o : WL} (h : o.length ≤ 5000) (w : Tup wallK) : rmW (o ++ [w]) = true := by
  unfold rmW
  rw [List.length_append, List.length_singleton, (Nat.ble_eq ..).mpr (by omega), (Nat.ble_eq ..).mpr (by omega)]
  rfl
theorem tree89_go {L : SLs} {en : Int} {o : WL} {i r e : Int} (h1 : decide (i < en) = true) (h2 : inL L i = true) (h3 : smS (lnL L i) = true) (h4 : o.length ≤ 5000) :
    tree89 L en ⟨o, i, r, e⟩ = bif okQ (splC (cU 32) (lnL L i)) then nm89 L en ⟨o ++ [wQ (splC (cU 32) (lnL L i))], i, r, e⟩ else rt89 L en ⟨o, i, r, e⟩ := by
  have e5 := tl89_eq L en ⟨o, i, r, e⟩ (splC (cU 32) (lnL L i)) (rmW_ok h4 _)
  show (bif decide (i < en) then bif inL L i then bif smS (lnL L i) then tl89 L en ⟨o, i, r, e⟩ (splC (cU 32) (lnL L i)) else none else none else _) = _
  rw [h1, h2, h3]
  exact e5
theorem step89 {P : List (List UInt8)} (hlen : P.length ≤ 5000) (hlsz : ∀ l ∈ P, l.length ≤ 5000) (hen : en89 (P.map tupS) = ((P.length - 1 : Nat) : Int)) {j : Nat} (hj : j < P.length - 1) {o : WL} (ha : o.length = j) (r e : Int) :
    tree89 (P.map tupS) (en89 (P.map tupS)) ⟨o, (j : Int), r, e⟩ = some ([], (gQ (nth (P.dropLast.map tupS) j) (o, r, e)).1, st89 (P.map tupS) (en89 (P.map tupS)) ⟨(nx j (gQ (nth (P.dropLast.map tupS) j) (o, r, e))).2.1, (nx j (gQ (nth (P.dropLast.map tupS) j) (o, r, e))).1, (nx j (gQ (nth (P.dropLast.map tupS) j) (o, r, e))).2.2.1, (nx j (gQ (nth (P.dropLast.map tupS) j) (o, r, e))).2.2.2⟩) := by
  have hln : lnL (P.map tupS) (j : Int) = (nth (P.dropLast.map tupS) j).1 := by show (nth (P.map tupS) ((j : Int)).toNat).1 = _; rw [Int.toNat_natCast, nth_drop hj]
  have hn := nth_size hlsz (show j < P.length by omega)
  rw [tree89_go (by rw [hen]; exact decide_eq_true (by omega)) (inL_nat (by rw [List.length_map]; omega)) ((Nat.ble_eq ..).mpr (by show (nth (P.map tupS) ((j : Int)).toNat).1.size ≤ _; rw [Int.toNat_natCast]; omega)) (by omega), hln]
  generalize hx : nth (P.dropLast.map tupS) j = x
  generalize en89 (P.map tupS) = en
  generalize P.map tupS = L
  unfold gQ
  cases okQ (splC (cU 32) x.1) with
  | true => rfl
  | false =>
    show rt89 L en ⟨o, (j : Int), r, e⟩ = some ([], X.ret, st89 L en ⟨o, (j : Int), (o.length : Int), 25⟩)
    rw [ha]
    rfl
theorem lL89 (h0 : Lib0 w0) {P : List (List UInt8)} (hlen : P.length ≤ 5000) (hlsz : ∀ l ∈ P, l.length ≤ 5000) (hp1 : 1 ≤ P.length) (hen : en89 (P.map tupS) = ((P.length - 1 : Nat) : Int)) (hll : (P.dropLast.map tupS).length = P.length - 1)
    {x : X} {p : Int × (WL × Int × Int)} (hx : lsRun 0 gQ (P.dropLast.map tupS) 0 ([], 0, 0) = (x, p)) :
    LdT ((cfg w0).at cs89) (ld89 (P.map tupS) (en89 (P.map tupS)) (outX 0 x) ⟨p.2.1, p.1, p.2.2.1, p.2.2.2⟩) (.loop (lpB 0 (fnOf Tryz.f89).body)) (st89 (P.map tupS) (en89 (P.map tupS)) ⟨[], 0, 0, 0⟩) := by
  have hx' : rgRun 0 (fun j a => gQ (nth (P.dropLast.map tupS) j) a) (P.length - 1) 0 ([], 0, 0) = (x, p) := by
    rw [← hx, ← hll]
    exact rgRun_ls (l0 := []) (l := P.dropLast.map tupS) 0 _ (fun j b _ => rfl)
  exact ldT_rg (at_ok (cfg_ok w0) cs89) (at_sp h0 (cs89_gd h0)) (N := N89) (rel := rel89) (B := lpB 0 (fnOf Tryz.f89).body) (id := 0) (k := P.length - 1) (by omega) (fun p => st89 (P.map tupS) (en89 (P.map tupS)) ⟨p.2.1, p.1, p.2.2.1, p.2.2.2⟩) (fun j a => gQ (nth (P.dropLast.map tupS) j) a) (fun j a => a.1.length = j)
    (fun j a hj ha => .leaf (by
      obtain ⟨o, r, e⟩ := a
      exact (round89 (P.map tupS) _ ⟨o, (j : Int), r, e⟩).trans (step89 hlen hlsz hen hj ha r e)))
    (fun j a a' hj ha h => by
      unfold gQ at h
      cases hk : okQ (splC (cU 32) (nth (P.dropLast.map tupS) j).1) with
      | false => rw [hk] at h; cases h
      | true => rw [hk] at h; cases h; simp; exact ha)
    (fun a _ => .leaf (by
      obtain ⟨o, r, e⟩ := a
      refine (round89 (P.map tupS) _ ⟨o, ((P.length - 1 : Nat) : Int), r, e⟩).trans ?_
      show (bif decide (((P.length - 1 : Nat) : Int) < en89 (P.map tupS)) then _ else _) = _
      rw [hen, decide_eq_false (show ¬ ((P.length - 1 : Nat) : Int) < ((P.length - 1 : Nat) : Int) by omega)]
      rfl)) (a0 := ([], 0, 0)) rfl hx'
theorem fn89 (h0 : Lib0 w0) (s : ByteArray) : FnD (cfg w0) 89 [St_ s] (p3D (parP s)) := by
  have fin : ∀ {L : List Ld} {o : Obs} {d : D}, bodyT ((cfg w0).at cs89) 40 L 40 (fnOf Tryz.f89) [St_ s] = some (o, d) → Owed ((cfg w0).at cs89) o → FnD (cfg w0) 89 [St_ s] d :=
    fun h hO => fnD_t (C := cfg w0) (cfg_ok w0) h0 (cs89_gd h0) (fd := fnOf Tryz.f89) rfl h hO
  unfold parP
  cases hc : lgS s with
  | true =>
    have hb := body89r (w0 := w0) s ⟨[], 0, 0, 0⟩
    rw [hc] at hb
    exact FnD.nil_vec (ks := wallK) (vs := [.int .i64 0, .int .i64 26]) rfl (by decide) (fin hb trivial)
  | false =>
    have hs := lgS_le hc
    have hsm : smS s = true := (Nat.ble_eq ..).mpr (by omega)
    simp only [cond_false]
    have hP := spl_ne 10 (bl s)
    have hlen : (spl 10 (bl s)).length ≤ 5000 := by
      rw [spl_len]
      have : (bl s).count 10 ≤ (bl s).length := List.count_le_length
      rw [bl_len] at this
      omega
    have hlsz : ∀ l ∈ spl 10 (bl s), l.length ≤ 5000 := by
      have key : ∀ (c : UInt8) (b : List UInt8), ∀ l ∈ spl c b, l.length ≤ b.length := fun c b => by
        induction b with
        | nil => intro l hl; simp [spl] at hl; subst hl; simp
        | cons x b ih =>
          intro l hl
          cases hx : (x == c) with
          | true =>
            rw [spl_t hx] at hl
            rcases List.mem_cons.1 hl with rfl | hl
            · simp
            · have := ih l hl; simp; omega
          | false =>
            rw [spl_f hx] at hl
            cases hb : spl c b with
            | nil => exact absurd hb (spl_ne c b)
            | cons y ys =>
              rw [hb] at hl ih
              rcases List.mem_cons.1 (show l ∈ (x :: y) :: ys from hl) with rfl | hl
              · have := ih y (by simp); simp; omega
              · have := ih l (by simp [hl]); simp; omega
      intro l hl
      have := key 10 (bl s) l hl
      rw [bl_len] at this
      omega
    have hcu : splC (cU 10) s = (spl 10 (bl s)).map tupS := rfl
    have hbn := fun q => body89n (w0 := w0) s q
    have hbr := fun q => body89r (w0 := w0) s q
    rw [hcu] at hbn hbr
    generalize spl 10 (bl s) = P at hP hlen hlsz hbn hbr
    have hp1 : 1 ≤ P.length := by cases P with | nil => exact absurd rfl hP | cons => simp
    have hen : en89 (P.map tupS) = ((P.length - 1 : Nat) : Int) := by unfold en89; rw [List.length_map, W_id (by omega) (by omega)]; omega
    have hll : (P.dropLast.map tupS).length = P.length - 1 := by rw [List.length_map, List.length_dropLast]
    have hld := fun x p hx => lL89 h0 (P := P) hlen hlsz hp1 hen hll (x := x) (p := p) hx
    have hR := runQ P [] 0 hP
    have hlast := nth_last hP
    have hinE : inL (P.map tupS) (en89 (P.map tupS)) = true := by rw [hen]; exact inL_nat (by rw [List.length_map]; omega)
    have hlnE : lnL (P.map tupS) (en89 (P.map tupS)) = mkB (P.getLast hP) := by rw [hen]; show (nth (P.map tupS) (((P.length - 1 : Nat) : Int)).toNat).1 = _; rw [Int.toNat_natCast]; exact hlast
    have hmt : ((mkB (P.getLast hP)).toList == mtL.toList) = (P.getLast hP == []) := by rw [str_eq, bl_mkB]; rfl
    have hgl : P.getLast? = some (P.getLast hP) := List.getLast?_eq_some_getLast hP
    cases hg : goP P [] with
    | bad k =>
      rw [hg] at hR
      rcases hR with ⟨n, q, h1⟩ | ⟨q, h1, h2, h3, h4⟩
      · have hb := hbr ⟨q, n, k, 25⟩
        rw [hc, hsm] at hb
        exact FnD.nil_vec (ks := wallK) (vs := [.int .i64 k, .int .i64 25]) rfl (by decide) (fin hb ⟨hld _ _ h1, trivial⟩)
      · have hb := hbn ⟨q, ((0 + (P.length - 1) : Nat) : Int), 0, 0⟩
        have hne : (P.getLast hP == []) = false := by
          rw [hgl] at h2
          cases hx : (P.getLast hP == []) with
          | false => rfl
          | true => exact absurd (by rw [eq_of_beq hx]) h2
        rw [hc, hsm, hinE, hlnE, hmt, hne] at hb
        have hk : en89 (P.map tupS) = k := by rw [hen, h3, h4]; simp
        have hb' : bodyT ((cfg w0).at cs89) 40 [ld89 (P.map tupS) (en89 (P.map tupS)) .normal ⟨q, ((0 + (P.length - 1) : Nat) : Int), 0, 0⟩] 40 (fnOf Tryz.f89) [St_ s] = some (ob89 (P.map tupS) .normal ⟨q, ((0 + (P.length - 1) : Nat) : Int), 0, 0⟩, .tup [nlV, I k, I 25]) := by rw [← hk]; exact hb
        exact FnD.nil_vec (ks := wallK) (vs := [.int .i64 k, .int .i64 25]) rfl (by decide) (fin hb' ⟨hld _ _ h1, trivial⟩)
    | good q =>
      rw [hg] at hR
      obtain ⟨h1, h2, h4⟩ := hR
      have hb := hbn ⟨q, ((0 + (P.length - 1) : Nat) : Int), 0, 0⟩
      have hne : (P.getLast hP == []) = true := by
        rw [hgl] at h2
        have : P.getLast hP = [] := Option.some.inj h2
        rw [this]
        rfl
      have hO : Owed ((cfg w0).at cs89) (ob89 (P.map tupS) .normal ⟨q, ((0 + (P.length - 1) : Nat) : Int), 0, 0⟩) := ⟨hld _ _ h1, trivial⟩
      rw [hc, hsm, hinE, hlnE, hmt, hne] at hb
      unfold fz87
      simp only
      have hk : en89 (P.map tupS) = (q.length : Int) := by rw [hen, h4]; simp
      cases hce : (chkAllW q != 0) with
      | true =>
        simp only [] at hb
        rw [hce] at hb
        have hb' : bodyT ((cfg w0).at cs89) 40 [ld89 (P.map tupS) (en89 (P.map tupS)) .normal ⟨q, ((0 + (P.length - 1) : Nat) : Int), 0, 0⟩] 40 (fnOf Tryz.f89) [St_ s] = some (ob89 (P.map tupS) .normal ⟨q, ((0 + (P.length - 1) : Nat) : Int), 0, 0⟩, .tup [nlV, I q.length, I (chkAllW q)]) := by rw [← hk]; exact hb
        exact FnD.nil_vec (ks := wallK) (vs := [.int .i64 q.length, .int .i64 (chkAllW q)]) rfl (by decide) (fin hb' hO)
      | false =>
        simp only [] at hb
        rw [hce] at hb
        exact fin hb hO
def c89 : Ct := ct 89 [.c .str] fun a => .leaf (p3D (parP a.1))
theorem gd89 (h0 : Lib0 w0) : Gd (cfg w0) c89 := gd_sig fun a d hd => by
  obtain ⟨s, u⟩ := a
  cases hd
  exact fn89 h0 s
end
end Go.Proofs.YtmlglimahbjgbaaGreatDoor
