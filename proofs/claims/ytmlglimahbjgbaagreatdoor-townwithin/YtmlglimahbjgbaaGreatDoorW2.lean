/-
 A part of the proof of the statement that the claim names: see the last file.
-/
import Derived.Test.YtmlglimahbjgbaaGreatDoorW1
namespace Go.Proofs.YtmlglimahbjgbaaGreatDoor
open Go Go.Am Go.Town
set_option maxRecDepth 100000
variable {w0 : World}
noncomputable section
def rel156 : List (Nat × Cv) := [(0, .id), (3, .id), (4, .id)]
def st156 (n : Int) (a : Int × ByteArray) : List D := [I n, Str a.2, I a.1]
def digB (k : Int) : UInt8 := UInt8.ofNat (IntKind.u8.wrap (IntKind.i64.wrap (48 + if IntKind.i64.wrap (0 - k.tmod 10) > k.tmod 10 then IntKind.i64.wrap (0 - k.tmod 10) else k.tmod 10))).toNat
def one8 (c : UInt8) : ByteArray := ⟨#[c]⟩
def minus : ByteArray := ⟨#[45]⟩
theorem round156 (n k : Int) (s : ByteArray) : rndD ((cfg w0).at []) 40 [] 40 (fnOf Tryz.f156).ntmps rel156 (lpB 0 (fnOf Tryz.f156).body) (st156 n (k, s)) =
  bif k != 0 then
   bif Nat.ble ((one8 (digB k)).size + s.size) 9223372036854775807 then some ([], .normal, st156 n (IntKind.i64.wrap (k.tdiv 10), one8 (digB k) ++ s)) else none
  else some ([], .exit 0, st156 n (k, s)) := by kernel_rfl
theorem body156 (n : Int) (p : Int × ByteArray) : bodyT ((cfg w0).at []) 40 [ldP 0 (fnOf Tryz.f156).ntmps rel156 .normal (st156 n p)] 40 (fnOf Tryz.f156) [I n] =
  bif n == 0 then some ([], Str (one8 48)) else
   bif decide (n < 0) then
    bif Nat.ble (minus.size + p.2.size) 9223372036854775807 then some ([(ldP 0 (fnOf Tryz.f156).ntmps rel156 .normal (st156 n p), .loop (lpB 0 (fnOf Tryz.f156).body), st156 n (n, ByteArray.empty))], Str (minus ++ p.2)) else none
   else some ([(ldP 0 (fnOf Tryz.f156).ntmps rel156 .normal (st156 n p), .loop (lpB 0 (fnOf Tryz.f156).body), st156 n (n, ByteArray.empty))], Str p.2) := by kernel_rfl
theorem dig_pos : ∀ r : Nat, r < 10 → (IntKind.u8.wrap (IntKind.i64.wrap (48 + if IntKind.i64.wrap (0 - (r : Int)) > (r : Int) then IntKind.i64.wrap (0 - (r : Int)) else (r : Int)))).toNat = 48 + r := by decide
theorem dig_neg : ∀ r : Nat, r < 10 → (IntKind.u8.wrap (IntKind.i64.wrap (48 + if IntKind.i64.wrap (0 - -(r : Int)) > -(r : Int) then IntKind.i64.wrap (0 - -(r : Int)) else -(r : Int)))).toNat = 48 + r := by decide
theorem tmod_neg (m : Nat) : (-(m : Int)).tmod 10 = -((m % 10 : Nat) : Int) := by
 rw [Int.neg_tmod]; rfl
theorem tdiv_neg' (m : Nat) : (-(m : Int)).tdiv 10 = -((m / 10 : Nat) : Int) := by
 rw [Int.neg_tdiv]; rfl
theorem digB_abs (k : Int) : digB k = UInt8.ofNat (48 + k.natAbs % 10) := by
 unfold digB
 rcases Int.natAbs_eq k with h | h
 ·generalize k.natAbs = m at h
  subst h
  rw [show ((m : Int)).tmod 10 = ((m % 10 : Nat) : Int) from rfl, dig_pos _ (Nat.mod_lt _ (by decide))]
 ·generalize k.natAbs = m at h
  subst h
  rw [tmod_neg, dig_neg _ (Nat.mod_lt _ (by decide))]
theorem tdiv_abs (k : Int) : (k.tdiv 10).natAbs = k.natAbs / 10 := by
 rcases Int.natAbs_eq k with h | h
 ·generalize k.natAbs = m at h
  subst h
  rw [show ((m : Int)).tdiv 10 = ((m / 10 : Nat) : Int) from rfl]; rfl
 ·generalize k.natAbs = m at h
  subst h
  rw [tdiv_neg', Int.natAbs_neg]; rfl
def next156 (a : Int × ByteArray) : X × (Int × ByteArray) := bif a.1 != 0 then (.normal, (IntKind.i64.wrap (a.1.tdiv 10), one8 (digB a.1) ++ a.2)) else (.exit 0, a)
theorem one_cat (c : UInt8) (acc : List UInt8) : one8 c ++ (⟨acc.toArray⟩ : ByteArray) = ⟨(c :: acc).toArray⟩ := by
 unfold one8
 rw [ByteArray.ext_iff]
 simp
theorem run156 : ∀ (f : Nat) (k : Int) (acc : List UInt8), k ≠ 0 → k.natAbs < 10 ^ f → k.natAbs < 9223372036854775809 → iterN next156 (f + 1) (k, ⟨acc.toArray⟩) = some (.exit 0, (0, ⟨(digs f k.natAbs acc).toArray⟩))
 | 0, k, acc, h0, h1, _ => by
   have : k.natAbs = 0 := by simpa using h1
   omega
 | f + 1, k, acc, h0, h1, h2 => by
   have hk : (k != 0) = true := by simpa using h0
   have hq := tdiv_abs k
   have hw : IntKind.i64.wrap (k.tdiv 10) = k.tdiv 10 := IntWalk.i64_in _ (by constructor <;> omega)
   have hstep : next156 (k, ⟨acc.toArray⟩) = (.normal, (k.tdiv 10, ⟨(UInt8.ofNat (48 + k.natAbs % 10) :: acc).toArray⟩)) := by
    unfold next156
    simp only [hk, cond_true, hw, digB_abs, one_cat]
   unfold iterN
   rw [hstep]
   simp only
   unfold digs
   by_cases hlt : k.natAbs < 10
   ·have hb : Nat.blt k.natAbs 10 = true := by rw [Nat.blt_eq]; exact hlt
    have hz : k.tdiv 10 = 0 := by
     have : (k.tdiv 10).natAbs = 0 := by rw [hq]; omega
     omega
    rw [hb, hz, Nat.mod_eq_of_lt hlt]
    unfold iterN
    rfl
   ·have hb : Nat.blt k.natAbs 10 = false := by
     cases h : Nat.blt k.natAbs 10 with
     | false => rfl
     | true => rw [Nat.blt_eq] at h; omega
    rw [hb]
    have hne : k.tdiv 10 ≠ 0 := fun h => by rw [h] at hq; simp at hq; omega
    have := run156 f (k.tdiv 10) (UInt8.ofNat (48 + k.natAbs % 10) :: acc) hne (by rw [hq]; rw [Nat.pow_succ] at h1; omega) (by omega)
    rw [this, hq]
theorem fn156 (h0 : Lib0 w0) (n : Int) (hn : inW n = true) : FnD (cfg w0) 156 [I n] (Str (txt n)) := by
 have hn' := hn
 unfold inW at hn'
 simp only [Bool.and_eq_true, decide_eq_true_eq] at hn'
 by_cases hz : n = 0
 ·subst hz
  exact fnD_t (cfg_ok w0) h0 (cs := []) trivial (fd := fnOf Tryz.f156) rfl (L := [ldP 0 (fnOf Tryz.f156).ntmps rel156 .normal (st156 0 (0, ByteArray.empty))]) (o := []) (body156 0 (0, ByteArray.empty)) trivial
 ·have hn0 : (n == 0) = false := by simpa using hz
  have e20 : (10 : Nat) ^ 20 = 100000000000000000000 := by decide
  have hit := run156 20 n [] hz (by rw [e20]; omega) (by omega)
  have hld := ldT_iter (at_ok (cfg_ok w0) []) (at_sp h0 (cs := []) trivial) (N := (fnOf Tryz.f156).ntmps) (rel := rel156) (B := lpB 0 (fnOf Tryz.f156).body) (id := 0) (st156 n) next156 (fun a => ∃ f : Nat, a.1.natAbs < 10 ^ f ∧ a.2.size + f ≤ 20 ∧ a.1.natAbs < 9223372036854775809)
   (fun a ⟨f, h1, h2, h3⟩ => .leaf (by
    obtain ⟨k, s⟩ := a
    simp only at h1 h2 h3
    rw [round156]
    unfold next156
    cases hk : (k != 0) with
    | false => simp only [cond_false]
    | true =>
      have : Nat.ble ((one8 (digB k)).size + s.size) 9223372036854775807 = true := Nat.ble_eq_true_of_le (by
       have : (one8 (digB k)).size = 1 := rfl
       omega)
      rw [this]
      simp only [cond_true])) (fun a b ⟨f, h1, h2, h3⟩ hb => by
    obtain ⟨k, s⟩ := a
    simp only at h1 h2 h3
    unfold next156 at hb
    cases hk : (k != 0) with
    | false => simp [hk] at hb
    | true =>
      have hk0 : k ≠ 0 := by simpa using hk
      simp only [hk, cond_true, Prod.mk.injEq, true_and] at hb
      subst hb
      have hq := tdiv_abs k
      have hw : IntKind.i64.wrap (k.tdiv 10) = k.tdiv 10 := IntWalk.i64_in _ (by constructor <;> omega)
      cases f with
      | zero => simp at h1; omega
      | succ f =>
        refine ⟨f, ?_, ?_, ?_⟩
        ·simp only [hw, hq]; rw [Nat.pow_succ] at h1; omega
        ·simp only [ByteArray.size_append]
         have : (one8 (digB k)).size = 1 := rfl
         omega
        ·simp only [hw, hq]; omega) ⟨20, by rw [e20]; simp only; omega, Nat.le_refl _, by simp only; omega⟩ hit
  have hsz : (⟨(digs 20 n.natAbs []).toArray⟩ : ByteArray).size ≤ 20 := by
   have := digs_len 20 n.natAbs []
   simp only [List.length_nil] at this
   show (digs 20 n.natAbs []).length ≤ 20
   omega
  refine fnD_lp (cfg_ok w0) h0 (cs := []) trivial (fd := fnOf Tryz.f156) rfl ((body156 n _).trans ?_) hld
  rw [hn0]
  simp only [cond_false]
  cases hneg : decide (n < 0) with
  | true =>
    rw [decide_eq_true_eq] at hneg
    have hb : Nat.ble (minus.size + (⟨(digs 20 n.natAbs []).toArray⟩ : ByteArray).size) 9223372036854775807 = true := Nat.ble_eq_true_of_le (by
     have : minus.size = 1 := rfl
     omega)
    have ht : txt n = minus ++ ⟨(digs 20 n.natAbs []).toArray⟩ := by
     obtain ⟨m, rfl⟩ : ∃ m : Nat, n = Int.negSucc m := ⟨n.natAbs - 1, by omega⟩
     exact (one_cat 45 (digs 20 (m + 1) [])).symm
    simp only [cond_true]
    rw [hb, ht]
    rfl
  | false =>
    rw [decide_eq_false_iff_not] at hneg
    have ht : txt n = ⟨(digs 20 n.natAbs []).toArray⟩ := by
     obtain ⟨m, rfl⟩ : ∃ m : Nat, n = m := ⟨n.toNat, by omega⟩
     rfl
    simp only [cond_false]
    rw [ht]
    rfl
def c156 : Ct := ct 156 [.c ik] fun a => .br (inW a.1) (.leaf (Str (txt a.1))) .bad
theorem gd156 (h0 : Lib0 w0) : Gd (cfg w0) c156 := gd_sig fun a d hd => by
 obtain ⟨hg, hd⟩ := br_run hd
 cases hd
 exact fn156 h0 a.1 hg
end
end Go.Proofs.YtmlglimahbjgbaaGreatDoor
namespace Go.Proofs.YtmlglimahbjgbaaGreatDoor
open Go Go.Am Go.Town
set_option maxRecDepth 100000
variable {w0 : World}
noncomputable section
def cs92 : List Ct := [c156]
def wA (w : Tup wallK) : D := .agg (wcs w)
theorem run92 (b : Bd) (i : Int) : bodyK ((cfg w0).at cs92) 40 (fnOf Tryz.f92) [bD b, I i] =
  bif Nat.ble (b.nm.size + us.size) 9223372036854775807 then
   bif inW i then
    bif Nat.ble ((b.nm ++ us).size + (txt i).size) 9223372036854775807 then
     bif (Nat.beq 2 2 && (decide (0 ≤ i) && decide (i < b.cs.length))) then
      bif decide ((b.cs.length : Int) = 0) then none else
       bif (Nat.beq 2 2 && (decide (0 ≤ (W (i + 1)).tmod (b.cs.length : Int)) && decide ((W (i + 1)).tmod (b.cs.length : Int) < b.cs.length))) then
        some (wA (edgeI b i))
       else none
     else none
    else none
   else none
  else none := by cases b; kernel_rfl
theorem fn92 (h0 : Lib0 w0) (b : Bd) (j : Nat) (hs : smallB b = true) (hj : j < b.cs.length) : FnD (cfg w0) 92 [bD b, I j] (wA (edgeT b j)) := by
 have hs' := hs
 simp only [smallB, Bool.and_eq_true, Nat.ble_eq] at hs'
 have h0' : j < 1000000 := by omega
 have h1 : Nat.ble (b.nm.size + us.size) 9223372036854775807 = true := Nat.ble_eq_true_of_le (by rw [us_size]; omega)
 have h2 : Nat.ble ((b.nm ++ us).size + (txt j).size) 9223372036854775807 = true := Nat.ble_eq_true_of_le (by
  have := txt_size j
  rw [ByteArray.size_append, us_size]
  omega)
 have h3 : decide ((b.cs.length : Int) = 0) = false := decide_eq_false (by omega)
 have h4 : (Nat.beq 2 2 && (decide (0 ≤ (W ((j : Int) + 1)).tmod (b.cs.length : Int)) && decide ((W ((j : Int) + 1)).tmod (b.cs.length : Int) < b.cs.length))) = true := by
  rw [W_nat (by omega), tmod_n]
  exact inb 2 (Nat.mod_lt _ (by omega))
 refine fnD_k (cfg_ok w0) h0 (cs := cs92) ⟨gd156 h0, trivial⟩ (fd := fnOf Tryz.f92) rfl (n := 40) ((run92 b j).trans ?_)
 rw [h1, inW_nat h0', h2, inb 2 hj, h3, h4, edgeI_nat h0']
 rfl
def inC (b : Bd) (i : Int) : Bool := decide (0 ≤ i) && decide (i < b.cs.length)
def c92 : Ct := ct 92 [.x, .c ik] fun a => match asB a.1 with
 | some b => .br (smallB b && inC b a.2.1) (.leaf (wA (edgeT b (show Int from a.2.1).toNat))) .bad
 | none => .bad
theorem gd92 (h0 : Lib0 w0) : Gd (cfg w0) c92 := gd_sig fun a d hd => by
 obtain ⟨x, i, u⟩ := a
 simp only at hd
 cases hb : asB x with
 | none => rw [hb] at hd; cases hd
 | some b =>
   rw [hb] at hd
   obtain ⟨hg, hd⟩ := br_run hd
   cases hd
   cases asB_eq hb
   unfold inC at hg
   simp only [Bool.and_eq_true, decide_eq_true_eq] at hg
   obtain ⟨hs, h1, h2⟩ := hg
   obtain ⟨j, hj⟩ : ∃ j : Nat, ((j : Int) : El ik) = i := ⟨Int.toNat i, Int.toNat_of_nonneg h1⟩
   subst hj
   exact fn92 h0 b j hs (Int.ofNat_lt.1 h2)
def sgS (w : Tup wallK) (p : Tup ptK) : Int := sgnZ (sideZ w.2.1 w.2.2.1 w.2.2.2.1 w.2.2.2.2.1 p.1 p.2.1 1)
theorem sgS_ne (w : Tup wallK) (p : Tup ptK) : (sgS w p != 1) = decide (sdW w p ≤ 0) := by
 show (sgnZ (sdW w p) != 1) = _
 unfold sgnZ
 generalize sdW w p = x
 by_cases h : 0 < x
 ·simp [h]
 ·by_cases h2 : x < 0
  ·simp [h, h2]; omega
  ·simp [h, h2]; omega
theorem inC_nat {b : Bd} {j : Nat} (h : j < b.cs.length) : inC b (j : Int) = true := by
 unfold inC
 simp only [Bool.and_eq_true, decide_eq_true_eq]
 omega
theorem sides_nth {b : Bd} {p : Tup ptK} {j : Nat} (h : j < b.cs.length) : i1 (nth (sidesB b p) j) = sdW (edgeT b j) p := by
 have : nth (sidesB b p) j = sdT p (edgeT b j) := by
  unfold sidesB
  simp [nth, edges, h]
 rw [this]; rfl
def rel70a : List (Nat × Cv) := [(1, .id), (4, .id), (5, .id), (2, .id)]
def st70a (b : Bd) (a : Int × Int) : List D := [.obox (bcs b), I b.cs.length, I a.1, I a.2]
def rel70b : List (Nat × Cv) := [(1, .id), (4, .id), (7, .id), (2, .id)]
def rel70i : List (Nat × Cv) := [(1, .id), (4, .id), (7, .id), (8, .id), (2, .id)]
def st70i (b : Bd) (i : Int) (a : Int × Int) : List D := [.obox (bcs b), I b.cs.length, I i, I a.1, I a.2]
def cs70 : List Ct := [c92, ⟨22, tG rsideF⟩, ⟨20, tG checkPointF⟩, firstC 108, ⟨144, tG nameF⟩, ⟨54, tG whenF⟩, ⟨32, tG (intsF withinK)⟩]
theorem cs70_gd (h0 : Lib0 w0) : Gds (cfg w0) cs70 := ⟨gd92 h0, gd_of (rside_good h0), gd_of (rcheckPoint_good h0), gd108 h0, gd_of (rname_good h0), gd_of (rwhen_good h0), gd_of (range_good h0), trivial⟩
def ePt (p : Tup ptK) : Int := chkPoint p.1 p.2.1
theorem round70a (b : Bd) (j r : Int) : rndD ((cfg w0).at cs70) 40 [] 40 (fnOf Tryz.f70).ntmps rel70a (lpB 0 (fnOf Tryz.f70).body) (st70a b (j, r)) =
  bif decide (j < b.cs.length) then
   bif (Nat.beq 2 2 && (decide (0 ≤ j) && decide (j < b.cs.length))) then
    bif ePt (nth b.cs (j.toNat + 0)) != 0 then some ([], .ret, st70a b (j, ePt (nth b.cs (j.toNat + 0)))) else some ([], .normal, st70a b (W (j + 1), r))
   else none
  else some ([], .exit 0, st70a b (j, r)) := by cases b; kernel_rfl
theorem round70i (b : Bd) (i j r : Int) : rndD ((cfg w0).at cs70) 40 [] 40 (fnOf Tryz.f70).ntmps rel70i (lpB 4 (fnOf Tryz.f70).body) (st70i b i (j, r)) =
  bif decide (j < b.cs.length) then
   bif j != i then
    bif decide ((b.cs.length : Int) = 0) then none else
     bif j != (W (i + 1)).tmod (b.cs.length : Int) then
      bif smallB b && inC b i then
       bif (Nat.beq 2 2 && (decide (0 ≤ j) && decide (j < b.cs.length))) then
        bif sgS (edgeT b i.toNat) (nth b.cs (j.toNat + 0)) != 1 then some ([], .ret, st70i b i (j, 2)) else some ([], .normal, st70i b i (W (j + 1), r))
       else none
      else none
     else some ([], .normal, st70i b i (W (j + 1), r))
   else some ([], .normal, st70i b i (W (j + 1), r))
  else some ([], .exit 4, st70i b i (j, r)) := by cases b; kernel_rfl
def ld70i (b : Bd) (i : Int) (x : X) (p : Int × Int) : Ld := ldP 4 (fnOf Tryz.f70).ntmps rel70i x (st70i b i p)
theorem round70n (b : Bd) (i r : Int) (p : Int × Int) : rndD ((cfg w0).at cs70) 40 [ld70i b i .normal p] 40 (fnOf Tryz.f70).ntmps rel70b (lpB 2 (fnOf Tryz.f70).body) (st70a b (i, r)) =
  bif decide (i < b.cs.length) then some ([(ld70i b i .normal p, .loop (lpB 4 (fnOf Tryz.f70).body), st70i b i (0, r))], .normal, st70a b (W (i + 1), p.2))
  else some ([], .exit 2, st70a b (i, r)) := by cases b; kernel_rfl
theorem round70r (b : Bd) (i r : Int) (p : Int × Int) : rndD ((cfg w0).at cs70) 40 [ld70i b i .ret p] 40 (fnOf Tryz.f70).ntmps rel70b (lpB 2 (fnOf Tryz.f70).body) (st70a b (i, r)) =
  bif decide (i < b.cs.length) then some ([(ld70i b i .ret p, .loop (lpB 4 (fnOf Tryz.f70).body), st70i b i (0, r))], .ret, st70a b (i, p.2))
  else some ([], .exit 2, st70a b (i, r)) := by cases b; kernel_rfl
def la70 (b : Bd) (x : X) (p : Int × Int) : Ld := ldP 0 (fnOf Tryz.f70).ntmps rel70a x (st70a b p)
def lb70 (b : Bd) (x : X) (p : Int × Int) : Ld := ldP 2 (fnOf Tryz.f70).ntmps rel70b x (st70a b p)
def fin70 (b : Bd) : Int := firstZ [withinZ b.h 1 1000, withinZ b.e 0 1000]
def pre70 (b : Bd) (k : Option (Obs × D)) : Option (Obs × D) :=
 bif (!isName b.nm) then some ([], I (e1n b true)) else bif e1n b (decide ((b.nm.size : Int) > 22)) != 0 then some ([], I (e1n b (decide ((b.nm.size : Int) > 22)))) else k
theorem body70r (b : Bd) (p q : Int × Int) : bodyT ((cfg w0).at cs70) 40 [la70 b .ret p, lb70 b .normal q] 40 (fnOf Tryz.f70) [bD b] =
  pre70 b (some ([(la70 b .ret p, .loop (lpB 0 (fnOf Tryz.f70).body), st70a b (0, 0))], I p.2)) := by cases b; kernel_rfl
theorem body70nr (b : Bd) (p q : Int × Int) : bodyT ((cfg w0).at cs70) 40 [la70 b .normal p, lb70 b .ret q] 40 (fnOf Tryz.f70) [bD b] =
  pre70 b (some ([(lb70 b .ret q, .loop (lpB 2 (fnOf Tryz.f70).body), st70a b (0, p.2)), (la70 b .normal p, .loop (lpB 0 (fnOf Tryz.f70).body), st70a b (0, 0))], I q.2)) := by cases b; kernel_rfl
theorem body70nn (b : Bd) (p q : Int × Int) : bodyT ((cfg w0).at cs70) 40 [la70 b .normal p, lb70 b .normal q] 40 (fnOf Tryz.f70) [bD b] =
  pre70 b (some ([(lb70 b .normal q, .loop (lpB 2 (fnOf Tryz.f70).body), st70a b (0, p.2)), (la70 b .normal p, .loop (lpB 0 (fnOf Tryz.f70).body), st70a b (0, 0))], I (fin70 b))) := by cases b; kernel_rfl
theorem lsRun_err {τ : Type} {id : Nat} (e : τ → Int) : ∀ (l : List τ) (i : Nat) (a : Int), ∃ q : Nat, lsRun id (fun x a => bif e x != 0 then (X.ret, e x) else (.normal, a)) l i a = bif firstZ (l.map e) != 0 then (.ret, ((q : Int), firstZ (l.map e))) else (.exit id, (((i + l.length : Nat) : Int), a))
 | [], i, a => ⟨0, rfl⟩
 | x :: xs, i, a => by
   obtain ⟨q, hq⟩ := lsRun_err (id := id) e xs (i + 1) a
   unfold lsRun
   rw [List.map_cons]
   unfold firstZ
   cases hx : (e x != 0) with
   | true => exact ⟨i, by simp only [hx, cond_true]⟩
   | false =>
     refine ⟨q, ?_⟩
     simp only [cond_false]
     rw [hq]
     simp only [List.length_cons, show i + 1 + xs.length = i + (xs.length + 1) by omega]
def ptsB (b : Bd) : Int := firstZ ((b.cs.map cPt).map i1)
theorem ptsB_eq (b : Bd) : firstZ (b.cs.map ePt) = ptsB b := by unfold ptsB; rw [List.map_map]; rfl
theorem chkB_eq (b : Bd) : chkB b = bif e1B b != 0 then e1B b else bif ptsB b != 0 then ptsB b else bif turnsB b then fin70 b else 2 := by
 unfold chkB
 cases (e1B b != 0) with
 | true => rfl
 | false =>
   simp only [cond_false]
   unfold e2B
   have : firstZ ((b.cs.map cPt).map i1) = ptsB b := rfl
   rw [this]
   unfold fin70
   generalize ptsB b = p
   cases hp : (p != 0) with
   | true => simp [firstZ, hp]
   | false =>
     cases turnsB b with
     | true => simp [firstZ, hp, whenZ]
     | false => simp [firstZ, hp, whenZ]
theorem fn70 (h0 : Lib0 w0) (b : Bd) (hs : smallB b = true) : FnD (cfg w0) 70 [bD b] (I (chkB b)) := by
 have hs' := hs
 simp only [smallB, Bool.and_eq_true, Nat.ble_eq] at hs'
 have hl := hs'.2
 have he : e1B b = e1n b (!isName b.nm || decide ((b.nm.size : Int) > 22)) := rfl
 have hpre : ∀ k, pre70 b k = bif e1B b != 0 then some ([], I (e1B b)) else k := fun k => by
  unfold pre70
  rw [he]
  cases hn : (!isName b.nm) with
  | true => rfl
  | false => simp only [cond_false, Bool.false_or]
 rw [chkB_eq]
 cases hb : (e1B b != 0) with
 | true => exact fnD_t (cfg_ok w0) h0 (cs70_gd h0) (fd := fnOf Tryz.f70) rfl (o := []) ((body70r b (0, 0) (0, 0)).trans (by rw [hpre, hb]; rfl)) trivial
 | false =>
   simp only [cond_false]
   have hA := fun x p => ldT_ls (at_ok (cfg_ok w0) cs70) (at_sp h0 (cs70_gd h0)) (N := (fnOf Tryz.f70).ntmps) (rel := rel70a) (B := lpB 0 (fnOf Tryz.f70).body) (id := 0) b.cs (by omega) (st70a b) (fun p a => bif ePt p != 0 then (X.ret, ePt p) else (.normal, a)) (fun _ _ => True)
    (fun j a hj _ => .leaf (by
     rw [round70a, inb 2 hj, lt_t hj, Int.toNat_natCast, Nat.add_zero]
     cases (ePt (nth b.cs j) != 0) <;> rfl)) (fun _ _ _ _ _ _ => trivial)
    (fun a _ => .leaf (by rw [round70a, ge_f]; rfl)) (a0 := 0) trivial (x := x) (p := p)
   obtain ⟨q, hq⟩ := lsRun_err (id := 0) ePt b.cs 0 0
   rw [ptsB_eq] at hq
   cases hp : (ptsB b != 0) with
   | true =>
     rw [hp] at hq
     exact fnD_t (cfg_ok w0) h0 (cs70_gd h0) (fd := fnOf Tryz.f70) rfl ((body70r b ((q : Int), ptsB b) (0, 0)).trans (by rw [hpre, hb]; rfl)) (by exact ⟨hA _ _ hq, trivial⟩)
   | false =>
     rw [hp] at hq
     simp only [cond_false]
     have hB := fun x p => ldT_rg (at_ok (cfg_ok w0) cs70) (at_sp h0 (cs70_gd h0)) (N := (fnOf Tryz.f70).ntmps) (rel := rel70b) (B := lpB 2 (fnOf Tryz.f70).body) (id := 2) (k := b.cs.length) (by omega) (st70a b) (fun i r => bif badE b i then (X.ret, (2 : Int)) else (.normal, r)) (fun _ _ => True)
      (fun i r hi _ => by
       obtain ⟨q, hq⟩ := rgRun_any (id := 4) (p := badT b (edgeT b i) i) (c := (2 : Int)) b.cs.length 0 r
       have key := fun x p => ldT_rg (at_ok (cfg_ok w0) cs70) (at_sp h0 (cs70_gd h0)) (N := (fnOf Tryz.f70).ntmps) (rel := rel70i) (B := lpB 4 (fnOf Tryz.f70).body) (id := 4) (k := b.cs.length) (by omega) (st70i b i) (fun k r => bif badT b (edgeT b i) i k then (X.ret, (2 : Int)) else (.normal, r)) (fun _ _ => True)
        (fun k r hk _ => .leaf (by
         have h3 : decide ((b.cs.length : Int) = 0) = false := decide_eq_false (by omega)
         rw [round70i, inb 2 hk, lt_t hk, h3, W_nat (by omega), tmod_n, bne_nat, bne_nat, Int.toNat_natCast, Int.toNat_natCast, Nat.add_zero, sgS_ne, hs, inC_nat hi]
         unfold badT
         cases (k != i) with
         | false => rfl
         | true =>
           cases (k != (i + 1) % b.cs.length) with
           | false => rfl
           | true => cases decide (sdW (edgeT b i) (nth b.cs k) ≤ 0) <;> rfl)) (fun _ _ _ _ _ _ => trivial)
        (fun r _ => .leaf (by rw [round70i, ge_f]; rfl)) (a0 := r) trivial (x := x) (p := p)
       have hbe : badE b i = (List.range' 0 b.cs.length).any (badT b (edgeT b i) i) := rfl
       rw [← hbe] at hq
       cases hbb : badE b i <;> rw [hbb] at hq
       ·refine .one ((round70n b i r (((0 + b.cs.length : Nat) : Int), r)).trans ?_) (key _ _ hq)
        rw [lt_t hi]
        rfl
       ·refine .one ((round70r b i r ((q : Int), 2)).trans ?_) (key _ _ hq)
        rw [lt_t hi]
        rfl) (fun _ _ _ _ _ _ => trivial)
      (fun r _ => .leaf (by rw [round70n b _ r (0, 0), ge_f]; rfl)) (a0 := 0) trivial (x := x) (p := p)
     obtain ⟨q2, hq2⟩ := rgRun_any (id := 2) (p := badE b) (c := (2 : Int)) b.cs.length 0 0
     have ht : turnsB b = !(List.range' 0 b.cs.length).any (badE b) := rfl
     rw [ht]
     cases hbb : (List.range' 0 b.cs.length).any (badE b) <;> rw [hbb] at hq2
     ·exact fnD_t (cfg_ok w0) h0 (cs70_gd h0) (fd := fnOf Tryz.f70) rfl ((body70nn b (((0 + b.cs.length : Nat) : Int), 0) (((0 + b.cs.length : Nat) : Int), 0)).trans (by rw [hpre, hb]; rfl)) (by exact ⟨hB _ _ hq2, hA _ _ hq, trivial⟩)
     ·exact fnD_t (cfg_ok w0) h0 (cs70_gd h0) (fd := fnOf Tryz.f70) rfl ((body70nr b (((0 + b.cs.length : Nat) : Int), 0) ((q2 : Int), 2)).trans (by rw [hpre, hb]; rfl)) (by exact ⟨hB _ _ hq2, hA _ _ hq, trivial⟩)
theorem gd70 (h0 : Lib0 w0) : Gd (cfg w0) (checkBC 70) := gd_b fun b d hd => by
 obtain ⟨hg, hd⟩ := br_run hd
 cases hd
 exact fn70 h0 b hg
end
end Go.Proofs.YtmlglimahbjgbaaGreatDoor
