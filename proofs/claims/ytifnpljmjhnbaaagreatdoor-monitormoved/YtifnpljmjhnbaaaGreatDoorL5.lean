/-
  A part of the proof of the statement that the claim names: see the last file.
-/
import Derived.Test.YtifnpljmjhnbaaaGreatDoorL3
import Derived.Test.YtifnpljmjhnbaaaGreatDoorL4
namespace Go.Proofs.YtifnpljmjhnbaaaGreatDoor
open Go Go.Am
set_option maxRecDepth 100000
variable {w0 : World}
noncomputable section


abbrev sK : List Kd := [.int .i16]
abbrev bK3 : List Kd := [.int .u8, .int .u8, .int .u8]
abbrev U8 (n : Int) : D := .val (.int .u8 n)
abbrev SL := List (Tup sK)
def x1 (x : Tup sK) : Int := x.1
def mD (n : Tup bK3) : D := .obox [U8 n.1, U8 n.2.1, U8 n.2.2.1]
def c77 : Ct := ct 77 [.c ik] fun a => .br (smpB a.1) (.leaf (F32 (smp a.1))) .bad
theorem gd77 : Gd (cfg w0) c77 := gd_sig fun a d hd => by
  obtain ⟨n, u⟩ := a
  obtain ⟨hg, hd⟩ := br_run hd
  cases hd
  exact smp77_fn n hg
def cs11 : List Ct := [c77, c43, c42, c44, c45, c23]
abbrev N11 : Nat := (fnOf Tryz.f11).ntmps
abbrev S3' := FL × FL × Int
def rel11a : List (Nat × Cv) := [(50, .id), (51, .id), (52, .id), (0, .id), (5, .id), (6, .id), (7, .ov fsK), (8, .ov fsK), (3, .id)]
def st11a (l : SL) (n : Tup bK3) (by_ : Int) (a : Int × S3') : List D := [.vec sK l, I l.length, I a.1, .vec sK l, I by_, I a.2.2.2, .ovec fsK a.2.1, .ovec fsK a.2.2.1, mD n]
def rel11b : List (Nat × Cv) := [(131, .sv intK), (132, .id), (133, .id), (11, .sv intK), (13, .sv intK), (0, .id), (5, .id), (6, .id), (18, .id), (15, .id), (16, .id), (3, .id)]
def st11b (l : SL) (n : Tup bK3) (by_ sum : Int) (c d : TLi) (lag : L4) (a : Int × Int) : List D := [.vec intK c, I c.length, I a.1, .vec intK c, .vec intK d, .vec sK l, I by_, I sum, I a.2, I lag.1, .obox [I lag.2.1, I lag.2.2.1], mD n]

def inS1 (l : SL) (j : Int) : Bool := Nat.beq 1 1 && (decide (0 ≤ j) && decide (j < l.length))
theorem inS1_nat {l : SL} {j : Nat} (h : j < l.length) : inS1 l (j : Int) = true := inb 1 h
def smx (x : Tup sK) : Int := (IntKind.i64.wrap (x1 x)).tmod 2001
def ix11 (l : SL) (b i : Int) : Int := (IntKind.i64.wrap (i + b)).tmod l.length
def fT (b : Nat) : Tup fsK := (b, ())
def setF (p : FL) (j : Int) (v : Nat) : FL := List.set p (j.toNat + 0) (fT v)
theorem round11a (l : SL) (n : Tup bK3) (b i : Int) (p q : FL) (s : Int) : rndD ((cfg w0).at cs11) 40 [] 40 N11 rel11a (lpB 0 (fnOf Tryz.f11).body) (st11a l n b (i, p, q, s)) =
    bif decide (i < l.length) then bif inS1 l i then bif smpB (smx (nth l i.toNat)) then bif inF p i then bif decide ((l.length : Int) = 0) then none else bif inF p i then bif inF q (ix11 l b i) then
      some ([], .normal, st11a l n b (W (i + 1), setF p i (smp (smx (nth l i.toNat))), setF q (ix11 l b i) (f1 (nth (setF p i (smp (smx (nth l i.toNat)))) (i.toNat + 0))), IntKind.i64.wrap (s + smx (nth l i.toNat))))
    else none else none else none else none else none else some ([], .exit 0, st11a l n b (i, p, q, s)) := by kernel_rfl
def ixD (l : SL) (k : Int) : Int := (IntKind.i64.wrap ((l.length : Int) - k)).tmod l.length
theorem round11b (l : SL) (n : Tup bK3) (b s : Int) (c d : TLi) (lag : L4) (k a : Int) : rndD ((cfg w0).at cs11) 40 [] 40 N11 rel11b (lpB 2 (fnOf Tryz.f11).body) (st11b l n b s c d lag (k, a)) =
    bif decide (k < c.length) then bif inO c k then bif inO c b then bif decide (i1 (nth c k.toNat) > i1 (nth c b.toNat)) then some ([], .ret, st11b l n b s c d lag (k, a)) else
      bif decide ((l.length : Int) = 0) then none else bif inO d (ixD l k) then bif i1 (nth c k.toNat) != i1 (nth d (ixD l k).toNat) then some ([], .ret, st11b l n b s c d lag (k, a)) else
        some ([], .normal, st11b l n b s c d lag (W (k + 1), IntKind.i64.wrap (a + i1 (nth c k.toNat))))
    else none else none else none else some ([], .exit 2, st11b l n b s c d lag (k, a)) := by
  obtain ⟨g1, g2, g3, g4⟩ := lag
  kernel_rfl
def by11 (l : SL) (n : Tup bK3) : Int := (IntKind.i64.wrap n.1).tmod l.length
def ld11a (l : SL) (n : Tup bK3) (x : Int × S3') : Ld := ldP 0 N11 rel11a .normal (st11a l n (by11 l n) x)
def ld11b (l : SL) (n : Tup bK3) (by_ sum : Int) (c d : TLi) (lag : L4) (a : Int × Int) : Ld := ldP 2 N11 rel11b .normal (st11b l n by_ sum c d lag a)
def g1' (b : Bool) (k : Option (Obs × D)) : Option (Obs × D) := bif b then k else none
def f1' (b : Bool) (o : Obs) (k : Option (Obs × D)) : Option (Obs × D) := bif b then some (o, Bo false) else k
def t1' (b : Bool) (o : Obs) (k : Option (Obs × D)) : Option (Obs × D) := bif b then k else some (o, Bo false)
def mkF (n : Nat) : Bool := decide (0 ≤ (n : Int)) && (decide ((n : Int) = n) && (decide ((n : Int) ≤ 10000000) && (Nat.ble ((n : Int).toNat * 1) 10000000 && Nat.ble ((n : Int).toNat * 4) 1000000000000)))
def zF0 (l : SL) : FL := List.replicate (l.length : Int).toNat (fT 0)
def oA11 (l : SL) (n : Tup bK3) (x : Int × S3') : Obs := [(ld11a l n x, .loop (lpB 0 (fnOf Tryz.f11).body), st11a l n (by11 l n) (0, zF0 l, zF0 l, 0))]
def oB11 (l : SL) (n : Tup bK3) (x : Int × S3') (z : Int × Int) : Obs :=
  (ld11b l n (by11 l n) x.2.2.2 (cor42 x.2.1 x.2.2.1).1 (cor42 x.2.2.1 x.2.1).1 (lag44 x.2.1 x.2.2.1) z, .loop (lpB 2 (fnOf Tryz.f11).body), st11b l n (by11 l n) x.2.2.2 (cor42 x.2.1 x.2.2.1).1 (cor42 x.2.2.1 x.2.1).1 (lag44 x.2.1 x.2.2.1) (0, 0)) :: oA11 l n x
def X11 (n : Tup bK3) : Int := IntKind.i64.wrap ((IntKind.i64.wrap n.2.1).tmod 17 - 8)
def Y11 (n : Tup bK3) : Int := IntKind.i64.wrap ((IntKind.i64.wrap n.2.2.1).tmod 17 - 8)
def bz11 (x y : Int) (o : Obs) : Option (Obs × D) := t1' ((brP x y).2 == 6) o (t1' ((brP (tn x) (tn y)).2 == (brP x y).2) o (t1' ((brP (tn y) x).2 == (brP x y).2) o (some (o, Bo true))))
def bn11 (x y : Int) (o : Obs) : Option (Obs × D) := t1' ((brP x y).2 == 0) o (t1' ((brP (tn x) (tn y)).2 == 0) o (t1' ((brP (tn y) x).2 == 0) o (t1' (decide ((brP x y).1 ≥ 0)) o (t1' (decide ((brP x y).1 < 8)) o
  (t1' ((brP (tn x) (tn y)).1 == (IntKind.i64.wrap ((brP x y).1 + 4)).tmod 8) o (t1' ((brP (tn y) x).1 == (IntKind.i64.wrap ((brP x y).1 + 2)).tmod 8) o (some (o, Bo true))))))))
def br11 (x y : Int) (o : Obs) : Option (Obs × D) := bif x == 0 then bif y == 0 then bz11 x y o else bn11 x y o else bn11 x y o
def l11 (l : SL) (b : Int) (lag : L4) (o : Obs) (k : Option (Obs × D)) : Option (Obs × D) :=
  bif decide (lag.2.2.1 < lag.2.1) then bif decide ((l.length : Int) = 0) then none else f1' ((IntKind.i64.wrap (lag.1 - b)).tmod l.length != 0) o (f1' (decide (IntKind.i64.wrap (2 * lag.1) > l.length)) o (f1' (decide (IntKind.i64.wrap (2 * lag.1) ≤ IntKind.i64.wrap (0 - (l.length : Int)))) o k))
  else f1' (decide (IntKind.i64.wrap (2 * lag.1) > l.length)) o (f1' (decide (IntKind.i64.wrap (2 * lag.1) ≤ IntKind.i64.wrap (0 - (l.length : Int)))) o k)
def t11 (l : SL) (n : Tup bK3) (x : Int × S3') (z : Int × Int) : Option (Obs × D) :=
  bif decide ((l.length : Int) < 2) then some ([], Bo true) else bif decide ((l.length : Int) > 8) then some ([], Bo true) else bif decide ((l.length : Int) = 0) then none else
  g1' (mkF l.length) (g1' (mkF l.length) (g1' (smF x.2.1) (g1' (smF x.2.2.1) (g1' (okW x.2.1 x.2.2.1) (g1' (smF x.2.2.1) (g1' (smF x.2.1) (g1' (okW x.2.2.1 x.2.1) (g1' (smF x.2.1) (g1' (smF x.2.2.1) (g1' (okW x.2.1 x.2.2.1)
  (f1' ((cor42 x.2.1 x.2.2.1).2 != 0) (oA11 l n x) (f1' ((cor42 x.2.2.1 x.2.1).2 != 0) (oA11 l n x) (f1' ((lag44 x.2.1 x.2.2.1).2.2.2 != 0) (oA11 l n x)
  (f1' (((cor42 x.2.1 x.2.2.1).1.length : Int) != l.length) (oA11 l n x) (f1' (((cor42 x.2.2.1 x.2.1).1.length : Int) != l.length) (oA11 l n x)
  (f1' (z.2 != IntKind.i64.wrap (x.2.2.2 * x.2.2.2)) (oB11 l n x z) (g1' (inO (cor42 x.2.1 x.2.2.1).1 (by11 l n)) (f1' ((lag44 x.2.1 x.2.2.1).2.1 != i1 (nth (cor42 x.2.1 x.2.2.1).1 (by11 l n).toNat)) (oB11 l n x z)
  (f1' (decide ((lag44 x.2.1 x.2.2.1).2.2.1 > (lag44 x.2.1 x.2.2.1).2.1)) (oB11 l n x z)
  (l11 l (by11 l n) (lag44 x.2.1 x.2.2.1) (oB11 l n x z) (br11 (X11 n) (Y11 n) (oB11 l n x z))))))))))))))))))))))
theorem body11 (l : SL) (n : Tup bK3) (x : Int × S3') (z : Int × Int) : bodyT ((cfg w0).at cs11) 40 [ld11a l n x, ld11b l n (by11 l n) x.2.2.2 (cor42 x.2.1 x.2.2.1).1 (cor42 x.2.2.1 x.2.1).1 (lag44 x.2.1 x.2.2.1) z] 40 (fnOf Tryz.f11) [.vec sK l, .agg [U8 n.1, U8 n.2.1, U8 n.2.2.1]] = t11 l n x z := by
  kernel_rfl
end
end Go.Proofs.YtifnpljmjhnbaaaGreatDoor
