/-
  A part of the proof of the statement that the claim names: see the last file.
-/
import Derived.Test.YtifnpljmjhnbaaaGreatDoorU2
namespace Go.Proofs.YtifnpljmjhnbaaaGreatDoor
open Go Go.Am
set_option maxRecDepth 100000
variable {w0 : World}
noncomputable section


def ld10a (l : UL) (n : Tup hK) (x : Int × TL) : Ld := ldP 0 N10 rel10a .normal (st10a l n x)
def ld10b (k : Kx) (x : Int × BL) : Ld := ldP 2 N10 rel10b .normal (st10b k x)
def ld10e (k : Kx) (b : BL) (i : Int) : Ld := ldP 8 N10 rel10e .normal (st10e k b i)
def ld10f (r : TL) (v : List (Tup IvK)) (f i : Int) : Ld := ldP 10 N10 rel10f .normal (st10f r v f i)
def thr10 (n : Tup hK) : Int := IntKind.i64.wrap (1 + IntKind.i64.wrap (IntKind.i64.wrap n.1 * 16))
def gap10 (n : Tup hK) : Int := (IntKind.i64.wrap n.2.1).tmod 5
def lea10 (n : Tup hK) : Int := IntKind.i64.wrap (1 + (IntKind.i64.wrap n.2.2.1).tmod 4)
def fac10 (n : Tup hK) : Int := IntKind.i64.wrap (500 + (IntKind.i64.wrap n.2.2.2.1).tmod 1000)
def ms10 (n : Tup hK) : Int := IntKind.i64.wrap ((1000000000 : Int).tdiv (fac10 n))
def cal10 (n : Tup hK) : T3 := cal 1000000 (ms10 n) (IntKind.i64.wrap (ms10 n + 1))
def evA10 (R : TL) (n : Tup hK) : EE := ev36 R (thr10 n, gap10 n, 1)
def evB10 (R : TL) (n : Tup hK) : EE := ev36 R (thr10 n, IntKind.i64.wrap (gap10 n + 1), 1)
def evC10 (R : TL) (n : Tup hK) : EE := ev36 R (thr10 n, gap10 n, lea10 n)
def kx10 (R : TL) (n : Tup hK) : Kx := ⟨(evA10 R n).1, (evC10 R n).1, R, thr10 n, gap10 n, lea10 n, n⟩
def cor10 (R : TL) (n : Tup hK) : LE := cor25 R (cal10 n).1 (cal10 n).2.1
def gb (b : Bool) (k : Option (Obs × D)) : Option (Obs × D) := bif b then k else none
def fl (b : Bool) (o : Obs) (k : Option (Obs × D)) : Option (Obs × D) := bif b then some (o, Bo false) else k
def mk10 (R : TL) : Bool := decide (0 ≤ (R.length : Int)) && (decide ((R.length : Int) = R.length) && (decide ((R.length : Int) ≤ 10000000) && (Nat.ble ((R.length : Int).toNat * 1) 10000000 && Nat.ble ((R.length : Int).toNat * 1) 1000000000000)))
def b0 (R : TL) : BL := List.replicate (R.length : Int).toNat (false, ())
def oA10 (l : UL) (n : Tup hK) (x : Int × TL) : Obs := [(ld10a l n x, .loop (lpB 0 (fnOf Tryz.f10).body), st10a l n (0, []))]
def oE10 (l : UL) (n : Tup hK) (x : Int × TL) (y : Int × BL) (i : Int) : Obs :=
  (ld10e (kx10 x.2 n) y.2 i, .loop (lpB 8 (fnOf Tryz.f10).body), st10e (kx10 x.2 n) y.2 0) :: (ld10b (kx10 x.2 n) y, .loop (lpB 2 (fnOf Tryz.f10).body), st10b (kx10 x.2 n) (0, b0 x.2)) :: oA10 l n x
def oF10 (l : UL) (n : Tup hK) (x : Int × TL) (y : Int × BL) (i j : Int) : Obs :=
  (ld10f x.2 (cor10 x.2 n).1 (fac10 n) j, .loop (lpB 10 (fnOf Tryz.f10).body), st10f x.2 (cor10 x.2 n).1 (fac10 n) 0) :: oE10 l n x y i
def t10f (l : UL) (n : Tup hK) (x : Int × TL) (y : Int × BL) (i j : Int) : Option (Obs × D) :=
  bif decide (fac10 n = 0) then none else
  bif (!(e15 1000000 (ms10 n) (IntKind.i64.wrap (ms10 n + 1)) != 0) && (is0 (IntKind.i64.wrap (ms10 n + 1)) || is0 (ms10 n))) then none else
  fl ((cal10 n).2.2 != 0) (oE10 l n x y i) (fl (decide ((cal10 n).1 > fac10 n)) (oE10 l n x y i) (fl (decide ((cal10 n).2.1 < fac10 n)) (oE10 l n x y i)
  (gb (sm x.2) (gb (sm x.2) (fl ((cor10 x.2 n).2 != 0) (oE10 l n x y i) (fl (((cor10 x.2 n).1.length : Int) != x.2.length) (oE10 l n x y i) (some (oF10 l n x y i j, Bo true))))))))
def t10 (l : UL) (n : Tup hK) (x : Int × TL) (y : Int × BL) (i j : Int) : Option (Obs × D) :=
  bif decide ((l.length : Int) < 1) then some ([], Bo true) else bif decide ((l.length : Int) > 40) then some ([], Bo true) else
  gb (sm x.2) (gb (sm x.2) (gb (sm x.2) (gb (sm x.2) (gb (sm x.2) (gb (sm x.2) (
  fl ((evA10 x.2 n).2 != 0) (oA10 l n x) (fl ((evB10 x.2 n).2 != 0) (oA10 l n x) (fl ((evC10 x.2 n).2 != 0) (oA10 l n x)
  (fl (decide (((evB10 x.2 n).1.length : Int) > (evA10 x.2 n).1.length)) (oA10 l n x) (fl (decide (((evC10 x.2 n).1.length : Int) > (evA10 x.2 n).1.length)) (oA10 l n x)
  (gb (mk10 x.2) (t10f l n x y i j))))))))))))
theorem body10 (l : UL) (n : Tup hK) (x : Int × TL) (y : Int × BL) (i j : Int) : bodyT ((cfg w0).at cs10) 40 [ld10a l n x, ld10b (kx10 x.2 n) y, ld10e (kx10 x.2 n) y.2 i, ld10f x.2 (cor10 x.2 n).1 (fac10 n) j] 40 (fnOf Tryz.f10) [.vec uK l, .agg [U16 n.1, U16 n.2.1, U16 n.2.2.1, U16 n.2.2.2.1]] = t10 l n x y i j := by
  kernel_rfl
end
end Go.Proofs.YtifnpljmjhnbaaaGreatDoor
