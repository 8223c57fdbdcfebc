/-
  A part of the proof of the statement that the claim names: see the last file.
-/
import Derived.Test.YtifnpljmjhnbaaaGreatDoorU1
namespace Go.Proofs.YtifnpljmjhnbaaaGreatDoor
open Go Go.Am
set_option maxRecDepth 100000
variable {w0 : World}
noncomputable section


abbrev N10 : Nat := (fnOf Tryz.f10).ntmps
def inU (l : UL) (j : Int) : Bool := Nat.beq 1 1 && (decide (0 ≤ j) && decide (j < l.length))
def inB (l : BL) (j : Int) : Bool := Nat.beq 1 1 && (decide (0 ≤ j) && decide (j < l.length))
theorem inU_nat {l : UL} {j : Nat} (h : j < l.length) : inU l (j : Int) = true := inb 1 h
theorem inB_nat {l : BL} {j : Nat} (h : j < l.length) : inB l (j : Int) = true := inb 1 h
def rm10 (o : TL) : Bool := Nat.ble (o.length * 8) 1000000000000 && Nat.ble o.length 1000000000000
theorem round10a (l : UL) (n : Tup hK) (i : Int) (o : TL) : rndD ((cfg w0).at cs10) 40 [] 40 N10 rel10a (lpB 0 (fnOf Tryz.f10).body) (st10a l n (i, o)) =
    bif decide (i < l.length) then bif inU l i then
      bif (u1 (nth l i.toNat)).tmod 7 == 3 then bif rm10 (o ++ [t1 (-1)]) then some ([], .normal, st10a l n (W (i + 1), o ++ [t1 (-1)])) else none
      else bif rm10 (o ++ [t1 (IntKind.i64.wrap ((u1 (nth l i.toNat)).tmod 1000001))]) then some ([], .normal, st10a l n (W (i + 1), o ++ [t1 (IntKind.i64.wrap ((u1 (nth l i.toNat)).tmod 1000001))])) else none
    else none else some ([], .exit 0, st10a l n (i, o)) := by kernel_rfl
def setB (b : BL) (j : Int) : BL := List.set b (j.toNat + 0) (true, ())
def tl10c (k : Kx) (i : Int) (e : Tup evK) (j : Int) (b : BL) (s m u : Int) : Option (Obs × X × List D) :=
  bif inO k.r j then bif decide (i1 (nth k.r j.toNat) ≥ k.t) then some ([], .normal, st10c k i e (W (j + 1), setB b j, IntKind.i64.wrap (s + i1 (nth k.r j.toNat)), m, IntKind.i64.wrap (u + 1)))
    else some ([], .normal, st10c k i e (W (j + 1), setB b j, IntKind.i64.wrap (s + i1 (nth k.r j.toNat)), m, u)) else none
theorem round10c (k : Kx) (i : Int) (e : Tup evK) (j : Int) (b : BL) (s m u : Int) : rndD ((cfg w0).at cs10) 40 [] 40 N10 rel10c (lpB 4 (fnOf Tryz.f10).body) (st10c k i e (j, b, s, m, u)) =
    bif decide (j < et e) then bif inB b j then bif inO k.r j then
      bif i1 (nth k.r j.toNat) == -1 then some ([], .normal, st10c k i e (W (j + 1), setB b j, s, IntKind.i64.wrap (m + 1), u)) else
      bif inO k.r j then bif inO k.r j then
        bif decide (i1 (nth k.r j.toNat) > ep e) then some ([], .ret, st10c k i e (j, setB b j, IntKind.i64.wrap (s + i1 (nth k.r j.toNat)), m, u)) else
        bif inO k.r j then bif i1 (nth k.r j.toNat) == ep e then bif decide (j < ea e) then some ([], .ret, st10c k i e (j, setB b j, IntKind.i64.wrap (s + i1 (nth k.r j.toNat)), m, u)) else tl10c k i e j b s m u
          else tl10c k i e j b s m u
        else none
      else none else none
    else none else none else some ([], .exit 4, st10c k i e (j, b, s, m, u)) := by
  obtain ⟨a, c, r, t, g, le, n0, n1, n2, n3, _⟩ := k
  obtain ⟨e1, e2, e3, e4, e5, e6, _⟩ := e
  kernel_rfl
theorem round10d (k : Kx) (i : Int) (e : Tup evK) (y : S4) (j : Int) (f : Bool) : rndD ((cfg w0).at cs10) 40 [] 40 N10 rel10d (lpB 6 (fnOf Tryz.f10).body) (st10d k i e y (j, f)) =
    bif decide (j < k.c.length) then bif inE k.c j then
      bif f then some ([], .normal, st10d k i e y (W (j + 1), true)) else some ([], .normal, st10d k i e y (W (j + 1), sameEv (nth k.c j.toNat) e))
    else none else some ([], .exit 6, st10d k i e y (j, f)) := by
  obtain ⟨a, c, r, t, g, le, n0, n1, n2, n3, _⟩ := k
  obtain ⟨e1, e2, e3, e4, e5, e6, _⟩ := e
  kernel_rfl
theorem round10e (k : Kx) (b : BL) (i : Int) : rndD ((cfg w0).at cs10) 40 [] 40 N10 rel10e (lpB 8 (fnOf Tryz.f10).body) (st10e k b i) =
    bif decide (i < k.r.length) then bif inO k.r i then
      bif decide (i1 (nth k.r i.toNat) ≥ k.t) then bif inB b i then bif !(b1 (nth b i.toNat)) then some ([], .ret, st10e k b i) else some ([], .normal, st10e k b (W (i + 1))) else none
      else some ([], .normal, st10e k b (W (i + 1)))
    else none else some ([], .exit 8, st10e k b i) := by
  obtain ⟨a, c, r, t, g, le, n0, n1, n2, n3, _⟩ := k
  kernel_rfl
def inI (l : List (Tup IvK)) (j : Int) : Bool := Nat.beq 2 2 && (decide (0 ≤ j) && decide (j < l.length))
theorem round10f (r : TL) (v : List (Tup IvK)) (f i : Int) : rndD ((cfg w0).at cs10) 40 [] 40 N10 rel10f (lpB 10 (fnOf Tryz.f10).body) (st10f r v f i) =
    bif decide (i < v.length) then bif inI v i then bif inO r i then
      bif i1 (nth r i.toNat) == -1 then bif !((v1 (nth v i.toNat) == -1) && ((v2 (nth v i.toNat) == -1) && true)) then some ([], .ret, st10f r v f i) else some ([], .normal, st10f r v f (W (i + 1)))
      else bif inO r i then bif decide (IntKind.i64.wrap (i1 (nth r i.toNat) * f) < IntKind.i64.wrap (1000 * v1 (nth v i.toNat))) then some ([], .ret, st10f r v f i) else
        bif inO r i then bif decide (IntKind.i64.wrap (i1 (nth r i.toNat) * f) > IntKind.i64.wrap (1000 * v2 (nth v i.toNat))) then some ([], .ret, st10f r v f i) else some ([], .normal, st10f r v f (W (i + 1)))
        else none
      else none
    else none else none else some ([], .exit 10, st10f r v f i) := by kernel_rfl
def ld10c (k : Kx) (i : Int) (e : Tup evK) (x : X) (y : Int × S4) : Ld := ldP 4 N10 rel10c x (st10c k i e y)
def ld10d (k : Kx) (i : Int) (e : Tup evK) (y : S4) (z : Int × Bool) : Ld := ldP 6 N10 rel10d .normal (st10d k i e y z)
def O10 (k : Kx) (i : Int) (e : Tup evK) (b : BL) (y : Int × S4) (z : Int × Bool) : Obs :=
  [(ld10d k i e y.2 z, .loop (lpB 6 (fnOf Tryz.f10).body), st10d k i e y.2 (0, false)), (ld10c k i e .normal y, .loop (lpB 4 (fnOf Tryz.f10).body), st10c k i e (ef e, b, 0, 0, 0))]
def tl10b (k : Kx) (i : Int) (e : Tup evK) (b : BL) (y : Int × S4) (z : Int × Bool) : Option (Obs × X × List D) :=
  bif inO k.r (ef e) then
    bif decide (i1 (nth k.r (ef e).toNat) < k.t) then some ([], .ret, st10b k (i, b)) else
    bif inO k.r (IntKind.i64.wrap (et e - 1)) then
      bif decide (i1 (nth k.r (IntKind.i64.wrap (et e - 1)).toNat) < k.t) then some ([], .ret, st10b k (i, b)) else
      bif decide (ea e < ef e) then some ([], .ret, st10b k (i, b)) else
      bif decide (ea e ≥ et e) then some ([], .ret, st10b k (i, b)) else
      bif inO k.r (ea e) then
        bif i1 (nth k.r (ea e).toNat) != ep e then some ([], .ret, st10b k (i, b)) else
        bif y.2.2.1 != ee e then some (O10 k i e b y z, .ret, st10b k (i, y.2.1)) else
        bif y.2.2.2.1 != em e then some (O10 k i e b y z, .ret, st10b k (i, y.2.1)) else
        bif !(z.2 == decide (y.2.2.2.2 ≥ k.le)) then some (O10 k i e b y z, .ret, st10b k (i, y.2.1)) else some (O10 k i e b y z, .normal, st10b k (W (i + 1), y.2.1))
      else none
    else none
  else none
def hd10b (k : Kx) (i : Int) (e : Tup evK) (b : BL) (tl : Option (Obs × X × List D)) : Option (Obs × X × List D) :=
  bif decide (ef e < 0) then some ([], .ret, st10b k (i, b)) else
  bif decide (ef e ≥ et e) then some ([], .ret, st10b k (i, b)) else
  bif decide (et e > k.r.length) then some ([], .ret, st10b k (i, b)) else
  bif decide (i > 0) then bif inE k.a (IntKind.i64.wrap (i - 1)) then
    bif decide (IntKind.i64.wrap (ef e - et (nth k.a (IntKind.i64.wrap (i - 1)).toNat)) ≤ k.g) then some ([], .ret, st10b k (i, b)) else tl
  else none else tl
theorem round10b (k : Kx) (i : Int) (b : BL) (y : Int × S4) (z : Int × Bool) : rndD ((cfg w0).at cs10) 40 [ld10c k i (nth k.a i.toNat) .normal y, ld10d k i (nth k.a i.toNat) y.2 z] 40 N10 rel10b (lpB 2 (fnOf Tryz.f10).body) (st10b k (i, b)) =
    bif decide (i < k.a.length) then bif inE k.a i then hd10b k i (nth k.a i.toNat) b (tl10b k i (nth k.a i.toNat) b y z)
    else none else some ([], .exit 2, st10b k (i, b)) := by
  obtain ⟨a, c, r, t, g, le, n0, n1, n2, n3, _⟩ := k
  obtain ⟨j', b', s, m, u⟩ := y
  obtain ⟨q, f⟩ := z
  kernel_rfl
end
end Go.Proofs.YtifnpljmjhnbaaaGreatDoor
