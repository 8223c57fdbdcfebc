/-
 A part of the proof of the statement that the claim names: see the last file.
-/
import Derived.Test.YtmlglimahbjgbaaGreatDoorW5
namespace Go.Proofs.YtmlglimahbjgbaaGreatDoor
open Go Go.Am Go.Town
set_option maxRecDepth 100000
variable {w0 : World}
noncomputable section
def pln (s : Tup v3K) : Tup ptK := (s.1, s.2.1, ())
def Ub (b : Bd) : List (Tup wallK) := orW (chkB b) (edges b)
def inb12 (b : Bd) (q : Tup ptK) : Bool := orB (errBP b q) (!negL (sidesB b q))
def lw37 (l : List (Tup wallK)) : Ld := ldP 200037 (fnOf Tryz.f12).ntmps rw37 .ret (sw37 l true)
def lw33 (l : List (Tup wallK)) (b : Bd) (p : Tup ptK) (x : Tup bxK) (s r : Tup v3K) (pl : Bool) : Ld := ldP 200033 (fnOf Tryz.f12).ntmps rw33 .normal (sw33 l b p x s r (Ub b) (inb12 b (pln s)) (inb12 b (pln r)) pl false)
def lw0 (l : List (Tup wallK)) (b : Bd) (p : Tup ptK) (x : Tup bxK) (s r : Tup v3K) : Ld := ldP 0 (fnOf Tryz.f12).ntmps rw0 .normal (sw0 l b p x s r (Ub b) false (Ub b).length)
def lw2 (l : List (Tup wallK)) (b : Bd) (p : Tup ptK) (x : Tup bxK) (s r : Tup v3K) (pl : Bool) : Ld := ldP 2 (fnOf Tryz.f12).ntmps rw2 .normal (sw2 l b p x s r (Ub b) (inb12 b (pln s)) (inb12 b (pln r)) ((Ub b).length, pl))
def o0 (l : List (Tup wallK)) (b : Bd) (p : Tup ptK) (x : Tup bxK) (s r : Tup v3K) : Obs := [(lw0 l b p x s r, .loop (lpB 0 (fnOf Tryz.f12).body), sw0 l b p x s r (Ub b) false 0)]
def o37 (l : List (Tup wallK)) (b : Bd) (p : Tup ptK) (x : Tup bxK) (s r : Tup v3K) (pl : Bool) : Obs :=
 (lw37 l, sq12 200037, sw37 l false) :: (lw33 l b p x s r pl, sq12 200033, sw33 l b p x s r (Ub b) (inb12 b (pln s)) (inb12 b (pln r)) pl false) ::
  (lw2 l b p x s r pl, .loop (lpB 2 (fnOf Tryz.f12).body), sw2 l b p x s r (Ub b) (inb12 b (pln s)) (inb12 b (pln r)) (0, true)) :: o0 l b p x s r
def cn0 (b : Bd) : Tup ptK := ((nth b.cs (0 + 0)).1, (nth b.cs (0 + 0)).2.1, ())
abbrev Ro12 := Option (Obs × D)
def gB (b : Bool) (k : Ro12) : Ro12 := bif b then k else none
def nB (b : Bool) (n k : Ro12) : Ro12 := bif b then n else k
def u22 (b : Bd) (s r : Tup v3K) (n y : Ro12) : Ro12 := gB (smallB b) (gB (smallB b) (gB (smallB b) (gB (smallB b) (nB (errBP b (pln s) != 0) n (nB (errBP b (pln r) != 0) n y)))))
def faL (b : Bd) (p : Tup ptK) : List (Tup intK) := orL (errBP b p) (facL (sidesB b p))
def u14 (b : Bd) (p : Tup ptK) (a e2 c e3 : Int) (n y : Ro12) : Ro12 :=
 nB (e2 != 0) n (nB (e3 != 0) n (nB (a != c) n (nB (errBP b p != 0) n (nB (errBP b p != 0) n (nB (errBP b (cn0 b) != 0) n (nB (chkB b != 0) n (nB (!(inb12 b p == (((faL b p).length : Int) == 0))) n (nB (!inb12 b (cn0 b)) n
  (nB (((Ub b).length : Int) != (b.cs.length : Int)) n y)))))))))
def u10 (b : Bd) (p : Tup ptK) (s r : Tup v3K) (a e2 c e3 : Int) (n n2 y : Ro12) : Ro12 :=
 gB (smallB b) (gB (smallB b) (gB (smallB b) (gB (smallB b) (gB (smallB b) (gB (Nat.beq 2 2 && (decide ((0 : Int) ≤ 0) && decide ((0 : Int) < b.cs.length))) (gB (smallB b) (gB (smallB b) (gB (smallB b)
  (u14 b p a e2 c e3 n (u22 b s r n2 y))))))))))
def minW (a b : Int) : Int := if b < a then b else a
def maxW (a b : Int) : Int := if b > a then b else a
def bx12 (s r : Tup v3K) : Tup bxK := (minW s.1 r.1, minW s.2.1 r.2.1, maxW s.1 r.1, maxW s.2.1 r.2.1, ())
def ag12 (l : List (Tup wallK)) (b : Bd) (p : Tup ptK) (x : Tup bxK) (s r : Tup v3K) : List D := [.vec wallK l, .agg [Str b.nm, .vec ptK b.cs, I b.h, I b.e, I p.1, I p.2.1, I x.1, I x.2.1, I x.2.2.1, I x.2.2.2.1], .agg [I s.1, I s.2.1, I s.2.2.1, I r.1, I r.2.1, I r.2.2.1]]
def rest12 (l : List (Tup wallK)) (b : Bd) (p : Tup ptK) (x : Tup bxK) (s r : Tup v3K) (near : List (Tup wallK)) (pl : Bool) : Ro12 :=
 u10 b p s r (orZ (e30 l s r) (sumT (deps l s r))) (e30 l s r) (orZ (e30 near s r) (sumT (deps near s r))) (e30 near s r) (some ([], Bo false)) (some (o0 l b p x s r, Bo false)) (some (o37 l b p x s r pl, Bo true))
def nr12 (l : List (Tup wallK)) (s r : Tup v3K) : List (Tup wallK) := orW (e68 l (bx12 s r)) (keepW (bx12 s r) l)
def u6 (l : List (Tup wallK)) (b : Bd) (p : Tup ptK) (x : Tup bxK) (s r : Tup v3K) (near : List (Tup wallK)) (pl : Bool) : Ro12 :=
 nB (e68 l (bx12 s r) != 0) (some ([], Bo false)) (nB (decide ((near.length : Int) > l.length)) (some ([], Bo false)) (gB (bl5 near) (nB (chkAllW near != 0) (some ([], Bo false)) (gB (bl5 l) (gB (bl5 near) (gB (bl5 near) (rest12 l b p x s r near pl)))))))
def pc12 (s r : Tup v3K) : Int := firstZ [pChk s, pChk r]
def law12T (l : List (Tup wallK)) (b : Bd) (p : Tup ptK) (x : Tup bxK) (s r : Tup v3K) (pl : Bool) : Ro12 :=
 nB (!fewB l) (some ([], Bo true)) (nB (!okS b) (some ([], Bo true)) (gB (smallB b) (nB (chkB b != 0) (some ([], Bo true)) (nB (chkPoint p.1 p.2.1 != 0) (some ([], Bo true)) (nB (pc12 s r != 0) (some ([], Bo true))
  (gB (bl5 l) (bif em68 l (bx12 s r) then gB (bl5 l) (rest12 l b p x s r [] pl) else u6 l b p x s r (nr12 l s r) pl)))))))
theorem law12_run (l : List (Tup wallK)) (b : Bd) (p : Tup ptK) (x : Tup bxK) (s r : Tup v3K) (pl : Bool) :
  bodyT ((cfg w0).at law12) 60 [lw0 l b p x s r, lw2 l b p x s r pl, lw33 l b p x s r pl, lw37 l] 60 (fnOf Tryz.f12) (ag12 l b p x s r) = law12T l b p x s r pl := by kernel_rfl
end
end Go.Proofs.YtmlglimahbjgbaaGreatDoor
