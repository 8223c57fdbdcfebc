/-
 A part of the proof of the statement that the claim names: see the last file.
-/
import Derived.Test.YtmlglimahbjgbaaGreatDoorW4
namespace Go.Proofs.YtmlglimahbjgbaaGreatDoor
open Go Go.Am Go.Town
set_option maxRecDepth 100000
variable {w0 : World}
noncomputable section
def sqFw (id : Nat) : Code → Option Code
 | .seq a b => match Nat.beq (seqId a) id with
   | true => some (.seq a b)
   | false => match sqFw id a with
     | some c => some c
     | none => sqFw id b
 | .cond _ a b => match sqFw id a with
   | some c => some c
   | none => sqFw id b
 | .scope b => sqFw id b
 | .loop b => sqFw id b
 | .block _ b => sqFw id b
 | _ => none
def sq12 (id : Nat) : Code := (sqFw id (fnOf Tryz.f12).body).getD .skip
abbrev Rw12 := Option (Obs × X × List D)
def gT (b : Bool) (k : Rw12) : Rw12 := bif b then k else none
def nT (b : Bool) (n k : Rw12) : Rw12 := bif b then n else k
def aT (b : Bool) (y n : Rw12) : Rw12 := bif b then y else n
def ltw (a b : Int) : Bool := decide (a < b)
def new (a b : Int) : Bool := a != b
def rw37 : List (Nat × Cv) := [(0, .id), (6, .id)]
def sw37 (l : List (Tup wallK)) (b : Bool) : List D := [.vec wallK l, Bo b]
def bl5 (l : List (Tup wallK)) : Bool := Nat.ble l.length 100000
def ctS (s : ByteArray) : ByteArray := s.extract 0 (IntKind.i64.wrap ((s.size : Int) - 1)).toNat
def cutG (s : ByteArray) : Bool := decide (0 ≤ IntKind.i64.wrap ((s.size : Int) - 1)) && decide (IntKind.i64.wrap ((s.size : Int) - 1) ≤ (s.size : Int))
def u37c (l : List (Tup wallK)) (c : P3) (n y : Rw12) : Rw12 := aT (c.2.2 == 25) (aT (c.2.1 == IntKind.i64.wrap ((l.length : Int) - 1)) y n) n
def u37b (l : List (Tup wallK)) (s : ByteArray) (n y : Rw12) : Rw12 :=
 nT (((splC (cU 10) s).length : Int) != IntKind.i64.wrap ((l.length : Int) + 1)) n (aT ((l.length : Int) == 0) (aT (s.toList == mtL.toList) y n) (gT (cutG s) (u37c l (parP (ctS s)) n y)))
def u37a (l : List (Tup wallK)) (s : ByteArray) (q : P3) (n y : Rw12) : Rw12 :=
 nT (q.2.2 != 0) n (nT (q.2.1 != 0) n (gT (bl5 q.1) (gT (bl5 q.1) (nT (!sameWB q.1 l) n (gT (smS s) (u37b l s n y))))))
def u37 (l : List (Tup wallK)) (n y : Rw12) : Rw12 := gT (bl5 l) (nT (chkAllW l != 0) n (u37a l (prS l) (parP (prS l)) n y))
theorem rnw37 (l : List (Tup wallK)) : rndD ((cfg w0).at law12) 60 [] 60 (fnOf Tryz.f12).ntmps rw37 (sq12 200037) (sw37 l false) = u37 l (some ([], .ret, sw37 l false)) (some ([], .ret, sw37 l true)) := by kernel_rfl
def plo (b : Bd) (p : Tup ptK) (x : Tup bxK) : D := .obox [Str b.nm, .vec ptK b.cs, I b.h, I b.e, I p.1, I p.2.1, I x.1, I x.2.1, I x.2.2.1, I x.2.2.2.1]
def rw33 : List (Nat × Cv) := [(0, .id), (4, .id), (7, .id), (8, .id), (24, .sv wallK), (28, .id), (30, .id), (32, .id), (6, .id)]
def sw33 (l : List (Tup wallK)) (b : Bd) (p : Tup ptK) (x : Tup bxK) (s r : Tup v3K) (U : List (Tup wallK)) (i o pl a : Bool) : List D := [.vec wallK l, plo b p x, ov3 s, ov3 r, .vec wallK U, Bo i, Bo o, Bo pl, Bo a]
def rmU (U : List (Tup wallK)) : Bool := Nat.ble (([] ++ U).length * 64) 1000000000000 && Nat.ble ([] ++ U).length 1000000000000
def u33 (b : Bd) (s r : Tup v3K) (U : List (Tup wallK)) (i o pl : Bool) (n y : Rw12) : Rw12 :=
 aT pl (aT i (aT (!o) (aT (ltw s.2.2.1 b.h) (aT (ltw r.2.2.1 b.h) (gT (rmU U) (nT (e30 ([] ++ U) s r != 0) n (nT (decide (orZ (e30 ([] ++ U) s r) (sumT (deps ([] ++ U) s r)) < 1)) n y))) y) y) y) y) y
theorem rnw33 (l : List (Tup wallK)) (b : Bd) (p : Tup ptK) (x : Tup bxK) (s r : Tup v3K) (U : List (Tup wallK)) (i o pl : Bool) : rndD ((cfg w0).at law12) 60 [] 60 (fnOf Tryz.f12).ntmps rw33 (sq12 200033) (sw33 l b p x s r U i o pl false) =
  u33 b s r U i o pl (some ([], .ret, sw33 l b p x s r U i o pl false)) (some ([], .normal, sw33 l b p x s r U i o pl false)) := by kernel_rfl
def rw0 : List (Nat × Cv) := [(227, .sv wallK), (228, .id), (229, .id), (24, .sv wallK), (0, .id), (4, .id), (7, .id), (8, .id), (6, .id)]
def sw0 (l : List (Tup wallK)) (b : Bd) (p : Tup ptK) (x : Tup bxK) (s r : Tup v3K) (U : List (Tup wallK)) (z : Bool) (i : Int) : List D := [.vec wallK U, I U.length, I i, .vec wallK U, .vec wallK l, plo b p x, ov3 s, ov3 r, Bo z]
def eqw2 (a b c d : Int) : Bool := (a == b) && ((c == d) && true)
def nx0 (U : List (Tup wallK)) (i : Int) : Int := (IntKind.i64.wrap (i + 1)).tmod (U.length : Int)
def u0 (b : Bd) (U : List (Tup wallK)) (j : Nat) (m : Int) (n y : Rw12) : Rw12 :=
 nT (!eqw2 (nth U j).2.1 (nth b.cs j).1 (nth U j).2.2.1 (nth b.cs j).2.1) n (bif decide ((U.length : Int) = 0) then none else (gT (Nat.beq 7 7 && (decide (0 ≤ m) && decide (m < U.length)))
  (nT (!eqw2 (nth U j).2.2.2.1 (nth U (m.toNat + 0)).2.1 (nth U j).2.2.2.2.1 (nth U (m.toNat + 0)).2.2.1) n (nT (new (nth U j).2.2.2.2.2.1 b.h) n (nT (new (nth U j).2.2.2.2.2.2.1 b.e) n y)))))
theorem rnw0 (l : List (Tup wallK)) (b : Bd) (p : Tup ptK) (x : Tup bxK) (s r : Tup v3K) (U : List (Tup wallK)) (i : Int) : rndD ((cfg w0).at law12) 60 [] 60 (fnOf Tryz.f12).ntmps rw0 (lpB 0 (fnOf Tryz.f12).body) (sw0 l b p x s r U false i) =
  bif decide (i < U.length) then
   gT (Nat.beq 7 7 && (decide (0 ≤ i) && decide (i < U.length))) (gT (Nat.beq 2 2 && (decide (0 ≤ i) && decide (i < b.cs.length)))
    (u0 b U (i.toNat + 0) (nx0 U i) (some ([], .ret, sw0 l b p x s r U false i)) (some ([], .normal, sw0 l b p x s r U false (IntKind.i64.wrap (i + 1))))))
  else some ([], .exit 0, sw0 l b p x s r U false i) := by kernel_rfl
def rw2 : List (Nat × Cv) := [(299, .id), (300, .id), (24, .sv wallK), (0, .id), (4, .id), (7, .id), (8, .id), (28, .id), (30, .id), (32, .id), (6, .id)]
def sw2 (l : List (Tup wallK)) (b : Bd) (p : Tup ptK) (x : Tup bxK) (s r : Tup v3K) (U : List (Tup wallK)) (i o : Bool) (a : Int × Bool) : List D := [I U.length, I a.1, .vec wallK U, .vec wallK l, plo b p x, ov3 s, ov3 r, Bo i, Bo o, Bo a.2, Bo false]
def sg2 (b : Bd) (j : Nat) (s : Tup v3K) : Bool := sgS (edgeT b j) (s.1, s.2.1, ()) != 0
def in2 (b : Bd) (j : Int) : Bool := smallB b && inC b j
theorem rnw2 (l : List (Tup wallK)) (b : Bd) (p : Tup ptK) (x : Tup bxK) (s r : Tup v3K) (U : List (Tup wallK)) (i o : Bool) (j : Int) (pl : Bool) : rndD ((cfg w0).at law12) 60 [] 60 (fnOf Tryz.f12).ntmps rw2 (lpB 2 (fnOf Tryz.f12).body) (sw2 l b p x s r U i o (j, pl)) =
  bif decide (j < U.length) then
   gT (in2 b j) (aT pl (aT (sg2 b j.toNat s) (some ([], .normal, sw2 l b p x s r U i o (IntKind.i64.wrap (j + 1), sg2 b j.toNat r))) (some ([], .normal, sw2 l b p x s r U i o (IntKind.i64.wrap (j + 1), false)))) (some ([], .normal, sw2 l b p x s r U i o (IntKind.i64.wrap (j + 1), false))))
  else some ([], .exit 2, sw2 l b p x s r U i o (j, pl)) := by kernel_rfl
end
end Go.Proofs.YtmlglimahbjgbaaGreatDoor
