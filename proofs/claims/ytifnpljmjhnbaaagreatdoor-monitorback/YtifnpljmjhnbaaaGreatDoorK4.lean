/-
  A part of the proof of the statement that the claim names: see the last file.
-/
import Derived.Test.YtifnpljmjhnbaaaGreatDoorK3
import Derived.Test.YtifnpljmjhnbaaaGreatDoorM6
import Derived.Test.YtifnpljmjhnbaaaGreatDoorM4
namespace Go.Proofs.YtifnpljmjhnbaaaGreatDoor
open Go Go.Am Go.RowKit
set_option maxRecDepth 100000
variable {w0 : World}
noncomputable section


def cs14 : List Ct := [c23, c26, c28, c29, c51, c79, c80, c83]
def rel14 : List (Nat × Cv) := [(0, .id), (16, .id), (23, .ov intK), (148, .id), (149, .id)]
def st14 (r : TLq) (a : Int × TLq) : List D := [.vec intK r, I r.length, .ovec intK a.2, I r.length, I a.1]
def ix14 (r : TLq) (i : Int) : Int := IntKind.i64.wrap (IntKind.i64.wrap ((r.length : Int) - 1) - i)
def inV (r : TLq) (j : Int) : Bool := Nat.beq 1 1 && (decide (0 ≤ j) && decide (j < r.length))
def el14 (r : TLq) (i : Int) : Tup intK := t1 (i1 (nth r ((ix14 r i).toNat + 0)))
theorem round14 (r : TLq) (i : Int) (o : TLq) : rndD ((cfg w0).at cs14) 40 [] 40 (fnOf Tryz.f14).ntmps rel14 (lpB 0 (fnOf Tryz.f14).body) (st14 r (i, o)) =
    bif decide (i < r.length) then bif inV r (ix14 r i) then bif rm80 (o ++ [el14 r i]) then some ([], .normal, st14 r (IntKind.i64.wrap (i + 1), o ++ [el14 r i])) else none else none
    else some ([], .exit 0, st14 r (i, o)) := by kernel_rfl
def ld14 (r : TLq) (p : Int × TLq) : Ld := ldP 0 (fnOf Tryz.f14).ntmps rel14 .normal (st14 r p)
abbrev O14 := Option (Obs × D)
def no14 : O14 := some ([], Bo false)
def ob14 (r : TLq) (p : Int × TLq) : Obs := [(ld14 r p, .loop (lpB 0 (fnOf Tryz.f14).body), st14 r (0, []))]
def gQ (b : Bool) (k : O14) : O14 := bif b then k else none
def cutE (t : ByteArray) (j : Int) : Bool := decide (0 ≤ j) && decide (j ≤ ((t.size : Nat) : Int))
def n14 (t : ByteArray) : Int := IntKind.i64.wrap (((t.size : Nat) : Int) - 1)
def ls14 (t : ByteArray) : SLs := splC (cU 10) t
def ln14 (t : ByteArray) (r : TLq) : ByteArray := (nth (ls14 t) ((r.length : Int).toNat + 0)).1
def m14 (t : ByteArray) (r : TLq) : Int := IntKind.i64.wrap (n14 t - (((ln14 t r).size : Nat) : Int))
def tot14 (r : TLq) (p : Int × TLq) : O14 := gQ (sm r) (gQ (sm r) (gQ (sm p.2)
  (bif (tot28 r).2.2.2 == (tot28 p.2).2.2.2 then bif (tot28 r).1 == (tot28 p.2).1 then bif (tot28 r).2.1 == (tot28 p.2).2.1 then bif (tot28 r).2.2.1 == (tot28 p.2).2.2.1 then
    some (ob14 r p, Bo true) else some (ob14 r p, Bo false) else some (ob14 r p, Bo false) else some (ob14 r p, Bo false) else some (ob14 r p, Bo false))))
def end14 (r : TLq) (t : ByteArray) (p : Int × TLq) : O14 :=
  gQ (cutE t (n14 t)) (bif (parP (t.extract 0 (n14 t).toNat)).2.2 != 25 then no14 else bif (parP (t.extract 0 (n14 t).toNat)).2.1 != (r.length : Int) then no14 else
    gQ (Nat.beq 1 1 && (decide (0 ≤ (r.length : Int)) && decide ((r.length : Int) < (ls14 t).length))) (gQ (cutE t (m14 t r))
      (bif (parP (t.extract 0 (m14 t r).toNat)).2.2 != 2 then no14 else bif (parP (t.extract 0 (m14 t r).toNat)).2.1 != (r.length : Int) then no14 else tot14 r p)))
def law14 (r : TLq) (s : ByteArray) (p : Int × TLq) : O14 :=
  bif decide ((r.length : Int) > 40) then some ([], Bo true) else gQ (sm r) (bif chkR r != 0 then some ([], Bo true) else bif decide (((s.size : Nat) : Int) > 300) then some ([], Bo true) else
    gQ (sm r) (gQ (sm r) (gQ (smS (prP r).1) (bif (prP r).2 != 0 then no14 else bif (parP (prP r).1).2.2 != 0 then no14 else bif (parP (prP r).1).2.1 != 0 then no14 else
      gQ (Nat.ble (parP (prP r).1).1.length 100000) (bif !sameI (parP (prP r).1).1 r then no14 else bif (((ls14 (prP r).1).length : Int) != IntKind.i64.wrap ((r.length : Int) + 2)) then no14 else
        bif (parP s).2.2 == 0 then gQ (sm (parP s).1) (bif (prP (parP s).1).2 != 0 then no14 else bif !((prP (parP s).1).1.toList == s.toList) then no14 else end14 r (prP r).1 p)
        else end14 r (prP r).1 p)))))
theorem body14 (r : TLq) (s : ByteArray) (p : Int × TLq) : bodyT ((cfg w0).at cs14) 40 [ld14 r p] 40 (fnOf Tryz.f14) [.vec intK r, St_ s] = law14 r s p := by kernel_rfl
end
end Go.Proofs.YtifnpljmjhnbaaaGreatDoor
