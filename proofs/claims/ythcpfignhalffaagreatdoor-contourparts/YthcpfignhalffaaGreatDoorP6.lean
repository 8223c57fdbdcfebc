/-
 A part of the proof of the statement that the claim names: see the last file.
-/
import Derived.Test.YthcpfignhalffaaGreatDoorP5
namespace Go.Proofs.YthcpfignhalffaaGreatDoor
open Go Go.Am
set_option maxRecDepth 100000
variable {w0 : World}
noncomputable section
def areaP (l : List (Tup ptK)) : Int := (List.range' 0 l.length).foldl (fun n (i : Nat) => stepA l (i : Int) n) 0
def areaX (l : List (Tup ptK)) : Int × Int := bif chkP l != 0 then (0, chkP l) else (areaP l, 0)
def chkPe (g : Gr) (l : List (Tup ptK)) : Int := bif (l.length : Int) != g.l.length then 2 else firstZ (l.map ivZ)
end
end Go.Proofs.YthcpfignhalffaaGreatDoor
namespace Go.Proofs.YthcpfignhalffaaGreatDoor
open Go Go.Am
set_option maxRecDepth 100000
variable {w0 : World}
noncomputable section
def addS (l : List (Tup ptK)) (j : Nat) (s : Int × Int) : Int × Int := (W (s.1 + p1 (nth l j)), W (s.2 + p2 (nth l j)))
def accS (p : Nat → Bool) (l : List (Tup ptK)) (j : Nat) (s : Int × Int) : Int × Int := bif p j then addS l j s else s
def accX (p : Nat → Bool) (l : List (Tup ptK)) : Int × Int := (List.range' 0 l.length).foldl (fun s j => accS p l j s) (0, 0)
def prB (g : Gr) (n e : Int) (j : Nat) : Bool := decide (levR (i1 (nth g.l j)) ≥ n) && decide (levR (i1 (nth g.l j)) < e)
def e31 (g : Gr) (l : List (Tup ptK)) (v : Int) : Int := firstZ [chkPe g l, withinZ v 0 maxL]
def abP (g : Gr) (v : Int) (j : Nat) : Bool := b1 (nth (g.l.map (abE v)) j)
def exX (g : Gr) (l : List (Tup ptK)) (v : Int) : (Int × Int) × Int := bif chkG g != 0 then ((0, 0), chkG g) else bif e31 g l v != 0 then ((0, 0), e31 g l v) else (accX (abP g v) l, 0)
end
end Go.Proofs.YthcpfignhalffaaGreatDoor
