/-
 A part of the proof of the statement that the claim names: see the last file.
-/
import Derived.Test.YthcpfignhalffaaGreatDoorP1
import Derived.Test.YthcpfignhalffaaGreatDoorAm5
namespace Go.Proofs.YthcpfignhalffaaGreatDoor
open Go Go.Am
set_option maxRecDepth 100000
variable {w0 : World}
noncomputable section
def p1 (x : Tup ptK) : Int := x.1
def p2 (x : Tup ptK) : Int := x.2.1
def pr (x : Tup ptK) : Int × Int := (p1 x, p2 x)
def sameP (a b : List (Tup ptK)) : Bool := decide (a.map pr = b.map pr)
def sameC (g : Nat) : Ct := ct g [.v ptK, .v ptK] fun a => .br (Nat.ble (a.1 : List (Tup ptK)).length 100000) (.leaf (Bo (sameP a.1 a.2.1))) .bad
end
end Go.Proofs.YthcpfignhalffaaGreatDoor
namespace Go.Proofs.YthcpfignhalffaaGreatDoor
open Go Go.Am
set_option maxRecDepth 100000
variable {w0 : World}
noncomputable section
def pcZ (p : Tup ptK) : Int := firstZ [withinZ (p1 p) 0 16, withinZ (p2 p) 0 16]
def ivZ (p : Tup ptK) : Int := firstZ [withinZ (p1 p) 0 1000000, withinZ (p2 p) 0 1000000, whenZ (decide (p1 p > p2 p)) 11]
def smP (l : List (Tup ptK)) : Bool := Nat.ble l.length 100000
def lenE (l : List (Tup ptK)) : Int := firstZ [whenZ (decide ((l.length : Int) < 3)) 16, whenZ (decide ((l.length : Int) > 1024)) 5]
def chkP (l : List (Tup ptK)) : Int := bif lenE l != 0 then lenE l else firstZ (l.map pcZ)
def modI (l : List (Tup ptK)) (i : Int) : Int := (IntKind.i64.wrap (i + 1)).tmod l.length
def stepA (l : List (Tup ptK)) (i n : Int) : Int := W (n + W (W (p1 (nth l i.toNat) * p2 (nth l (modI l i).toNat)) - W (p1 (nth l (modI l i).toNat) * p2 (nth l i.toNat))))
end
end Go.Proofs.YthcpfignhalffaaGreatDoor
