/-
 A part of the proof of the statement that the claim names: see the last file.
-/
import Derived.Test.YthcpfignhalffaaGreatDoorP6
import Derived.Test.YthcpfignhalffaaGreatDoorAm5
namespace Go.Proofs.YthcpfignhalffaaGreatDoor
open Go Go.Am
set_option maxRecDepth 100000
variable {w0 : World}
noncomputable section
def lvE (n last : Int) : Int := firstZ [withinZ n 0 maxL, whenZ (decide (n ≤ last)) 11]
def lvF : Int → List Int → Int
 | _, [] => 0
 | last, n :: ns => bif lvE n last != 0 then lvE n last else lvF n ns
def lvL (l : List (Tup intK)) : Int := firstZ [whenZ ((l.length : Int) == 0) 12, whenZ (decide ((l.length : Int) > 8)) 5]
def chkL (l : List (Tup intK)) : Int := bif lvL l != 0 then lvL l else lvF (-1) (l.map i1)
def prR (x : List (Tup intK)) (lo hi : Int) (j : Nat) : Bool := decide (i1 (nth x j) ≥ lo) && decide (i1 (nth x j) < hi)
end
end Go.Proofs.YthcpfignhalffaaGreatDoor
namespace Go.Proofs.YthcpfignhalffaaGreatDoor
open Go Go.Am
set_option maxRecDepth 100000
variable {w0 : World}
noncomputable section
theorem within_zero {n lo hi : Int} (h : withinZ n lo hi = 0) : lo ≤ n ∧ n ≤ hi := by
 unfold withinZ whenZ at h
 by_cases h1 : n < lo
 ·simp [h1] at h
 ·by_cases h2 : n > hi
  ·simp [h2] at h
  ·omega
def sumB (g : Gr) (lo hi : Int) (l : List (Tup ptK)) : Int × Int := accX (prR (g.l.map lbE) lo hi) l
def iT (s : Int × Int) : Tup ptK := (s.1, s.2, ())
def roomV (o : List (Tup ptK)) : Bool := Nat.ble (o.length * 16) 1000000000000 && Nat.ble o.length 1000000000000
def e33 (g : Gr) (l : List (Tup ptK)) (lv : List (Tup intK)) : Int := firstZ [chkPe g l, chkL lv]
def numB (have_ e bad want : Int) : Bool := (have_ == (bif bad != 0 then 0 else want)) && (e == bad)
end
end Go.Proofs.YthcpfignhalffaaGreatDoor
namespace Go.Proofs.YthcpfignhalffaaGreatDoor
open Go Go.Am
set_option maxRecDepth 100000
variable {w0 : World}
noncomputable section
def hiZ (lv : List (Tup intK)) (j : Nat) : Int := if j + 1 < lv.length then i1 (nth lv (j + 1)) else 121
def clsR (g : Gr) (l : List (Tup ptK)) (lv : List (Tup intK)) : List (Tup ptK) := (List.range' 0 lv.length).map fun j => iT (sumB g (i1 (nth lv j)) (hiZ lv j) l)
def clsP (g : Gr) (l : List (Tup ptK)) (lv : List (Tup intK)) : List (Tup ptK) := (List.range' 0 lv.length).map fun j => iT (accX (prB g (i1 (nth lv j)) (hiZ lv j)) l)
theorem roomV_ok {o : List (Tup ptK)} {x : Tup ptK} (h : o.length ≤ 1000000) : roomV (o ++ [x]) = true := room h (by omega)
def clX (g : Gr) (l : List (Tup ptK)) (lv : List (Tup intK)) : List (Tup ptK) × Int := bif chkG g != 0 then ([], chkG g) else bif e33 g l lv != 0 then ([], e33 g l lv) else (clsP g l lv, 0)
theorem fn_nilV {g : FuncId} {ds : List D} {e : Int} (h : FnD (cfg w0) g ds (.tup [nilD, I e])) : FnD (cfg w0) g ds (.tup [.vec ptK [], I e]) := FnD.nil_vec (vs := [.int .i64 e]) rfl (by decide) h
end
end Go.Proofs.YthcpfignhalffaaGreatDoor
