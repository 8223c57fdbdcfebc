/-
 A part of the proof of the statement that the claim names: see the last file.
-/
import Derived.Test.YthcpfignhalffaaGreatDoorC7
import Derived.Test.YthcpfignhalffaaGreatDoorC8
import Derived.Test.YthcpfignhalffaaGreatDoorP7
namespace Go.Proofs.YthcpfignhalffaaGreatDoor
open Go Go.Am
set_option maxRecDepth 100000
variable {w0 : World}
noncomputable section
def asGN (d : D) : Option (Int × Int) :=
 match d with
 | .agg [.val (.int .i64 w), .val (.int .i64 h), .val (.slice none 0 0)] => some (w, h)
 | _ => none
def nG (p : Int × Int) : D := .agg [I p.1, I p.2, nilD]
theorem asGN_eq {d : D} {p : Int × Int} (h : asGN d = some p) : d = nG p := by
 unfold asGN at h
 split at h
 ·cases h; rfl
 ·cases h
def orN (d : D) : Option Gr :=
 match asG d with
 | some g => some g
 | none => match asGN d with
   | some p => some ⟨p.1, p.2, []⟩
   | none => none
def sameG (a b : Gr) : Bool := sizeB a b && sameI a.l b.l
theorem run59 (a b : Gr) : bodyK ((cfg w0).at [c97]) 40 (fnOf Tryz.f59) [gD a, gD b] =
  bif a.w == b.w then bif a.h == b.h then bif Nat.ble a.l.length 100000 then some (Bo (sameI a.l b.l)) else none else some (Bo false) else some (Bo false) := by cases a; cases b; kernel_rfl
theorem run59n (a : Gr) (p : Int × Int) : bodyK ((cfg w0).at [c97]) 40 (fnOf Tryz.f59) [gD a, nG p] =
  bif a.w == p.1 then bif a.h == p.2 then bif Nat.ble a.l.length 100000 then some (Bo (sameI a.l [])) else none else some (Bo false) else some (Bo false) := by cases a; cases p; kernel_rfl
theorem same_t {a b : Gr} (h : Nat.ble a.l.length 100000 = true) : (bif a.w == b.w then bif a.h == b.h then bif Nat.ble a.l.length 100000 then some (Bo (sameI a.l b.l)) else none else some (Bo false) else some (Bo false)) = some (Bo (sameG a b)) := by
 unfold sameG sizeB
 rw [h]
 cases (a.w == b.w) <;> cases (a.h == b.h) <;> rfl
def c59 : Ct := gC 59 [.x] fun a y => match orN y.1 with
 | some b => .br (smG a) (.leaf (Bo (sameG a b))) .bad
 | none => .bad
theorem gd59 (h0 : Lib0 w0) : Gd (cfg w0) c59 := gd_g fun a y d hd => by
 obtain ⟨x, u⟩ := y
 simp only at hd
 unfold orN at hd
 cases hx : asG x with
 | some b =>
   rw [hx] at hd
   obtain ⟨hg, hd⟩ := br_run hd
   cases hd
   cases asG_eq hx
   exact fnD_k (cfg_ok w0) h0 (cs := [c97]) ⟨gd97 h0, trivial⟩ (fd := fnOf Tryz.f59) rfl (n := 40) ((run59 a b).trans (same_t hg))
 | none =>
   rw [hx] at hd
   cases hn : asGN x with
   | none => rw [hn] at hd; cases hd
   | some p =>
     rw [hn] at hd
     obtain ⟨hg, hd⟩ := br_run hd
     cases hd
     cases asGN_eq hn
     exact fnD_k (cfg_ok w0) h0 (cs := [c97]) ⟨gd97 h0, trivial⟩ (fd := fnOf Tryz.f59) rfl (n := 40) ((run59n a p).trans (same_t (b := ⟨p.1, p.2, []⟩) hg))
end
end Go.Proofs.YthcpfignhalffaaGreatDoor
namespace Go.Proofs.YthcpfignhalffaaGreatDoor
open Go Go.Am
set_option maxRecDepth 100000
variable {w0 : World}
noncomputable section
def few (g : Gr) : Bool := decide ((g.l.length : Int) ≤ 36)
end
end Go.Proofs.YthcpfignhalffaaGreatDoor
namespace Go.Proofs.YthcpfignhalffaaGreatDoor
open Go Go.Am
set_option maxRecDepth 100000
variable {w0 : World}
noncomputable section
def endA (p : List (Tup ptK)) (g : Gr) (pe : List (Tup ptK)) (v : Int) (lv : List (Tup intK)) (area : Int) (two : Int) (ex : Int × Int) (three : Int) (cl : List (Tup ptK)) : Option D :=
 bif numB (areaX p).1 (areaX p).2 (chkP p) area then
  bif (exX g pe v).1.1 == ex.1 && ((exX g pe v).1.2 == ex.2 && true) then
   bif (exX g pe v).2 == two then
    bif smP (clX g pe lv).1 then bif sameP (clX g pe lv).1 cl then
     bif (clX g pe lv).2 == three then some (Bo true) else some (Bo false)
    else some (Bo false) else none
   else some (Bo false)
  else some (Bo false)
 else some (Bo false)
def a3 (p : List (Tup ptK)) (g : Gr) (pe : List (Tup ptK)) (v : Int) (lv : List (Tup intK)) (area : Int) (two : Int) (ex : Int × Int) (three : Int) : Option D :=
 bif three == 0 then bif smG g && (Nat.beq pe.length g.l.length && Nat.ble lv.length 100000) then endA p g pe v lv area two ex three (clsR g pe lv) else none
 else endA p g pe v lv area two ex three []
def a2 (p : List (Tup ptK)) (g : Gr) (pe : List (Tup ptK)) (v : Int) (lv : List (Tup intK)) (area : Int) (two three : Int) : Option D :=
 bif two == 0 then bif smG g && Nat.beq pe.length g.l.length then a3 p g pe v lv area two (sumB g v 121 pe) three else none
 else a3 p g pe v lv area two (0, 0) three
end
end Go.Proofs.YthcpfignhalffaaGreatDoor
namespace Go.Proofs.YthcpfignhalffaaGreatDoor
open Go Go.Am
set_option maxRecDepth 100000
noncomputable section
end
end Go.Proofs.YthcpfignhalffaaGreatDoor
namespace Go.Proofs.YthcpfignhalffaaGreatDoor
open Go Go.Am
set_option maxRecDepth 100000
noncomputable section
end
end Go.Proofs.YthcpfignhalffaaGreatDoor
