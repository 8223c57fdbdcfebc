/-
 A part of the proof of the statement that the claim names: see the last file.
-/
import Derived.Test.YtifnpljmjhnbaaaGreatDoorT1
namespace Go.Proofs.YtifnpljmjhnbaaaGreatDoor
open Go Go.Am
set_option maxRecDepth 100000
variable {w0 : World}
noncomputable section
def ixK (k : Int) (l : List (Tup intK)) : Int := ixR (fun j => k == i1 (nth l j)) l.length 0
def hasK (l : List (Tup intK)) (k : Int) : Bool := decide (ixK k l ≥ 0)
def rel78 : List (Nat × Cv) := [(0,.id),(5,.id),(1,.id),(4,.id)]
def st78 (k : Int) (l : List (Tup intK)) (a : Int × Bool) : List D := [.vec intK l,I a.1,I k,Bo a.2]
theorem round78 (k : Int) (l : List (Tup intK)) (j : Int) (b : Bool) : rndD ((cfg w0).at []) 40 [] 40 (fnOf Tryz.f78).ntmps rel78 (lpB 0 (fnOf Tryz.f78).body) (st78 k l (j,b)) =
  bif decide (j < l.length) then bif inO l j then
   bif (i1 (nth l j.toNat) == k) then some ([],.ret,st78 k l (j,true)) else some ([],.normal,st78 k l (W (j + 1),b))
  else none else some ([],.exit 0,st78 k l (j,b)) := by kernel_rfl
theorem body78 (k : Int) (l : List (Tup intK)) (x : X) (p : Int × Bool) (hx : x = .ret ∨ x = .normal) : bodyT ((cfg w0).at []) 40 [ldP 0 (fnOf Tryz.f78).ntmps rel78 x (st78 k l p)] 40 (fnOf Tryz.f78) [.vec intK l,I k] =
  some ([(ldP 0 (fnOf Tryz.f78).ntmps rel78 x (st78 k l p),.loop (lpB 0 (fnOf Tryz.f78).body),st78 k l (0,false))],onX x (Bo p.2) (Bo false)) := by
 rcases hx with rfl | rfl <;> kernel_rfl
theorem fn78 (h0 : Lib0 w0) (l : List (Tup intK)) (k : Int) (hg : l.length ≤ 100000) : FnD (cfg w0) 78 [.vec intK l,I k] (Bo (l.any fun x => i1 x == k)) := by
 refine fn_rg h0 (cs := []) trivial (fd := fnOf Tryz.f78) rfl rel78 l.length (by omega) (st78 k l) (fun j a => bif (i1 (nth l j) == k) then (X.ret,true) else (.normal,a)) (fun _ _ => True) (a0 := false) trivial
  (fun j r hj _ => .leaf (by
   rw [round78,inO_nat hj,lt_t hj,Int.toNat_natCast]
   cases (i1 (nth l j) == k) <;> rfl)) (fun _ _ _ _ _ _ => trivial)
  (fun r _ => .leaf (by rw [round78,ge_f]; rfl)) fun x p hx => ?_
 obtain ⟨q,hq⟩ := rgRun_any (id := 0) (p := fun j => (i1 (nth l j) == k)) (c := true) l.length 0 false
 rw [range_any fun x => i1 x == k] at hq
 rw [hq] at hx
 cases hz : (l.any fun x => i1 x == k) <;> rw [hz] at hx <;> cases hx
 ·exact body78 k l _ _ (.inr rfl)
 ·exact body78 k l _ _ (.inl rfl)
def c78 : Ct := ct 78 [.v intK,.c ik] fun a => .br (sm a.1) (.leaf (Bo ((a.1 : List (Tup intK)).any fun x => i1 x == a.2.1))) .bad
theorem gd78 (h0 : Lib0 w0) : Gd (cfg w0) c78 := gd_sig fun a d hd => by
 obtain ⟨l,k,u⟩ := a
 obtain ⟨hg,hd⟩ := br_run hd
 cases hd
 exact fn78 h0 l k (sm_le hg)
end
end Go.Proofs.YtifnpljmjhnbaaaGreatDoor
