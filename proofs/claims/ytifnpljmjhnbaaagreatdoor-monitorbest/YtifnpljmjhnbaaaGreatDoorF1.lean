/-
 A part of the proof of the statement that the claim names: see the last file.
-/
import Derived.Test.YtifnpljmjhnbaaaGreatDoorS2
namespace Go.Proofs.YtifnpljmjhnbaaaGreatDoor
open Go Go.Am
set_option maxRecDepth 100000
variable {w0 : World}
noncomputable section
def v1 (x : Tup IvK) : Int := x.1
def v2 (x : Tup IvK) : Int := x.2.1
def asIv (d : D) : Option (Int × Int) := match d with
 | .fn 95 [] [.box [.val (.int .i64 a),.val (.int .i64 b)]] => some (a,b)
 | _ => none
def ixR (p : Nat → Bool) : Nat → Nat → Int
 | 0,_ => -1
 | f + 1,i => bif p i then (i : Int) else ixR p f (i + 1)
theorem range_any {ks : List Kd} (q : Tup ks → Bool) (l : List (Tup ks)) : (List.range' 0 l.length).any (fun j => q (nth l j)) = l.any q := by
 rw [Bool.eq_iff_iff,List.any_eq_true,List.any_eq_true]
 simp only [List.mem_range'_1]
 constructor
 ·rintro ⟨j,⟨_,hj⟩,h⟩
  refine ⟨nth l j,?_,h⟩
  rw [show nth l j = l[j]'(by omega) by simp only [nth,List.getD_eq_getElem?_getD,List.getElem?_eq_getElem (show j < l.length by omega),Option.getD_some]]
  exact List.getElem_mem _
 ·rintro ⟨x,hx,h⟩
  obtain ⟨j,hj,rfl⟩ := List.getElem_of_mem hx
  refine ⟨j,⟨by omega,by omega⟩,?_⟩
  rwa [show nth l j = l[j]'(by omega) by simp only [nth,List.getD_eq_getElem?_getD,List.getElem?_eq_getElem (show j < l.length by omega),Option.getD_some]]
def isFn (f : Nat) (d : D) : Bool :=
 match d with
 | .fn g [] [] => Nat.beq g f
 | _ => false
theorem isFn_eq {f : Nat} {d : D} (h : isFn f d = true) : d = .fn f [] [] := by
 unfold isFn at h
 split at h
 ·rw [Nat.beq_eq] at h; rw [h]
 ·cases h
end
end Go.Proofs.YtifnpljmjhnbaaaGreatDoor
