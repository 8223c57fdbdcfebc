/-
 A part of the proof of the statement that the claim names: see the last file.
-/
import Derived.Test.YtifnpljmjhnbaaaGreatDoorS2
namespace Go.Proofs.YtifnpljmjhnbaaaGreatDoor
open Go Go.Am
set_option maxRecDepth 100000
variable {w0:World}
noncomputable section
def v1 (x:Tup IvK):Int:=x.1
def v2 (x:Tup IvK):Int:=x.2.1
def asIv (d:D):Option (Int × Int):=match d with
 | .fn 95 [] [.box [.val (.int .i64 a),.val (.int .i64 b)]]=>some (a,b)
 | _=>none
def ixR (p:Nat→Bool):Nat→Nat→Int
 | 0,_=>-1
 | f + 1,i=>bif p i then (i:Int) else ixR p f (i + 1)
theorem rgRun_ix {p:Nat→Bool}:∀ (f i:Nat) (a:Int),rgRun 0 (fun j a=>bif p j then (X.ret,(j:Int)) else (.normal,a)) f i a = bif decide (ixR p f i ≥ 0) then (.ret,(ixR p f i,ixR p f i)) else (.exit 0,(((i + f:Nat):Int),a))
 | 0,i,a=>rfl
 | f + 1,i,a=>by
   unfold rgRun ixR
   cases hp:p i with
   | true=>
     simp only [cond_true]
     rw [decide_eq_true (by omega)]
     rfl
   | false=>
     simp only [cond_false]
     rw [rgRun_ix f (i + 1) a,show i + 1 + f = i + (f + 1) by omega]
theorem ixR_any {p:Nat→Bool}:∀ (f i:Nat),decide (ixR p f i ≥ 0) = (List.range' i f).any p
 | 0,i=>rfl
 | f + 1,i=>by
   rw [List.range'_succ,List.any_cons]
   unfold ixR
   cases hp:p i with
   | true=>simp only [cond_true,Bool.true_or];exact decide_eq_true (by omega)
   | false=>simp only [cond_false,Bool.false_or];exact ixR_any f (i + 1)
theorem ixR_neg {p:Nat→Bool}:∀ (f i:Nat),decide (ixR p f i ≥ 0) = false→ixR p f i = -1
 | 0,i,_=>rfl
 | f + 1,i,h=>by
   unfold ixR at h ⊢
   cases hp:p i with
   | true=>rw [hp] at h;simp only [cond_true] at h;have:=of_decide_eq_false h;omega
   | false=>rw [hp] at h;exact ixR_neg f (i + 1) h
theorem range_any {ks:List Kd} (q:Tup ks→Bool) (l:List (Tup ks)):(List.range' 0 l.length).any (fun j=>q (nth l j)) = l.any q:=by
 rw [Bool.eq_iff_iff,List.any_eq_true,List.any_eq_true]
 simp only [List.mem_range'_1]
 constructor
 ·rintro ⟨j,⟨_,hj⟩,h⟩
  refine ⟨nth l j,?_,h⟩
  rw [show nth l j = l[j]'(by omega) by simp only [nth,List.getD_eq_getElem?_getD,List.getElem?_eq_getElem (show j < l.length by omega),Option.getD_some]]
  exact List.getElem_mem _
 ·rintro ⟨x,hx,h⟩
  obtain ⟨j,hj,rfl⟩:=List.getElem_of_mem hx
  refine ⟨j,⟨by omega,by omega⟩,?_⟩
  rwa [show nth l j = l[j]'(by omega) by simp only [nth,List.getD_eq_getElem?_getD,List.getElem?_eq_getElem (show j < l.length by omega),Option.getD_some]]
def isFn (f:Nat) (d:D):Bool:=
 match d with
 | .fn g [] []=>Nat.beq g f
 | _=>false
theorem isFn_eq {f:Nat} {d:D} (h:isFn f d = true):d = .fn f [] []:=by
 unfold isFn at h
 split at h
 ·rw [Nat.beq_eq] at h;rw [h]
 ·cases h
end
end Go.Proofs.YtifnpljmjhnbaaaGreatDoor
