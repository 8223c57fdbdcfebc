/-
 A part of the proof of the statement that the claim names: see the last file.
-/
import Derived.Test.YtifnpljmjhnbaaaGreatDoorT1
namespace Go.Proofs.YtifnpljmjhnbaaaGreatDoor
open Go Go.Am
set_option maxRecDepth 100000
variable {w0:World}
noncomputable section
def rel165:List (Nat × Cv):=[(0,.id),(7,.id),(8,.id),(1,.id),(4,.id)]
def st165 (k:Int) (l:List (Tup intK)) (a:Int × Int):List D:=[.vec intK l,I l.length,I a.1,I k,I a.2]
theorem round165 (k:Int) (l:List (Tup intK)) (j b:Int):rndD ((cfg w0).at []) 40 [] 40 (fnOf Tryz.f165).ntmps rel165 (lpB 0 (fnOf Tryz.f165).body) (st165 k l (j,b)) =
  bif decide (j < l.length) then bif inO l j then
   bif (k == i1 (nth l j.toNat)) then some ([],.ret,st165 k l (j,j)) else some ([],.normal,st165 k l (W (j + 1),b))
  else none else some ([],.exit 0,st165 k l (j,b)):=by kernel_rfl
theorem body165 (k:Int) (l:List (Tup intK)) (x:X) (p:Int × Int) (hx:x = .ret ∨ x = .normal):bodyT ((cfg w0).at []) 40 [ldP 0 (fnOf Tryz.f165).ntmps rel165 x (st165 k l p)] 40 (fnOf Tryz.f165) [.vec intK l,I k] =
  some ([(ldP 0 (fnOf Tryz.f165).ntmps rel165 x (st165 k l p),.loop (lpB 0 (fnOf Tryz.f165).body),st165 k l (0,0))],onX x (I p.2) (I (-1))):=by
 rcases hx with rfl | rfl <;> kernel_rfl
def ixK (k:Int) (l:List (Tup intK)):Int:=ixR (fun j=>k == i1 (nth l j)) l.length 0
theorem fn165 (h0:Lib0 w0) (l:List (Tup intK)) (k:Int) (hg:l.length ≤ 100000):FnD (cfg w0) 165 [.vec intK l,I k] (I (ixK k l)):=by
 refine fn_rg h0 (cs:=[]) trivial (fd:=fnOf Tryz.f165) rfl rel165 l.length (by omega) (st165 k l) (fun j a=>bif (k == i1 (nth l j)) then (X.ret,(j:Int)) else (.normal,a)) (fun _ _=>True) (a0:=0) trivial
  (fun j r hj _=>.leaf (by
   rw [round165,inO_nat hj,lt_t hj,Int.toNat_natCast]
   cases (k == i1 (nth l j)) <;> rfl)) (fun _ _ _ _ _ _=>trivial)
  (fun r _=>.leaf (by rw [round165,ge_f];rfl)) fun x p hx=>?_
 rw [rgRun_ix] at hx
 cases hz:decide (ixR (fun j=>k == i1 (nth l j)) l.length 0 ≥ 0) <;> rw [hz] at hx <;> cases hx
 ·have e:ixK k l = -1:=ixR_neg _ _ hz
  rw [e]
  exact body165 k l _ _ (.inr rfl)
 ·exact body165 k l _ _ (.inl rfl)
def c165:Ct:=ct 165 [.v intK,.c ik] fun a=>.br (sm a.1) (.leaf (I (ixK a.2.1 a.1))) .bad
theorem gd165 (h0:Lib0 w0):Gd (cfg w0) c165:=gd_sig fun a d hd=>by
 obtain ⟨l,k,u⟩:=a
 obtain ⟨hg,hd⟩:=br_run hd
 cases hd
 exact fn165 h0 l k (sm_le hg)
def hasK (l:List (Tup intK)) (k:Int):Bool:=decide (ixK k l ≥ 0)
theorem run132 (l:List (Tup intK)) (k:Int):bodyK ((cfg w0).at [c165]) 40 (fnOf Tryz.f132) [.vec intK l,I k] = bif sm l then some (Bo (hasK l k)) else none:=by kernel_rfl
def c132:Ct:=ct 132 [.v intK,.c ik] fun a=>.br (sm a.1) (.leaf (Bo (hasK a.1 a.2.1))) .bad
theorem gd132 (h0:Lib0 w0):Gd (cfg w0) c132:=gd_sig fun a d hd=>by
 obtain ⟨l,k,u⟩:=a
 obtain ⟨hg,hd⟩:=br_run hd
 cases hd
 exact fnD_k (cfg_ok w0) h0 (cs:=[c165]) ⟨gd165 h0,trivial⟩ (fd:=fnOf Tryz.f132) rfl ((run132 l k).trans (by rw [hg];rfl))
theorem hasK_eq (l:List (Tup intK)) (k:Int):hasK l k = l.any fun x=>k == i1 x:=by
 unfold hasK ixK
 rw [ixR_any,range_any fun x=>k == i1 x]
def rel78:List (Nat × Cv):=[(0,.id),(5,.id),(1,.id),(4,.id)]
def st78 (k:Int) (l:List (Tup intK)) (a:Int × Bool):List D:=[.vec intK l,I a.1,I k,Bo a.2]
theorem round78 (k:Int) (l:List (Tup intK)) (j:Int) (b:Bool):rndD ((cfg w0).at []) 40 [] 40 (fnOf Tryz.f78).ntmps rel78 (lpB 0 (fnOf Tryz.f78).body) (st78 k l (j,b)) =
  bif decide (j < l.length) then bif inO l j then
   bif (i1 (nth l j.toNat) == k) then some ([],.ret,st78 k l (j,true)) else some ([],.normal,st78 k l (W (j + 1),b))
  else none else some ([],.exit 0,st78 k l (j,b)):=by kernel_rfl
theorem body78 (k:Int) (l:List (Tup intK)) (x:X) (p:Int × Bool) (hx:x = .ret ∨ x = .normal):bodyT ((cfg w0).at []) 40 [ldP 0 (fnOf Tryz.f78).ntmps rel78 x (st78 k l p)] 40 (fnOf Tryz.f78) [.vec intK l,I k] =
  some ([(ldP 0 (fnOf Tryz.f78).ntmps rel78 x (st78 k l p),.loop (lpB 0 (fnOf Tryz.f78).body),st78 k l (0,false))],onX x (Bo p.2) (Bo false)):=by
 rcases hx with rfl | rfl <;> kernel_rfl
theorem fn78 (h0:Lib0 w0) (l:List (Tup intK)) (k:Int) (hg:l.length ≤ 100000):FnD (cfg w0) 78 [.vec intK l,I k] (Bo (l.any fun x=>i1 x == k)):=by
 refine fn_rg h0 (cs:=[]) trivial (fd:=fnOf Tryz.f78) rfl rel78 l.length (by omega) (st78 k l) (fun j a=>bif (i1 (nth l j) == k) then (X.ret,true) else (.normal,a)) (fun _ _=>True) (a0:=false) trivial
  (fun j r hj _=>.leaf (by
   rw [round78,inO_nat hj,lt_t hj,Int.toNat_natCast]
   cases (i1 (nth l j) == k) <;> rfl)) (fun _ _ _ _ _ _=>trivial)
  (fun r _=>.leaf (by rw [round78,ge_f];rfl)) fun x p hx=>?_
 obtain ⟨q,hq⟩:=rgRun_any (id:=0) (p:=fun j=>(i1 (nth l j) == k)) (c:=true) l.length 0 false
 rw [range_any fun x=>i1 x == k] at hq
 rw [hq] at hx
 cases hz:(l.any fun x=>i1 x == k) <;> rw [hz] at hx <;> cases hx
 ·exact body78 k l _ _ (.inr rfl)
 ·exact body78 k l _ _ (.inl rfl)
def c78:Ct:=ct 78 [.v intK,.c ik] fun a=>.br (sm a.1) (.leaf (Bo ((a.1:List (Tup intK)).any fun x=>i1 x == a.2.1))) .bad
theorem gd78 (h0:Lib0 w0):Gd (cfg w0) c78:=gd_sig fun a d hd=>by
 obtain ⟨l,k,u⟩:=a
 obtain ⟨hg,hd⟩:=br_run hd
 cases hd
 exact fn78 h0 l k (sm_le hg)
def cs67:List Ct:=c128 :: c129 :: c132 :: whenC 104 :: firstC 84 :: []
end
end Go.Proofs.YtifnpljmjhnbaaaGreatDoor
namespace Go.Proofs.YtifnpljmjhnbaaaGreatDoor
open Go Go.Am
set_option maxRecDepth 100000
variable {w0:World}
noncomputable section
abbrev TLi:=List (Tup intK)
def errK (p:List (Tup paK)) (pre:TLi) (k:Int):Int:=firstZ [whenZ (decide (k ≥ p.length)) 10,whenZ (hasK pre k) 9]
def tM (p:List (Tup paK)):List (TLi × Tup intK)→TLi→Int→Option D
 | [],_,sum=>some (tup2' (sum,0))
 | (r,x) :: rs,pre,sum=>bif i1 x == -1 then tM p rs (pre++[x]) sum else
   bif decide (i1 x < 0) then some (tup2' (0,firstZ [whenZ true 10,whenZ (hasK pre (i1 x)) 9])) else
   bif errK p pre (i1 x) != 0 then some (tup2' (0,errK p pre (i1 x))) else
   bif inO r (i1 x) then bif i1 (nth r (i1 x).toNat) == -1 then some (tup2' (0,21)) else
    bif inO r (i1 x) then tM p rs (pre++[x]) (IntKind.i64.wrap (sum + i1 (nth r (i1 x).toNat))) else none
   else none
def z67 (l:List (Tup evK)) (p:List (Tup paK)) (s:Int) (mt:TLi):Int:=firstZ [allZ l p s,whenZ ((mt.length:Int) != l.length) 2]
def prsM (l:List (Tup evK)) (p:List (Tup paK)) (s:Int) (mt:TLi):List (TLi × Tup intK):=(l.map fun e=>vaL e p s).zip mt
def t67 (l:List (Tup evK)) (p:List (Tup paK)) (s:Int) (mt:TLi):Option D:=
 bif z67 l p s mt != 0 then some (tup2' (0,z67 l p s mt)) else bif smP p then tM p (prsM l p s mt) [] 0 else none
theorem run67_0 (p:List (Tup paK)) (s:Int):bodyK ((cfg w0).at cs67) 60 (fnOf Tryz.f67) [.vec evK [],.vec paK p,I s,.vec intK []] = t67 [] p s []:=by kernel_rfl
theorem run67_1 (a:Tup evK) (p:List (Tup paK)) (s:Int) (x1:Tup intK):bodyK ((cfg w0).at cs67) 60 (fnOf Tryz.f67) [.vec evK [a],.vec paK p,I s,.vec intK [x1]] = t67 [a] p s [x1]:=by kernel_rfl
theorem run67_2 (a b:Tup evK) (p:List (Tup paK)) (s:Int) (x1 x2:Tup intK):bodyK ((cfg w0).at cs67) 60 (fnOf Tryz.f67) [.vec evK [a,b],.vec paK p,I s,.vec intK [x1,x2]] = t67 [a,b] p s [x1,x2]:=by kernel_rfl
theorem run67_3 (a b c:Tup evK) (p:List (Tup paK)) (s:Int) (x1 x2 x3:Tup intK):bodyK ((cfg w0).at cs67) 60 (fnOf Tryz.f67) [.vec evK [a,b,c],.vec paK p,I s,.vec intK [x1,x2,x3]] = t67 [a,b,c] p s [x1,x2,x3]:=by kernel_rfl
theorem run67_4 (a b c d:Tup evK) (p:List (Tup paK)) (s:Int) (x1 x2 x3 x4:Tup intK):bodyK ((cfg w0).at cs67) 60 (fnOf Tryz.f67) [.vec evK [a,b,c,d],.vec paK p,I s,.vec intK [x1,x2,x3,x4]] = t67 [a,b,c,d] p s [x1,x2,x3,x4]:=by kernel_rfl
theorem run67_x (l:List (Tup evK)) (p:List (Tup paK)) (s:Int) (mt:TLi):bodyK ((cfg w0).at [c128,cBad,whenC 104,firstC 84]) 60 (fnOf Tryz.f67) [.vec evK l,.vec paK p,I s,.vec intK mt] = bif z67 l p s mt != 0 then some (tup2' (0,z67 l p s mt)) else none:=by kernel_rfl
theorem run67 (l:List (Tup evK)) (p:List (Tup paK)) (s:Int) (mt:TLi) (hl:few l = true) (hm:mt.length = l.length):bodyK ((cfg w0).at cs67) 60 (fnOf Tryz.f67) [.vec evK l,.vec paK p,I s,.vec intK mt] = t67 l p s mt:=by
 match l,hl,mt,hm with
 | [],_,[],_=>exact run67_0 p s
 | [a],_,[x],_=>exact run67_1 a p s x
 | [a,b],_,[x,y],_=>exact run67_2 a b p s x y
 | [a,b,c],_,[x,y,z],_=>exact run67_3 a b c p s x y z
 | [a,b,c,d],_,[x,y,z,t],_=>exact run67_4 a b c d p s x y z t
end
end Go.Proofs.YtifnpljmjhnbaaaGreatDoor
