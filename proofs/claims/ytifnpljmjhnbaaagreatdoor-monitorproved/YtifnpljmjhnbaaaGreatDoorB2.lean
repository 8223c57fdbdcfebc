/-
 A part of the proof of the statement that the claim names: see the last file.
-/
import Derived.Test.YtifnpljmjhnbaaaGreatDoorB1
namespace Go.Proofs.YtifnpljmjhnbaaaGreatDoor
open Go Go.Am
set_option maxRecDepth 100000
variable {w0:World}
noncomputable section
abbrev R7:=Value × Heap × AObj
def gR (b:Bool) (k:Option R7):Option R7:=bif b then k else none
def rdK (m:Nat) (v:Value) (h:Heap):Option R7:=match h.at (K0 + (6 + m)) with
 | .row [.int .i64 b,.slice (some ⟨x,1,some 0⟩) n 1] true none=>bif Nat.ble (K0 + (14 + m)) x && Nat.beq n m then some (v,(h.put (K0 + (6 + m)) (.row [iv b] true none)).take (14 + m),h.at x) else none
 | _=>none
abbrev GAf:=List TLi→Int→Us→TLi→Int→Bool→S5
abbrev GBf:=List TLi→Int→Us→S5→S5
section
variable (m i:Nat) (GA:GAf) (GB:GBf) (rows:List TLi) (sum:Int) (u:Us) (kA:TLi→Int→Bool→Option R7) (kB:S5→Option R7)
def stM (M:TLi) (k:Int):TLi:=M.set i (t1 k)
def lpB:List (Nat × Tup intK)→S5→Option R7
 | [],st=>kB st
 | (k,v) :: r,st=>bif i1 v == -1 then lpB r st else bif u.getD k false then lpB r st else
   gR (Nat.beq (stM i st.1 k).length m) (gR (Nat.beq st.2.2.1.length m) (lpB r (GB rows (IntKind.i64.wrap (sum + i1 v)) (u.set k true) (stM i st.1 k,st.2))))
def lpA:List (Nat × Tup intK)→TLi→Int→Bool→Option R7
 | [],M,s2,sv=>kA M s2 sv
 | (k,v) :: r,M,s2,sv=>bif i1 v == -1 then lpA r M s2 sv else bif u.getD k false then lpA r M s2 sv else
   gR (Nat.beq (stM i M k).length m) (lpB m i GB rows sum u kB r (GA rows (IntKind.i64.wrap (sum + i1 v)) (u.set k true) (stM i M k) s2 sv))
def endB (fin:S5→Option R7) (st:S5):Option R7:=gR (Nat.beq (stM i st.1 (-1)).length m) (gR (Nat.beq st.2.2.1.length m) (fin (GB rows sum u (stM i st.1 (-1),st.2))))
def endA (fin:S5→Option R7) (M:TLi) (s2:Int) (sv:Bool):Option R7:=gR (Nat.beq (stM i M (-1)).length m) (fin (GA rows sum u (stM i M (-1)) s2 sv))
end
def finF (L:List (Tup evK)) (m n:Nat) (rows:List TLi) (st:S5):Option R7:=some (.tuple #[],hsF L m n rows [iv st.2.1] st.2.2.2.1 true st.2.2.2.2 st.1 [],.vec intK st.2.2.1 true)
def enum:Nat→TLi→List (Nat × Tup intK)
 | _,[]=>[]
 | k,v :: l=>(k,v) :: enum (k + 1) l
abbrev cgG (w0:World) (m n i:Nat) (GA:GAf) (GB:GBf):Cfg:=(cfg w0).onH [(167,frF m n i GA GB)]
def qF (C:Cfg) (m n:Nat) (i sum:Int) (u:Us) (L:List (Tup evK)) (rows:List TLi) (best:List Value) (s2:Int) (fd sv:Bool) (M:TLi) (tail:Heap):Option R7:=
 bodyGo C none (Go.Am.evK C none 60) (fnOf Tryz.f167) (argF m i sum u) (hsF L m n rows best s2 fd sv M tail) (rdK m)
def leafA (m:Nat) (sum:Int) (fin:S5→Option R7) (M:TLi) (s2:Int) (sv:Bool):Option R7:=gR (Nat.blt 0 M.length) (gR (sm M) (gR (Nat.beq M.length m) (fin (M,sum,M,s2,sv))))
def mxI (a b:Int):Int:=if a > b then a else b
def leafB (m:Nat) (sum:Int) (fin:S5→Option R7) (st:S5):Option R7:=gR (sm st.1) (gR (sm st.2.2.1) (bif decide (cmpV sum st.1 st.2.1 st.2.2.1 < 0) then gR (Nat.blt 0 st.1.length) (gR (sm st.1) (gR (Nat.beq st.1.length m) (fin (st.1,sum,st.1,mxI st.2.1 st.2.2.2.1,true))))
 else fin (st.1,st.2.1,st.2.2.1,mxI sum st.2.2.2.1,true)))
end
end Go.Proofs.YtifnpljmjhnbaaaGreatDoor
namespace Go.Proofs.YtifnpljmjhnbaaaGreatDoor
open Go Go.Am
set_option maxRecDepth 100000
variable {w0:World}
noncomputable section
def okO (ad:List Nat):AObj→Bool
 | .row cells _ mt=>cells.all (okA ad) && mt.isNone
 | .vec _ _ _=>true
 | .dead=>true
 | _=>false
theorem okO_objR {ad:List Nat} {r r':Ren} {w:World} {t:Tgt} {o:AObj} (h:∀ b ∈ ad,r' b = r b) (ho:okO ad o = true) (hr:ObjR r w t o):ObjR r' w t o:=by
 cases o with
 | row cells own mt=>
   have ho:(cells.all (okA ad) && mt.isNone) = true:=ho
   rw [Bool.and_eq_true] at ho
   exact objR_same h ho.1 hr
 | vec ks l own=>exact hr
 | dead=>trivial
 | map _ _=>cases ho
 | iter _ _=>cases ho
 | loop _=>cases ho
theorem okO_mate {ad:List Nat} {o:AObj} (ho:okO ad o = true):o.mate = none:=by
 cases o with
 | row cells own mt=>
   have ho:(cells.all (okA ad) && mt.isNone) = true:=ho
   rw [Bool.and_eq_true] at ho
   show mt = none
   cases mt with
   | none=>rfl
   | some a=>cases ho.2
 | _=>rfl
theorem okH_at {ad:List Nat} {h:Heap} (hh:h.all (okO ad) = true) (b:Nat):okO ad (h.at b) = true:=by
 cases ha:(h.at b).alive with
 | false=>
   cases hx:h.at b <;> first | rfl | (rw [hx] at ha;cases ha)
 | true=>
   obtain ⟨k1,k2⟩:=at_lt ha
   rw [List.all_eq_true] at hh
   refine hh _ ?_
   rw [at_ge k1,List.getD_eq_getElem?_getD,List.getElem?_eq_getElem (by omega)]
   exact List.getElem_mem _
structure Lay (N β m:Nat) (ad:List Nat) (h hs:Heap) (up:Nat→Nat) (bb:Option Nat) (h' hs' hE:Heap) (v x:Int) (X:Nat) (B:TLi):Prop where
 em:Em h hs up
 up_:∀ b,(hs.at b).alive = true→b ∈ ad∧up b = b ∨ some (up b) = bb
 al:∀ b ∈ ad,(hs.at b).alive = true∧up b = b
 ad_:∀ b ∈ ad,K0 ≤ b∧b < K0 + N
 b_:K0 + β ∈ ad
 n_:N ≤ h.length
 len:h'.length = h.length + 1
 new:h'.at (K0 + h.length) = .vec intK B true
 bst:h'.at (K0 + β) = .row [iv v,.slice (some ⟨K0 + h.length,1,some 0⟩) m 1] true none
 lay:∀ b ∈ ad,b ≠ K0 + β→h'.at b = hE.at b
 oth:∀ a,a ∉ ad→a ≠ K0 + h.length→some a ≠ bb→h'.at a = h.at a
 bbd:∀ a,some a = bb→(h'.at a).alive = false
 x_:K0 + N ≤ X
 xs:hs'.at X = .vec intK B true
 sbs:hs'.at (K0 + β) = .row [iv v,.slice (some ⟨X,1,some 0⟩) m 1] true none
 slay:∀ b ∈ ad,b ≠ K0 + β→hs'.at b = hE.at b
 sal:∀ b ∈ ad,b ≠ K0 + β→(hE.at b).alive = true
 ok:hE.all (okO ad) = true
 bl:0 < B.length
theorem CallI.lay {C:Cfg} {g:FuncId} {argv:List Value} {N β m:Nat} {ad:List Nat} {h hs:Heap} {up:Nat→Nat} {bb:Option Nat} {h' hs' hE:Heap} {v x:Int} {X:Nat} {B:TLi} {u:Value}
  (Y:Lay N β m ad h hs up bb h' hs' hE v x X B) (ha:argv.all (okA ad) = true) (hu:scal u = true ∨ u = .tuple #[]) (hr:CallI C g argv hs u hs'):CallI C g argv h u h':=by
 have hnew:memA (K0 + h.length) ad = false:=by
  cases hm:memA (K0 + h.length) ad with
  | false=>rfl
  | true=>
    have:=(Y.ad_ _ (memA_ok hm)).2
    have:=Y.n_
    omega
 have mem:∀ {l:List Nat} {b:Nat},b ∈ l→memA b l = true:=fun {l}=>by
  induction l with
  | nil=>intro b hb;cases hb
  | cons a l ih=>
    intro b hb
    unfold memA
    rw [Bool.or_eq_true,Nat.beq_eq]
    rcases List.mem_cons.1 hb with e | e
    ·exact .inl e
    ·exact .inr (ih e)
 let dn:Nat→Option Nat:=fun a=>if a = K0 + h.length then some X else if memA a ad = true then some a else none
 have d0:dn (K0 + h.length) = some X:=if_pos rfl
 have d1:∀ b ∈ ad,dn b = some b:=fun b hb=>by
  have h1:=(Y.ad_ b hb).2
  have h2:=Y.n_
  show (if b = K0 + h.length then some X else if memA b ad = true then some b else none) = _
  rw [if_neg (by omega),if_pos (mem hb)]
 have dinv:∀ a b,dn a = some b→a = K0 + h.length∧b = X ∨ a ∈ ad∧b = a:=fun a b hd=>by
  have hd:(if a = K0 + h.length then some X else if memA a ad = true then some a else none) = some b:=hd
  split at hd
  ·rename_i e;cases hd;exact .inl ⟨e,rfl⟩
  ·split at hd
   ·rename_i e;cases hd;exact .inr ⟨memA_ok e,rfl⟩
   ·cases hd
 have dnone:∀ a,dn a = none→a ≠ K0 + h.length∧a ∉ ad:=fun a hd=>⟨fun e=>(by rw [e,d0] at hd;cases hd),fun e=>(by rw [d1 a e] at hd;cases hd)⟩
 have same:∀ b ∈ ad,b ≠ K0 + β→h'.at b = hs'.at b:=fun b hb hne=>(Y.lay b hb hne).trans (Y.slay b hb hne).symm
 refine CallI.embed (dn:=dn) Y.em (fun r us hv=>vrs_at (fun b hb=>?_) ha hv) hr ⟨by rw [Y.len];omega,fun a hd hal=>?_,fun a b hd=>?_,fun a b hd hal=>?_,fun a b hd=>?_,fun a a' b hd hd'=>?_,fun a b hd r r' w t ho=>?_⟩ (fun r r' u' hv=>?_)
 ·obtain ⟨h1,h2⟩:=Y.al b hb
  show (if (hs.at b).alive = true then r (up b) else none) = r b
  rw [if_pos h1,h2]
 ·obtain ⟨n1,n2⟩:=dnone a hd
  have n3:some a ≠ bb:=fun e=>by rw [Y.bbd a e] at hal;cases hal
  refine ⟨Y.oth a n2 n1 n3,fun b hb e=>?_⟩
  rcases Y.up_ b hb with ⟨k1,k2⟩ | k
  ·rw [k2] at e;exact n2 (e ▸ k1)
  ·rw [← e] at k;exact n3 k
 ·rcases dinv a b hd with ⟨rfl,rfl⟩ | ⟨k,rfl⟩
  ·exact .inr ⟨Nat.le_refl _,by rw [Y.len];omega⟩
  ·exact .inl ⟨(Y.al _ k).1,(Y.al _ k).2.symm⟩
 ·rcases dinv a b hd with ⟨rfl,rfl⟩ | ⟨k,rfl⟩
  ·rw [Y.new,Y.xs]
   have:(AObj.vec intK B true).owned = true:=by
    show (true && Nat.blt 0 B.length) = true
    rw [Bool.true_and,Nat.blt_eq];exact Y.bl
   exact ⟨rfl,fun h=>h,.inl this⟩
  ·refine ⟨?_,fun ho=>?_,.inr ⟨(Y.al _ k).1,(Y.al _ k).2.symm⟩⟩
   ·by_cases e:b = K0 + β
    ·rw [e,Y.sbs];rfl
    ·rw [← same b k e];exact hal
   ·by_cases e:b = K0 + β
    ·rw [e,Y.sbs];rfl
    ·rw [← same b k e];exact ho
 ·rcases dinv a b hd with ⟨_,rfl⟩ | ⟨k,rfl⟩
  ·rw [Y.xs];rfl
  ·by_cases e:b = K0 + β
   ·rw [e,Y.sbs];rfl
   ·rw [Y.slay b k e]
    exact okO_mate (okH_at Y.ok b)
 ·rcases dinv a b hd with ⟨e1,e2⟩ | ⟨k,e⟩
  ·rcases dinv a' b hd' with ⟨e3,e4⟩ | ⟨k',e'⟩
   ·rw [e1,e3]
   ·have:=(Y.ad_ a' k').2
    have:=Y.x_
    omega
  ·rcases dinv a' b hd' with ⟨e3,e4⟩ | ⟨k',e'⟩
   ·have:=(Y.ad_ a k).2
    have:=Y.x_
    omega
   ·omega
 ·have sn:∀ a b,dn a = some b→Go.Am.seen dn r r' a = r' b:=fun a b h=>by unfold Go.Am.seen;rw [h]
  rcases dinv a b hd with ⟨rfl,rfl⟩ | ⟨k,rfl⟩
  ·rw [Y.new];rw [Y.xs] at ho;exact ho
  ·by_cases e:b = K0 + β
   ·subst e
    rw [Y.sbs] at ho
    rw [Y.bst]
    refine objR_row ho rfl fun j c' hj=>?_
    match j,hj with
    | 0,hj=>cases hj;exact ⟨_,rfl,fun u hu=>by rw [hu.scal_eq rfl];exact .scal _ rfl⟩
    | 1,hj=>cases hj;exact ⟨_,rfl,fun u hu=>vr_asl (sn _ _ d0) (by omega) hu⟩
    | j + 2,hj=>simp at hj
   ·rw [same b k e]
    have ho2:=ho
    rw [Y.slay b k e] at ho2 ⊢
    exact okO_objR (fun b' hb'=>sn b' b' (d1 b' hb')) (okH_at Y.ok b) ho2
 ·rcases hu with hu | rfl
  ·rw [hv.scal_eq hu];exact .scal _ hu
  ·cases hv with
   | scal _ h1=>cases h1
   | tup _ xs' hx _=>
     have:xs' = #[]:=Array.eq_empty_of_size_eq_zero hx.symm
     subst this
     exact .tup _ _ rfl fun j h1=>by simp at h1
end
end Go.Proofs.YtifnpljmjhnbaaaGreatDoor
namespace Go.Proofs.YtifnpljmjhnbaaaGreatDoor
open Go Go.Am
set_option maxRecDepth 100000
variable {w0:World}
noncomputable section
theorem isVec_eq {ks:List Kd} {own:Bool} {o:AObj} (h:isVec ks own o = true):o = .vec ks (vecOf ks o) own:=by
 unfold isVec at h
 split at h
 ·rename_i ks' l ow
  split at h
  ·rename_i l' hl
   obtain ⟨e,e2⟩:=recast_eq hl
   subst e
   cases e2
   have:ow = own:=by cases own <;> cases ow <;> first | rfl | cases h
   subst this
   unfold vecOf
   simp only [hl]
  ·cases h
 ·cases h
theorem eqO_eq {a b:Option Nat} (h:eqO a b = true):a = b:=by
 cases a <;> cases b <;> first | rfl | cases h | exact congrArg some (Nat.eq_of_beq_eq_true h)
theorem eqAd_eq {a b:Addr} (h:eqAd a b = true):a = b:=by
 obtain ⟨a1,a2,a3⟩:=a
 obtain ⟨b1,b2,b3⟩:=b
 have h:(Nat.beq a1 b1 && (Nat.beq a2 b2 && eqO a3 b3)) = true:=h
 rw [Bool.and_eq_true,Bool.and_eq_true,Nat.beq_eq,Nat.beq_eq] at h
 obtain ⟨h1,h2,h3⟩:=h
 rw [h1,h2,eqO_eq h3]
theorem eqP_eq {a b:Value} (h:eqP a b = true):a = b:=by
 unfold eqP at h
 split at h
 ·rw [eqAd_eq h]
 ·rw [Bool.and_eq_true,Bool.and_eq_true,Nat.beq_eq,Nat.beq_eq] at h
  rw [eqAd_eq h.1,h.2.1,h.2.2]
 ·cases h
theorem eqPs_eq:∀ {xs ys:List Value},eqPs xs ys = true→xs = ys
 | [],[],_=>rfl
 | [],_ :: _,h=>by cases h
 | _ :: _,[],h=>by cases h
 | a :: xs,b :: ys,h=>by
   unfold eqPs at h
   rw [Bool.and_eq_true] at h
   rw [eqP_eq h.1,eqPs_eq h.2]
theorem eqF_eq {a b:Value} (h:eqF a b = true):a = b:=by
 unfold eqF at h
 split at h
 ·rename_i f xs ys g xs' ys'
  rw [Bool.and_eq_true,Bool.and_eq_true,Nat.beq_eq] at h
  have h1:=eqPs_eq h.2.1
  have h2:=eqPs_eq h.2.2
  rw [h.1,show xs = xs' from Array.toList_inj.1 h1,show ys = ys' from Array.toList_inj.1 h2]
 ·exact eqP_eq h
theorem eqFs_eq:∀ {xs ys:List Value},eqFs xs ys = true→xs = ys
 | [],[],_=>rfl
 | [],_ :: _,h=>by cases h
 | _ :: _,[],h=>by cases h
 | a :: xs,b :: ys,h=>by
   unfold eqFs at h
   rw [Bool.and_eq_true] at h
   rw [eqF_eq h.1,eqFs_eq h.2]
theorem isRow_eq {cs:List Value} {o:AObj} (h:isRow' cs o = true):o = .row cs true none:=by
 unfold isRow' at h
 split at h
 ·rw [eqFs_eq h]
 ·cases h
theorem isInt_eq {o:AObj} (h:isInt o = true):o = .row [iv (intOf o)] true none:=by
 unfold isInt at h
 split at h
 ·rfl
 ·cases h
theorem isBoo_eq {o:AObj} (h:isBoo o = true):o = .row [.bool (boolOf o)] true none:=by
 unfold isBoo at h
 split at h
 ·rfl
 ·cases h
theorem isBA_eq {o:AObj} (h:isBA o = true):o = .row bA true none:=by
 unfold isBA at h
 split at h
 ·rw [of_decide_eq_true h];rfl
 ·cases h
theorem isBB_eq {m:Nat} {o:AObj} (h:isBB m o = true):o = .row [iv (bbV o),.slice (some ⟨bbX o,1,some 0⟩) m 1] true none:=by
 unfold isBB at h
 split at h
 ·rw [Nat.beq_eq] at h;rw [h];rfl
 ·cases h
theorem isBo_eq:∀ {us:List Value},us.all isBoV = true→us = (us.map boV).map Value.bool
 | [],_=>rfl
 | v :: us,h=>by
   rw [List.all_cons,Bool.and_eq_true] at h
   have h2:=isBo_eq h.2
   have h1:=h.1
   unfold isBoV at h1
   split at h1
   ·rw [List.map_cons,List.map_cons,← h2];rfl
   ·cases h1
end
end Go.Proofs.YtifnpljmjhnbaaaGreatDoor
