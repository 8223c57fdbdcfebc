/-
 A part of the proof of the statement that the claim names: see the last file.
-/
import Derived.Test.YtifnpljmjhnbaaaGreatDoorAm5
import Derived.Test.YtifnpljmjhnbaaaGreatDoorAm4
namespace Go.Am
noncomputable section
open Go Go.RowKit
variable {C:Cfg}
def sm' (hs:Heap) (up:Nat→Nat) (r:Ren):Ren:=fun b=>if (hs.at b).alive = true then r (up b) else none
def seen (dn:Nat→Option Nat) (r r':Ren):Ren:=fun a=>match dn a with
 | some b=>r' b
 | none=>r a
structure Em (h hs:Heap) (up:Nat→Nat):Prop where
 al:∀ b,(hs.at b).alive = true→(h.at (up b)).alive = true
 ow:∀ b,(hs.at b).owned = true→(h.at (up b)).owned = true
 inj:∀ b b',(hs.at b).alive = true→(hs.at b').alive = true→up b = up b'→b = b'
 mt:∀ b,(hs.at b).alive = true→(h.at (up b)).mate = none
 obj:∀ b,(hs.at b).alive = true→∀ (r:Ren) (w:World) (t:Tgt),ObjR r w t (h.at (up b))→ObjR (sm' hs up r) w t (hs.at b)
structure Out (h hs:Heap) (up:Nat→Nat) (h' hs':Heap) (dn:Nat→Option Nat):Prop where
 len:h.length ≤ h'.length
 same:∀ a,dn a = none→(h'.at a).alive = true→h'.at a = h.at a∧∀ b,(hs.at b).alive = true→a ≠ up b
 at_:∀ a b,dn a = some b→(hs.at b).alive = true∧a = up b ∨ K0 + h.length ≤ a∧a < K0 + h'.length
 own:∀ a b,dn a = some b→(h'.at a).alive = true→(hs'.at b).alive = true∧((h'.at a).owned = true→(hs'.at b).owned = true)∧((hs'.at b).owned = true ∨ (hs.at b).alive = true∧a = up b)
 mt:∀ a b,dn a = some b→(hs'.at b).mate = none
 inj:∀ a a' b,dn a = some b→dn a' = some b→a = a'
 obj:∀ a b,dn a = some b→∀ (r r':Ren) (w:World) (t:Tgt),ObjR r' w t (hs'.at b)→ObjR (seen dn r r') w t (h'.at a)
theorem CallI.embed {g:FuncId} {argv argvS:List Value} {h hs h' hs':Heap} {v vS:Value} {up:Nat→Nat} {dn:Nat→Option Nat}
  (E:Em h hs up) (ha:∀ (r:Ren) (us:List Value),VRs r argv us→VRs (sm' hs up r) argvS us) (hr:CallI C g argvS hs vS hs') (O:Out h hs up h' hs' dn)
  (hv:∀ (r r':Ren) (u:Value),VR r' vS u→VR (seen dn r r') v u):CallI C g argv h v h':=by
 intro F N r w args hF hro H hargs
 have sme:∀ b t,sm' hs up r b = some t→(hs.at b).alive = true∧r (up b) = some t:=fun b t hb=>by
  unfold sm' at hb
  split at hb
  ·rename_i hal;exact ⟨hal,hb⟩
  ·cases hb
 have smi:∀ b,(hs.at b).alive = true→sm' hs up r b = r (up b):=fun b hal=>if_pos hal
 have own0:∀ k,Owned (sm' hs up r) hs k→Owned r h k:=fun k ⟨b,t,h1,h2,h3⟩=>⟨up b,t,E.ow b h1,(sme b t h2).2,h3⟩
 have mine0:∀ k,Mine (sm' hs up r) hs k→Mine r h k:=fun k ⟨b,t,h1,h2,h3⟩=>⟨up b,t,E.ow b h1,(sme b t h2).2,h3⟩
 have H0:HR C.G C.GB (sm' hs up r) hs w:=by
  refine ⟨fun b t hb=>at_lt (sme b t hb).1,fun b hb=>?_,fun b b' t t' h1 h2 k1 k2 he=>?_,H.glob,H.gb,fun b t h1 h2=>H.own (up b) t (E.ow b h1) (sme b t h2).2,fun b t h1 h2 k hk=>?_⟩
  ·obtain ⟨t,e1,e2,e3⟩:=H.obj (up b) (E.al b hb)
   exact ⟨t,by rw [smi b hb];exact e1,e2,E.obj b hb r w t e3⟩
  ·obtain ⟨a1,c1⟩:=sme b t k1
   obtain ⟨a2,c2⟩:=sme b' t' k2
   rcases H.exc (up b) (up b') t t' (E.ow b h1) (E.al b' h2) c1 c2 he with e | ⟨e,_⟩
   ·exact .inl (E.inj b b' a1 a2 e)
   ·rw [E.mt b a1] at e;cases e
  ·obtain ⟨x,y⟩:=H.frz (up b) t (E.al b h1) (sme b t h2).2 k hk
   exact ⟨x,fun ho=>y (own0 k ho)⟩
 refine CallsIn.mono (hr F N (sm' hs up r) w args hF hro H0 (ha r _ hargs)) fun e w' ⟨u,r',he,S,H',hvu⟩=>?_
 have sn:∀ a b,dn a = some b→seen dn r r' a = r' b:=fun a b h=>by unfold seen;rw [h]
 have s0:∀ a,dn a = none→seen dn r r' a = r a:=fun a h=>by unfold seen;rw [h]
 -- an address of before that is seen stands where it stood
 have old:∀ b,(hs.at b).alive = true→r' b = r (up b):=fun b hb=>by
  obtain ⟨t,e1,_,_⟩:=H0.obj b hb
  rw [S.le b t e1,← smi b hb,e1]
 -- a block of what is not handed in is not one that the call may write
 have apart:∀ a t,(h.at a).alive = true→(∀ b,(hs.at b).alive = true→a ≠ up b)→r a = some t→¬ Owned (sm' hs up r) hs t.blk:=fun a t hal hne hra ⟨b,tb,h1,h2,h3⟩=>by
  obtain ⟨c1,c2⟩:=sme b tb h2
  rcases H.exc (up b) a tb t (E.ow b h1) hal c2 hra h3 with e | ⟨e,_⟩
  ·exact hne b c1 e.symm
  ·rw [E.mt b c1] at e;cases e
 have keepA:∀ a t,(h.at a).alive = true→(∀ b,(hs.at b).alive = true→a ≠ up b)→r a = some t→w'.heap[t.blk]? = w.heap[t.blk]?:=fun a t hal hne hra=>by
  obtain ⟨t',e1,e2,_⟩:=H.obj a hal
  rw [hra] at e1;cases e1
  exact S.keep _ e2 (apart a t hal hne hra)
 have ownF:∀ k,k < w.heap.size→Owned (seen dn r r') h' k→Owned r h k:=fun k hk ⟨a,t,h1,h2,h3⟩=>by
  cases hd:dn a with
  | none=>
    obtain ⟨e,_⟩:=O.same a hd (AObj.alive_of_owned h1)
    rw [s0 a hd] at h2
    exact ⟨a,t,by rw [← e];exact h1,h2,h3⟩
  | some b=>
    rw [sn a b hd] at h2
    obtain ⟨_,o2,_⟩:=O.own a b hd (AObj.alive_of_owned h1)
    exact own0 k (S.own k hk ⟨b,t,o2 h1,h2,h3⟩)
 have mineF:∀ k,k < w.heap.size→Mine (seen dn r r') h' k→Mine r h k:=fun k hk ⟨a,t,h1,h2,h3⟩=>by
  cases hd:dn a with
  | none=>
    obtain ⟨e,_⟩:=O.same a hd (AObj.alive_of_owned h1)
    rw [s0 a hd] at h2
    exact ⟨a,t,by rw [← e];exact h1,h2,h3⟩
  | some b=>
    rw [sn a b hd] at h2
    obtain ⟨_,o2,_⟩:=O.own a b hd (AObj.alive_of_owned h1)
    exact mine0 k (S.mine k hk ⟨b,t,o2 h1,h2,h3⟩)
 refine ⟨u,seen dn r r',he,⟨fun a t hra=>?_,S.os,S.tape,S.output,S.size,fun k hk ho=>S.keep k hk fun h0=>ho (own0 k h0),ownF,O.len,fun a t hra=>?_,mineF⟩,?_,hv r r' u hvu⟩
 ·cases hd:dn a with
  | none=>rw [s0 a hd];exact hra
  | some b=>
    rw [sn a b hd]
    rcases O.at_ a b hd with ⟨hb,rfl⟩ | ⟨hb,_⟩
    ·rw [old b hb];exact hra
    ·have:=(H.dom a t hra).2;omega
 ·cases hd:dn a with
  | none=>rw [s0 a hd] at hra;exact .inl hra
  | some b=>
    rw [sn a b hd] at hra
    rcases O.at_ a b hd with ⟨hb,rfl⟩ | ⟨hb,_⟩
    ·rw [old b hb] at hra;exact .inl hra
    ·exact .inr hb
 ·refine ⟨fun a t hra=>?_,fun a hal=>?_,fun a a' t t' h1 h2 k1 k2 he=>?_,H'.glob,H'.gb,fun a t h1 h2=>?_,fun a t h1 h2 k hk=>?_⟩
  ·cases hd:dn a with
   | none=>
     rw [s0 a hd] at hra
     have:=H.dom a t hra
     have:=O.len
     omega
   | some b=>
     rw [sn a b hd] at hra
     rcases O.at_ a b hd with ⟨hb,rfl⟩ | ⟨hb,hb2⟩
     ·rw [old b hb] at hra
      have:=H.dom _ t hra
      have:=O.len
      omega
     ·omega
  ·cases hd:dn a with
   | none=>
     obtain ⟨e,hne⟩:=O.same a hd hal
     rw [e] at hal
     obtain ⟨t,e1,e2,e3⟩:=H.obj a hal
     refine ⟨t,by rw [s0 a hd];exact e1,Nat.lt_of_lt_of_le e2 S.size,?_⟩
     rw [e]
     refine ObjR.of_block (fun a' t' ha'=>?_) (keepA a t hal hne e1) (fun k hk=>S.keep k (H.frz a t hal e1 k hk).1 fun ho=>(H.frz a t hal e1 k hk).2 (own0 k ho)) e3
     cases hd':dn a' with
     | none=>rw [s0 a' hd'];exact ha'
     | some b'=>
       rw [sn a' b' hd']
       rcases O.at_ a' b' hd' with ⟨hb,rfl⟩ | ⟨hb,_⟩
       ·rw [old b' hb];exact ha'
       ·have:=(H.dom a' t' ha').2;omega
   | some b=>
     obtain ⟨o1,_,_⟩:=O.own a b hd hal
     obtain ⟨t,e1,e2,e3⟩:=H'.obj b o1
     exact ⟨t,by rw [sn a b hd];exact e1,e2,O.obj a b hd r r' w' t e3⟩
  ·-- none of ours lies where another one lies
   have cross:∀ a a' t t' b,dn a = none→dn a' = some b→(h'.at a).alive = true→(h'.at a').alive = true→((h'.at a).owned = true ∨ (h'.at a').owned = true)→seen dn r r' a = some t→seen dn r r' a' = some t'→t.blk = t'.blk→False:=fun a a' t t' b hd hd' l1 l2 hor k1 k2 he=>by
    obtain ⟨e,hne⟩:=O.same a hd l1
    rw [s0 a hd] at k1
    rw [sn a' b hd'] at k2
    have l1':=l1
    rw [e] at l1'
    obtain ⟨t2,e1,e2,_⟩:=H.obj a l1'
    rw [k1] at e1;cases e1
    obtain ⟨o1,o2,o3⟩:=O.own a' b hd' l2
    have viaOwned:Owned r' hs' t.blk→False:=fun ho=>apart a t l1' hne k1 (S.own _ e2 ho)
    rcases o3 with o3 | ⟨o3,rfl⟩
    ·exact viaOwned ⟨b,t',o3,k2,he.symm⟩
    ·rw [old b o3] at k2
     rcases hor with ho | ho
     ·rw [e] at ho
      rcases H.exc a (up b) t t' ho (E.al b o3) k1 k2 he with e | ⟨_,e⟩
      ·exact hne b o3 e
      ·rw [E.mt b o3] at e;cases e
     ·exact viaOwned ⟨b,t',o2 ho,by rw [old b o3];exact k2,he.symm⟩
   have l1:=AObj.alive_of_owned h1
   cases hd:dn a with
   | none=>
     cases hd':dn a' with
     | none=>
       obtain ⟨e,_⟩:=O.same a hd l1
       obtain ⟨e',_⟩:=O.same a' hd' h2
       rw [s0 a hd] at k1
       rw [s0 a' hd'] at k2
       rw [e] at h1 ⊢
       rw [e'] at h2 ⊢
       exact H.exc a a' t t' h1 h2 k1 k2 he
     | some b'=>exact (cross a a' t t' b' hd hd' l1 h2 (.inl h1) k1 k2 he).elim
   | some b=>
     cases hd':dn a' with
     | none=>exact (cross a' a t' t b hd' hd h2 l1 (.inr h1) k2 k1 he.symm).elim
     | some b'=>
       rw [sn a b hd] at k1
       rw [sn a' b' hd'] at k2
       obtain ⟨_,o2,_⟩:=O.own a b hd l1
       obtain ⟨o1',_,_⟩:=O.own a' b' hd' h2
       rcases H'.exc b b' t t' (o2 h1) o1' k1 k2 he with e | ⟨e,_⟩
       ·subst e
        exact .inl (O.inj a a' b hd hd')
       ·rw [O.mt a b hd] at e;cases e
  ·cases hd:dn a with
   | none=>
     obtain ⟨e,_⟩:=O.same a hd (AObj.alive_of_owned h1)
     rw [s0 a hd] at h2
     exact H.own a t (by rw [← e];exact h1) h2
   | some b=>
     rw [sn a b hd] at h2
     obtain ⟨_,o2,_⟩:=O.own a b hd (AObj.alive_of_owned h1)
     exact H'.own b t (o2 h1) h2
  ·cases hd:dn a with
   | none=>
     obtain ⟨e,_⟩:=O.same a hd h1
     rw [s0 a hd] at h2
     obtain ⟨x,y⟩:=H.frz a t (by rw [← e];exact h1) h2 k hk
     exact ⟨Nat.lt_of_lt_of_le x S.size,fun ho=>y (ownF k x ho)⟩
   | some b=>
     rw [sn a b hd] at h2
     obtain ⟨o1,o2,o3⟩:=O.own a b hd h1
     obtain ⟨x,y⟩:=H'.frz b t o1 h2 k hk
     refine ⟨x,fun ⟨a2,t2,q1,q2,q3⟩=>?_⟩
     cases hd2:dn a2 with
     | some b2=>
       rw [sn a2 b2 hd2] at q2
       obtain ⟨_,p2,_⟩:=O.own a2 b2 hd2 (AObj.alive_of_owned q1)
       exact y ⟨b2,t2,p2 q1,q2,q3⟩
     | none=>
       have l2:=AObj.alive_of_owned q1
       obtain ⟨e,hne⟩:=O.same a2 hd2 l2
       rw [s0 a2 hd2] at q2
       rw [e] at q1 l2
       obtain ⟨t3,e1,e2,_⟩:=H.obj a2 l2
       rw [q2] at e1;cases e1
       have hOw:Owned r h k:=⟨a2,t2,q1,q2,q3⟩
       rcases o3 with o3 | ⟨o3,rfl⟩
       ·obtain ⟨b0,t0,m1,m2,m3⟩:=S.mine k (by rw [← q3];exact e2) ⟨b,t,o3,h2,.inr hk⟩
        obtain ⟨c1,c2⟩:=sme b0 t0 m2
        rcases m3 with m3 | m3
        ·exact apart a2 t2 l2 hne q2 (by rw [q3];exact ⟨b0,t0,m1,m2,m3⟩)
        ·exact (H.frz (up b0) t0 (E.al b0 c1) c2 k m3).2 hOw
       ·rw [old b o3] at h2
        exact (H.frz (up b) t (E.al b o3) h2 k hk).2 hOw
end
end Go.Am
namespace Go.Am
noncomputable section
open Go Go.RowKit
variable {C:Cfg}
theorem q_runK {β:Type} {g:FuncId} {fd:AFn} (ok:CfgOk C) (sp:SpecOK C) (hfd:C.fn g = some fd) {f:Nat} {argv:List Value} {h:Heap} {k:Value→Heap→Option β} {b:β}
  (hq:bodyGo C (none:Option β) (evK C none f) fd argv h k = some b):∃ v h',CallI C g argv h v h'∧k v h' = some b:=by
 have hE:OkE (z:=(none:Option β)) (ev C f) (evK C none f):=evK_eq f
 rw [bodyGo_eq hE] at hq
 cases hc:callBody C (ev C f) fd argv h with
 | none=>rw [hc] at hq;cases hq
 | some p=>
   obtain ⟨v',h'⟩:=p
   rw [hc] at hq
   exact ⟨v',h',callBody_sound (C:=C) ok (ev_sound ok sp f) (g:=g) (fd:=fd) hfd hc,hq⟩
def memA (b:Nat):List Nat→Bool
 | []=>false
 | a :: as=>Nat.beq b a || memA b as
theorem memA_ok {b:Nat}:∀ {l:List Nat},memA b l = true→b ∈ l
 | a :: as,h=>by
   unfold memA at h
   rw [Bool.or_eq_true,Nat.beq_eq] at h
   rcases h with h | h
   ·rw [h];simp
   ·exact List.mem_cons_of_mem _ (memA_ok h)
def okP (ad:List Nat):Value→Bool
 | .pointer (some ⟨b,_,_⟩)=>memA b ad
 | .slice (some ⟨b,_,_⟩) _ _=>memA b ad
 | v=>scal v
def okA (ad:List Nat):Value→Bool
 | .func (.func _) xs ys=>xs.toList.all (okP ad) && ys.toList.all (okP ad)
 | .agg cs=>cs.toList.all scal
 | v=>okP ad v
theorem vr_atP {ad:List Nat} {r r':Ren} (h:∀ b ∈ ad,r' b = r b) {c u:Value} (hc:okP ad c = true) (hv:VR r c u):VR r' c u:=by
 cases hs:scal c with
 | true=>
   rw [hv.scal_eq hs]
   exact .scal c hs
 | false=>
   cases hv with
   | top=>exact .top _
   | xct _ h1=>exact .xct _ h1
   | scal _ h1=>exact .scal _ h1
   | ptr i o t e hk=>exact .ptr i o t (by rw [h i (memA_ok hc)];exact e) hk
   | slice i o n sz cap t e hn hl hz hk hcc=>exact .slice i o n sz cap t (by rw [h i (memA_ok hc)];exact e) hn hl hz hk hcc
   | slice0 a' sz cap hz=>exact .slice0 a' sz cap hz
   | vsl b n sz t _ e hk hv hl=>exact .vsl b n sz t _ (by rw [h b (memA_ok hc)];exact e) hk hv hl
   | sub b lo n sz t _ e hk hv=>exact .sub b lo n sz t _ (by rw [h b (memA_ok hc)];exact e) hk hv
   | asl b n sz t _ e hk hv=>exact .asl b n sz t _ (by rw [h b (memA_ok hc)];exact e) hk hv
   | ept b cc i t e hk hi=>exact .ept b cc i t (by rw [h b (memA_ok hc)];exact e) hk hi
   | map i t e=>cases hc
   | func f xs xs' ys ys' hx hy h1 h2=>
     have:scal (.func (.func f) xs ys) = true:=hc
     rw [hs] at this;cases this
   | yield i t e=>cases hc
   | iface t v v' hvv=>cases hc
   | agg xs xs' hx hh=>cases hc
   | tup xs xs' hx hh=>cases hc
theorem vr_at {ad:List Nat} {r r':Ren} (h:∀ b ∈ ad,r' b = r b) {c u:Value} (hc:okA ad c = true) (hv:VR r c u):VR r' c u:=by
 unfold okA at hc
 split at hc
 ·rename_i f xs ys
  rw [Bool.and_eq_true,List.all_eq_true,List.all_eq_true] at hc
  cases hv with
  | scal _ h1=>exact .scal _ h1
  | func _ _ xs' _ ys' hx hy h1 h2=>
    exact .func f xs xs' ys ys' hx hy (fun j a b=>vr_atP h (hc.1 _ (by simp)) (h1 j a b)) (fun j a b=>vr_atP h (hc.2 _ (by simp)) (h2 j a b))
 ·rename_i cs
  have hp:plain (.agg cs) = true:=hc
  rw [hv.plain_eq hp]
  exact plain_refl r' hp
 ·exact vr_atP h hc hv
theorem vr_asl {r r':Ren} {a b n sz:Nat} {u:Value} (h:r' b = r a) (hb:K0 ≤ b) (hv:VR r (.slice (some ⟨a,1,some 0⟩) n sz) u):VR r' (.slice (some ⟨b,1,some 0⟩) n sz) u:=by
 cases hv with
 | scal _ h1=>cases h1
 | asl _ _ _ t _ e hk hv=>exact .asl b n sz t _ (by rw [h];exact e) hb hv
theorem objR_row {r r':Ren} {w:World} {t:Tgt} {cells cells':List Value} {own:Bool} {m m':Option Nat} (h:ObjR r w t (.row cells own m)) (hl:cells'.length = cells.length)
  (hc:∀ (j:Nat) (c':Value),cells'[j]? = some c'→∃ c,cells[j]? = some c∧∀ u,VR r c u→VR r' c' u):ObjR r' w t (.row cells' own m'):=by
 obtain ⟨h1,h2,h3⟩:=h
 refine ⟨by rw [hl];exact h1,fun j c' hj=>?_,h3⟩
 obtain ⟨c,hcj,hcv⟩:=hc j c' hj
 obtain ⟨u,e1,e2⟩:=h2 j c hcj
 exact ⟨u,e1,hcv u e2⟩
theorem objR_same {ad:List Nat} {r r':Ren} {w:World} {t:Tgt} {cells:List Value} {own:Bool} {m:Option Nat} (h:∀ b ∈ ad,r' b = r b) (hc:cells.all (okA ad) = true) (ho:ObjR r w t (.row cells own m)):ObjR r' w t (.row cells own m):=by
 rw [List.all_eq_true] at hc
 exact objR_row ho rfl fun j c hj=>⟨c,hj,fun u hu=>vr_at h (hc c (List.mem_of_getElem? hj)) hu⟩
theorem vrs_at {ad:List Nat} {r r':Ren} (h:∀ b ∈ ad,r' b = r b) {cs us:List Value} (hc:cs.all (okA ad) = true) (hv:VRs r cs us):VRs r' cs us:=by
 rw [List.all_eq_true] at hc
 exact ⟨hv.1,fun j x hj=>let ⟨u,e1,e2⟩:=hv.2 j x hj;⟨u,e1,vr_at h (hc x (List.mem_of_getElem? hj)) e2⟩⟩
end
end Go.Am
namespace Go.Am
noncomputable section
open Go Go.RowKit
variable {C:Cfg}
def rdS1:List (Nat × Cv)→List Value→Heap→Option (List D × Heap)
 | [],_,h=>some ([],h)
 | (i,c) :: rs,tmps,h=>match rdC c h (tmps.getD (tmI i) undef) with
   | some (d,h')=>match rdS1 rs tmps h' with
     | some (ds,h'')=>some (d :: ds,h'')
     | none=>none
   | none=>none
theorem HR.rest {r r1 r2:Ren} {h hs h2:Heap} {w w':World} (H:HR C.G C.GB r h w) (A:Ap r1 hs r h) (S:StepF r1 hs w r2 h2 w') (hgl:∀ k,k < C.GB→¬ Owned r1 hs k) :
  HR C.G C.GB r h w'∧Apart r h r2 h2:=by
 have keepA:∀ b t,(h.at b).alive = true→r b = some t→w'.heap[t.blk]? = w.heap[t.blk]?:=fun b t hb hr=>by
  obtain ⟨t',hr',hlt,_⟩:=H.obj b hb
  rw [hr] at hr';cases hr'
  exact S.keep _ hlt (A.2 b t hb hr).1
 have keepB:∀ b t,(h.at b).alive = true→r b = some t→∀ k,t.inn k→w'.heap[k]? = w.heap[k]?:=fun b t hb hr k hi=>S.keep _ (H.frz b t hb hr k hi).1 ((A.2 b t hb hr).2 k hi)
 refine ⟨⟨H.dom,fun b hb=>?_,H.exc,H.glob_keep fun k hk=>S.keep k (by have:=H.gb;omega) (hgl k hk),by have:=H.gb;have:=S.size;omega,H.own,fun b t hb hr k hk=>let ⟨x,y⟩:=H.frz b t hb hr k hk;⟨Nat.lt_of_lt_of_le x S.size,y⟩⟩,fun b t hb hr=>?_⟩
 ·obtain ⟨t,a,c,e⟩:=H.obj b hb
  exact ⟨t,a,Nat.lt_of_lt_of_le c S.size,ObjR.of_block (.refl _) (keepA b t hb a) (keepB b t hb a) e⟩
 ·obtain ⟨t',hr',hlt,_⟩:=H.obj b hb
  rw [hr] at hr';cases hr'
  refine ⟨fun ho=>(A.2 b t hb hr).1 (S.own _ hlt ho),fun hw ho=>?_,fun k hk ho=>(A.2 b t hb hr).2 k hk (S.own _ (H.frz b t hb hr k hk).1 ho)⟩
  obtain ⟨c,tc,c1,c2,c3⟩:=S.mine _ hlt ho
  obtain ⟨x,y⟩:=A.1 c tc (AObj.alive_of_owned c1) c2
  rcases c3 with e | e
  ·exact x ⟨b,t,hw,hr,e.symm⟩
  ·exact y _ e ⟨b,t,hw,hr,rfl⟩
theorem SR.lay {base:Nat} {r r1:Ren} {s:St} {a:Act} {w:World} (H:SR C.G C.GB base r s a w) {rs:List Nat} {vs:List Value} {h1:Heap} {N:Nat} (hN:s.tmps.length = N) (hall:(rs.all fun i=>alOk s.tmps i) = true)
  (K1:HR C.G C.GB r1 h1 w) (v1:VRs r1 vs (rs.map fun i=>a.tmps.getD (tmI i) undef)):SR C.G C.GB base r1 ⟨mkS N rs vs,h1⟩ a w:=by
 have hget:∀ i,VR r (s.tmps.getD i undef) (a.tmps.getD i undef):=fun i=>by
  have:=H.ev (.tmp i)
  simp only [St.ev,nthR_eq,Act.eval] at this
  simpa [Array.getD_eq_getD_getElem?] using this
 refine ⟨by rw [H.size,hN];simp [mkS],fun j v hj=>?_,K1,H.marks⟩
 simp only [mkS,List.getElem?_map] at hj
 cases hr:(List.range N)[j]? with
 | none=>simp [hr] at hj
 | some j'=>
   have hjN:j < N:=by
    have:=(List.getElem?_eq_some_iff.1 hr).1
    simpa using this
   rw [List.getElem?_range hjN] at hr
   cases hr
   rw [List.getElem?_range hjN] at hj
   simp only [Option.map_some,Option.some.injEq] at hj
   have hja:j < a.tmps.size:=by rw [H.size,hN];exact hjN
   split at hj
   ·rename_i x hx
    subst hj
    obtain ⟨p,q,y,h1,h2,h3⟩:=atS_get _ _ _ _ hx
    obtain ⟨u,hu,hvu⟩:=v1.2 p y h2
    simp only [List.getElem?_map,h1,Option.map_some,Option.some.injEq] at hu
    rcases h3 with ⟨e1,rfl⟩ | ⟨e1,e2,rfl⟩
    ·subst e1
     refine ⟨u,?_,hvu⟩
     rw [← hu]
     simp [Array.getD_eq_getD_getElem?,hja]
    ·have ha:=List.all_eq_true.1 hall _ (List.mem_of_getElem? h1)
     unfold alOk at ha
     simp only [e1] at ha
     have ei:q / 1000000 - 1 = j:=by omega
     have em:tmI q = q % 1000000:=by unfold tmI;rw [e1]
     rw [em] at hu
     rw [ei] at ha
     have hne:capV (s.tmps.getD (q % 1000000) undef) ≠ unk:=fun e=>by rw [e] at ha;cases ha
     have hg:=hget j
     rw [show a.tmps.getD j undef = a.tmps[j] by simp [Array.getD_eq_getD_getElem?,hja]] at hg
     refine ⟨a.tmps[j],by simp [hja],?_⟩
     rcases capV_vr (hu ▸ hget (q % 1000000)) hvu hne with e | ⟨z,z1,z2⟩
     ·rw [e];exact .top _
     ·rw [← sameP_vr ha z1 hg];exact z2
   ·subst hj
    exact ⟨a.tmps[j],by simp [hja],.top _⟩
structure HkX (ks kw:List Kd) where
 vi:Value
 vn:Value
 l:List (Tup ks)
 ws:List (Tup kw)
 c:Value
section hook
variable {ks kw:List Kd}
end hook
end
end Go.Am
namespace Go.Am
noncomputable section
open Go Go.RowKit
variable {C:Cfg}
structure HsX (ka kb kc:List Kd) where
 j:Value
 a:List (Tup ka)
 b:List (Tup kb)
 s:Value
 c:List (Tup kc)
 x:Value
 y:Value
 z:Value
section hook
variable {ka kb kc:List Kd}
def relS (T:Nat × Nat × Nat × Nat × Nat × Nat × Nat × Nat):List (Nat × Cv):=
 [(T.1,.id),(T.2.1,.id),(T.2.2.1,.id),(T.2.2.2.1,.id),(T.2.2.2.2.1,.id),(T.2.2.2.2.2.1,.id),(T.2.2.2.2.2.2.1,.id),(T.2.2.2.2.2.2.2,.id)]
def outS (T:Nat × Nat × Nat × Nat × Nat × Nat × Nat × Nat):List Nat:=[T.2.2.2.2.1,T.2.2.2.2.2.1,T.2.2.2.2.2.2.1,T.2.2.2.2.2.2.2]
def hsF (N:Nat) (T:Nat × Nat × Nat × Nat × Nat × Nat × Nat × Nat) (fr:List Nat) (told:HsX ka kb kc→FT (Value × Value × Value × Value)):St→FT (X × St):=fun s=>
 match Nat.beq s.tmps.length N,rdS1 (relS T) s.tmps (shS (fr.map fun j=>(j,.sv [])) s.tmps s.heap) with
 | true,some ([.val j,.vec ka' a,.vec kb' b,.val sl,.ovec kc' c,.val x,.val y,.val z],h)=>match recast ka' ka a,recast kb' kb b,recast kc' kc c with
   | some a,some b,some c=>(told ⟨j,a,b,sl,c,x,y,z⟩).map fun Y=>(.normal,⟨(List.range N).map fun i=>match atS (outS T) [.slice (some ⟨K0 + lenR h,1,some 0⟩) c.length kc.length,Y.2.1,Y.2.2.1,Y.2.2.2] i with
         | some v=>v
         | none=>unk,h++[.vec kc c true]⟩)
   | _,_,_=>.bad
 | _,_=>.bad
end hook
end
end Go.Am
