/-
 A part of the proof of the statement that the claim names: see the last file.
-/
import Derived.Test.YtifnpljmjhnbaaaGreatDoorAm1
import Derived.Laws.StructEq
import Derived.ChangeKeysEq
namespace Go.Am
noncomputable section
open Go Go.RowKit
variable {P:Program} {ty:TypeId→Option ATy} {G:Gl} {GB:Nat}
theorem HR.widen {r:Ren} {h:Heap} {w w':World} (H:HR G GB r h w) (hs:w.heap.size ≤ w'.heap.size) (hk:∀ k,k < w.heap.size→w'.heap[k]? = w.heap[k]?):HR G GB r h w' where
 dom:=H.dom
 obj b hb:=let ⟨t,a,c,d⟩:=H.obj b hb;⟨t,a,Nat.lt_of_lt_of_le c hs,ObjR.of_block (.refl _) (hk _ c) (fun k hk'=>hk k (H.frz b t hb a k hk').1) d⟩
 exc:=H.exc
 glob:=H.glob_keep fun k hk'=>hk k (by have:=H.gb;omega)
 gb:=by have:=H.gb;omega
 own:=H.own
 frz b t hb hr k hk:=let ⟨a,c⟩:=H.frz b t hb hr k hk;⟨Nat.lt_of_lt_of_le a hs,c⟩
def ElemsAt (I:Nat→Prop) (w:World) (ks:List Kd) (l:List (Tup ks)) (f:Nat→Option Value):Prop:=
 ∀ (i:Nat) (x:Tup ks),l[i]? = some x→RowIn I w ks x fun j=>f (i * ks.length + j)
theorem ElemsAt.of_vals {I:Nat→Prop} {w:World} {ks:List Kd} (hf:flatK ks = true) {l:List (Tup ks)} {f:Nat→Option Value} (h:∀ (i:Nat) (x:Tup ks),l[i]? = some x→∀ (j:Nat) (c:Value),(toVs ks x)[j]? = some c→f (i * ks.length + j) = some c):ElemsAt I w ks l f:=
 fun i x hx=>RowIn.of_vals hf (h i x hx)
theorem ElemsAt.mono {I J:Nat→Prop} {w w':World} (hi:∀ b,I b→J b) (hw:∀ b,I b→w'.heap[b]? = w.heap[b]?) {ks:List Kd} {l:List (Tup ks)} {f:Nat→Option Value} (h:ElemsAt I w ks l f):ElemsAt J w' ks l f:=
 fun i x hx=>(h i x hx).mono hi hw
theorem put_kill (h:Heap) (b:Nat):h.put b .dead = h.kill (some b):=rfl
theorem HR.newVec {r:Ren} {h:Heap} {w:World} (H:HR G GB r h w) {ks:List Kd} (hfl:okK ks = true) (hs:0 < ks.length) (l:List (Tup ks)) (cs:Array Value) (e:TypeId) (hfit:l.length * ks.length ≤ cs.size) {I:Nat→Prop} (hel:ElemsAt I w ks l fun q=>cs[q]?)
  {hp:Heap} (hsub:Sub r h hp) (hpl:h.length = hp.length) (hinn:∀ k,I k→k < w.heap.size∧¬ Owned r h k∧Mine r hp k) :
  ∃ t,(t.sz = ks.length∧t.len = l.length * ks.length∧(0 < l.length→t.blk = w.heap.size∧t.off = 0∧t.lim = cs.size)) ∧
   HR G GB (r.put (K0 + h.length) t) (h++[.vec ks l true]) (w.alloc (.cells cs e))∧Step r hp w (r.put (K0 + h.length) t) (h++[.vec ks l true]) (w.alloc (.cells cs e)):=by
 have hkeep:∀ k,k < w.heap.size→(w.alloc (.cells cs e)).heap[k]? = w.heap[k]?:=fun k hk=>Below.heap_alloc _ _ _ hk
 rcases Nat.eq_zero_or_pos l.length with hN | hN
 ·have H2:=H.widen (w':=w.alloc (.cells cs e)) (by simp) hkeep
  obtain ⟨a,b,c⟩:=H2.nothing hfl hs l hN true
  refine ⟨⟨0,0,0,0,ks.length,no⟩,⟨rfl,by simp [hN],fun h=>by omega⟩,a,(hsub.step hpl).trans ⟨b.le,b.os,b.tape,b.output,by simp,fun k hk _=>hkeep k hk,fun k _ ho=>c k ho,b.len,b.fresh,fun k hk ho=>b.mine k (by simp;omega) ho⟩⟩
 ·refine ⟨⟨w.heap.size,0,cs.size,l.length * ks.length,ks.length,I⟩,⟨rfl,rfl,fun _=>⟨rfl,rfl,rfl⟩⟩,?_⟩
  refine H.newP (w':=w.alloc (.cells cs e)) (.vec ks l true) ⟨w.heap.size,0,cs.size,l.length * ks.length,ks.length,I⟩ rfl rfl rfl (by simp) hkeep (Nat.le_refl _) (by simp) ⟨hfl,⟨rfl,hs,rfl⟩,fun h=>by omega,fun _=>⟨by simpa using hfit,fun i x hx=>?_,fun _=>⟨cs,e,by show (w.heap.push _)[w.heap.size]? = _;simp,rfl⟩⟩⟩ hsub hpl (fun k hk=>let ⟨a,b,c⟩:=hinn k hk;⟨a,b,fun _=>c⟩)
  refine ((hel i x hx).mono (fun _ h=>h) fun b hb=>hkeep b (hinn b hb).1).congr fun j _=>?_
  have:=World.cell?_alloc_new (w:=w) cs e (0 + i * ks.length + j)
  rw [Nat.zero_add] at this ⊢;exact this
theorem HR.retake {r:Ren} {h:Heap} {w w':World} (H:HR G GB r h w) {b:Nat} {t t2:Tgt} (hb:(h.at b).owned = true) (hm:(h.at b).mate = none) (hr:r b = some t) (o:AObj) (hbl:t2.blk = t.blk) 
  (hos:w'.os = w.os) (htape:w'.tape = w.tape) (hout:w'.output = w.output) (hsize:w'.heap.size = w.heap.size)
  (hkeep:∀ k,k ≠ t.blk→w'.heap[k]? = w.heap[k]?) (hobj:ObjR (r.put (K0 + h.length) t2) w' t2 o) {hp:Heap} (hsub:Sub r h hp) (hpl:h.length = hp.length) (hinn:∀ k,t2.inn k→k < w.heap.size∧¬ Owned r h k∧Mine r hp k) :
  HR G GB (r.put (K0 + h.length) t2) ((h.put b .dead)++[o]) w'∧Step r hp w (r.put (K0 + h.length) t2) ((h.put b .dead)++[o]) w':=by
 have hl:=at_lt (AObj.alive_of_owned hb)
 have hlen:(h.put b .dead).length = h.length:=put_length ..
 have hat:∀ b',(((h.put b .dead)++[o]:Heap)).at b' = if b' = K0 + h.length then o else if b' = b then .dead else h.at b':=fun b'=>by
  rw [at_snoc,hlen,at_put hl.1 hl.2]
 have hle:=Ren.le_put H t2
 obtain ⟨t0,hr0,hlt0,_⟩:=H.obj b (AObj.alive_of_owned hb)
 rw [hr] at hr0;cases hr0
 have hgbt:=H.own b t hb hr
 generalize hH:((h.put b .dead)++[o]:Heap) = h' at hat ⊢
 have hlen':h'.length = h.length + 1:=by rw [← hH];simp [hlen]
 have old:∀ b',b' ≠ K0 + h.length→(h'.at b').alive = true→b' ≠ b∧(h.at b').alive = true∧h'.at b' = h.at b':=fun b' hne hal=>by
  rw [hat,if_neg hne] at hal ⊢
  split at hal
  ·simp [AObj.alive] at hal
  ·rename_i e;rw [if_neg e];exact ⟨e,hal,rfl⟩
 have apart:∀ b' t',b' ≠ K0 + h.length→(h'.at b').alive = true→r b' = some t'→t'.blk ≠ t.blk:=fun b' t' hne hal hr' he=>by
  obtain ⟨h1,h2,_⟩:=old b' hne hal
  rcases H.exc b b' t t' hb h2 hr hr' he.symm with e | e
  ·exact h1 e.symm
  ·rw [hm] at e;cases e.1
 have osub:∀ k,Owned (r.put (K0 + h.length) t2) h' k→Owned r h k:=fun k ⟨b',t',hb',hr',he⟩=>by
  by_cases n:b' = K0 + h.length
  ·subst n;rw [Ren.put_self] at hr';cases hr';exact ⟨b,t,hb,hr,hbl.symm.trans he⟩
  ·rw [Ren.put_other _ _ n] at hr'
   obtain ⟨_,_,c1⟩:=old b' n (AObj.alive_of_owned hb');exact ⟨b',t',c1 ▸ hb',hr',he⟩
 have msub:∀ k,Mine (r.put (K0 + h.length) t2) h' k→Mine r hp k:=fun k ⟨b',t',hb',hr',he⟩=>by
  by_cases n:b' = K0 + h.length
  ·subst n;rw [Ren.put_self] at hr';cases hr'
   rcases he with he | he
   ·exact hsub.2 k ⟨b,t,hb,hr,.inl (hbl.symm.trans he)⟩
   ·exact (hinn k he).2.2
  ·rw [Ren.put_other _ _ n] at hr'
   obtain ⟨_,_,c1⟩:=old b' n (AObj.alive_of_owned hb');exact hsub.2 k ⟨b',t',c1 ▸ hb',hr',he⟩
 refine ⟨⟨fun b' t' h1=>?_,fun b' hal=>?_,fun b1 b2 t1 t3 h1 h2 r1 r2 he=>?_,?_,by rw [hsize];exact H.gb,fun b' t' hb' hr'=>?_,fun b' t' hal hr' k hk=>?_⟩,⟨hle,hos,htape,hout,by omega,fun k hk ho=>hkeep k (fun e=>ho (hsub.1 k ⟨b,t,hb,hr,e.symm⟩)),fun k hk ho=>hsub.1 k (osub k ho),by omega,fun b u hb=>hpl ▸ Ren.fresh_put r h t2 b u hb,fun k _ ho=>msub k ho⟩⟩
 ·rw [hlen']
  by_cases e:b' = K0 + h.length
  ·subst e;omega
  ·rw [Ren.put_other _ _ e] at h1;have:=H.dom b' t' h1;omega
 ·by_cases e:b' = K0 + h.length
  ·subst e
   refine ⟨t2,Ren.put_self ..,by omega,?_⟩
   rw [hat,if_pos rfl];exact hobj
  ·obtain ⟨_,h2,h3⟩:=old b' e hal
   obtain ⟨t',hr',hlt,ho'⟩:=H.obj b' h2
   refine ⟨t',by rw [Ren.put_other _ _ e];exact hr',by omega,?_⟩
   rw [h3]
   exact ObjR.of_block hle (hkeep _ (apart b' t' e hal hr')) (fun k hk=>hkeep k fun ek=>(H.frz b' t' h2 hr' k hk).2 ⟨b,t,hb,hr,ek.symm⟩) ho'
 ·by_cases n1:b1 = K0 + h.length
  ·by_cases n2:b2 = K0 + h.length
   ·exact .inl (n1.trans n2.symm)
   ·subst n1
    rw [Ren.put_self] at r1;cases r1
    rw [Ren.put_other _ _ n2] at r2
    exact absurd (he.symm.trans hbl) (apart b2 t3 n2 h2 r2)
  ·rw [Ren.put_other _ _ n1] at r1
   have hap:=apart b1 t1 n1 (AObj.alive_of_owned h1) r1
   by_cases n2:b2 = K0 + h.length
   ·subst n2;rw [Ren.put_self] at r2;cases r2;exact absurd (he.trans hbl) hap
   ·rw [Ren.put_other _ _ n2] at r2
    obtain ⟨_,a1,c1⟩:=old b1 n1 (AObj.alive_of_owned h1)
    obtain ⟨_,a2,c2⟩:=old b2 n2 h2
    rw [c1,c2];exact H.exc b1 b2 t1 t3 (c1 ▸ h1) a2 r1 r2 he
 ·exact H.glob_keep fun k hk=>hkeep k (by omega)
 ·by_cases n:b' = K0 + h.length
  ·subst n;rw [Ren.put_self] at hr';cases hr';rw [hbl];exact hgbt
  ·rw [Ren.put_other _ _ n] at hr'
   obtain ⟨_,_,c1⟩:=old b' n (AObj.alive_of_owned hb');exact H.own b' t' (c1 ▸ hb') hr'
 ·by_cases n:b' = K0 + h.length
  ·subst n;rw [Ren.put_self] at hr';cases hr'
   exact ⟨by have:=(hinn k hk).1;omega,fun ho=>(hinn k hk).2.1 (osub k ho)⟩
  ·rw [Ren.put_other _ _ n] at hr'
   obtain ⟨_,c1,_⟩:=old b' n hal
   obtain ⟨x,y⟩:=H.frz b' t' c1 hr' k hk
   exact ⟨by omega,fun ho=>y (osub k ho)⟩
structure Src (w:World) (I:Nat→Prop) (ks:List Kd) (xs:List (Tup ks)) (u:Value) (us:List Value):Prop where
 len:us.length = xs.length * ks.length
 none:xs.length = 0→∃ ad c,u = .slice ad 0 c
 some:0 < xs.length→∃ ad c,u = .slice (some ad) xs.length c∧∀ (j:Nat) (y:Value),us[j]? = some y→w.cell? (ad.add j) = some y
 one:∀ u ∈ us,u.oneCell' = true
 el:ElemsAt I w ks xs fun q=>us[q]?
theorem scal_one {v:Value} (h:scal v = true):v.oneCell' = true:=by
 cases v <;> first | rfl | simp [Am.scal] at h
theorem src_row {r:Ren} {h:Heap} {w:World} (H:HR G GB r h w) {x u:Value} {ks:List Kd} (hfl:flatK ks = true) {m:Nat} {news:List Value} (hs:sliceCells h x ks.length = some (m,news)) {xs:List (Tup ks)} (hx:ofRows ks m news = some xs) (hv:VR r x u):Src w no ks xs u news:=by
 obtain ⟨us,c,h1,h2,h3,h4⟩:=sliceCells_some H hs hv
 obtain ⟨hl,hg⟩:=ofRows_get hx
 subst hl
 have hsc:∀ (j:Nat) (v:Value),news[j]? = some v→Am.scal v = true:=fun j v hj=>by
  have hjl:=(List.getElem?_eq_some_iff.1 hj).1
  have hpos:0 < ks.length:=by
   rcases Nat.eq_zero_or_pos ks.length with e | e
   ·rw [e] at h3;simp at h3;rw [h3] at hjl;simp at hjl
   ·exact e
  have hi:j / ks.length < xs.length:=Nat.div_lt_of_lt_mul (by rw [Nat.mul_comm];omega)
  have:=hg (j / ks.length) _ (nth_get hi)
  refine toVs_scal hfl (nth xs (j / ks.length)) v ?_
  rw [← this]
  refine List.mem_of_getElem? (i:=j % ks.length) ?_
  rw [List.getElem?_take_of_lt (Nat.mod_lt _ hpos),List.getElem?_drop,← hj]
  congr 1
  have:=Nat.div_add_mod j ks.length
  rw [Nat.mul_comm] at this
  omega
 have heq:us = news:=by
  apply List.ext_getElem?
  intro j
  cases hj:news[j]? with
  | none=>exact List.getElem?_eq_none (by have:=List.getElem?_eq_none_iff.1 hj;omega)
  | some v=>
    obtain ⟨y,hy,hvy⟩:=h2 j v hj
    rw [hy,hvy.scal_eq (hsc j v hj)]
 subst heq
 refine ⟨h3,fun hm=>?_,fun hm=>?_,fun u hu=>?_,ElemsAt.of_vals hfl fun i x hx j c hc=>?_⟩
 ·rcases h4 with ⟨_,_,ad,c',h5⟩ | ⟨h5,_⟩
  ·exact ⟨ad,c',h5⟩
  ·omega
 ·rcases h4 with ⟨h5,_⟩ | ⟨_,ad,h5,h6⟩
  ·omega
  ·exact ⟨ad,c,h5,h6⟩
 ·obtain ⟨j,hj⟩:=List.getElem?_of_mem hu
  exact scal_one (hsc j u hj)
 ·have hj:=(List.getElem?_eq_some_iff.1 hc).1
  rw [toVs_len] at hj
  rw [← hg i x hx,List.getElem?_take_of_lt hj,List.getElem?_drop] at hc
  exact hc
theorem shows {r:Ren} {h:Heap} {w:World} (H:HR G GB r h w) {b o lo n sz:Nat} {u:Value} (hv:VR r (.slice (some ⟨b,o,some lo⟩) n sz) u) {ks:List Kd} {l:List (Tup ks)} {own:Bool} (hat:h.at b = .vec ks l own) :
  ∃ t,r b = some t∧K0 ≤ b∧t.blk < w.heap.size∧sz = ks.length∧okK ks = true∧0 < ks.length∧ObjR r w t (.vec ks l own)∧VsOK t lo n ks.length u∧(0 < n→lo + n ≤ l.length)∧(o ≠ 2→lo = 0∧n = l.length):=by
 obtain ⟨t,hr,hk,hvs,hfull⟩:=hv.vs'
 obtain ⟨hlt,hobj⟩:=H.vecAt hat hr
 obtain ⟨hfl,⟨o1,o2,o3⟩,_,o5⟩:=id hobj
 have hsz:sz = ks.length:=by have:=hvs.1;omega
 subst hsz
 refine ⟨t,hr,hk,hlt,rfl,hfl,o2,hobj,hvs,fun hn=>?_,fun h2=>?_⟩
 ·obtain ⟨_,_,h3⟩:=hvs
  rcases h3 with ⟨h3,_⟩ | ⟨_,h3,_⟩
  ·omega
  ·rw [o3] at h3;exact Nat.le_of_mul_le_mul_right h3 o2
 ·obtain ⟨h3,h4⟩:=hfull h2
  rw [h4] at o3
  exact ⟨h3,Nat.eq_of_mul_eq_mul_right o2 o3⟩
theorem listN_some {h:Heap} {x:Value} {L:Lst} (hs:listN h x = some L):∃ b o lo n sz l own,x = .slice (some ⟨b,o,some lo⟩) n sz∧h.at b = .vec L.ks l own∧((o = 2∧L.l = (l.drop lo).take n) ∨ (o ≠ 2∧L.l = l)):=by
 unfold listN at hs
 split at hs
 ·rename_i b o lo n sz
  split at hs
  ·rename_i ks l own hat
   split at hs
   ·cases hs;exact ⟨b,2,lo,n,sz,l,own,rfl,hat,.inl ⟨rfl,rfl⟩⟩
   ·rename_i hne
    cases hs;exact ⟨b,o,lo,n,sz,l,own,rfl,hat,.inr ⟨fun e=>hne e,rfl⟩⟩
  ·cases hs
 ·cases hs
theorem listOf_N {h:Heap} {x:Value} {L:Lst} (hs:listOf h x = some L):listN h x = some L∧flatK L.ks = true:=by
 unfold listOf at hs
 split at hs
 ·rename_i L' h1
  split at hs
  ·rename_i hf;cases hs;exact ⟨h1,hf⟩
  ·cases hs
 ·cases hs
theorem listN_el {r:Ren} {h:Heap} {w:World} (H:HR G GB r h w) {x u:Value} {L:Lst} (hs:listN h x = some L) (hv:VR r x u) :
  okK L.ks = true∧0 < L.ks.length∧∃ t lo,VsOK t lo L.l.length L.ks.length u∧t.blk < w.heap.size∧((∀ k,t.inn k→k < w.heap.size)∧∀ b o lo n sz,x = .slice (some ⟨b,o,some lo⟩) n sz→r b = some t)∧(0 < L.l.length→∀ (i:Nat) (y:Tup L.ks),L.l[i]? = some y→RowIn t.inn w L.ks y fun j=>w.cell? ⟨t.blk,t.off + (lo + i) * L.ks.length + j,none⟩):=by
 obtain ⟨b,o,lo,n,sz,l,own,rfl,hat,hL⟩:=listN_some hs
 obtain ⟨ks,Ll⟩:=L
 simp only at hat hL ⊢
 obtain ⟨t,hr,hk,hlt,rfl,hfl,hpos,⟨_,⟨o1,o2,o3⟩,_,o5⟩,hvs,hle,hfull⟩:=shows H hv hat
 have hin:(∀ k,t.inn k→k < w.heap.size)∧∀ b' o' lo' n' sz',(.slice (some ⟨b,o,some lo⟩) n ks.length:Value) = .slice (some ⟨b',o',some lo'⟩) n' sz'→r b' = some t:=⟨fun k hk=>(H.frz b t (by rw [hat];rfl) hr k hk).1,fun b' o' lo' n' sz' e=>by cases e;exact hr⟩
 have key:∀ (i:Nat) (y:Tup ks),l[lo + i]? = some y→RowIn t.inn w ks y fun j=>w.cell? ⟨t.blk,t.off + (lo + i) * ks.length + j,none⟩:=fun i y hy=>
  (o5 (by have:=(List.getElem?_eq_some_iff.1 hy).1;omega)).2.1 (lo + i) y hy
 clear hs
 rcases hL with ⟨h2,hLl⟩ | ⟨h2,hLl⟩
 ·rw [hLl]
  have hlen:((l.drop lo).take n).length = n:=by
   rcases Nat.eq_zero_or_pos n with e | e
   ·subst e;simp
   ·have:=hle e;simp;omega
  refine ⟨hfl,hpos,t,lo,by rw [hlen];exact hvs,hlt,hin,fun _ i y hy=>key i y ?_⟩
  have hi:=(List.getElem?_eq_some_iff.1 hy).1
  rw [hlen] at hi
  rw [List.getElem?_take_of_lt hi,List.getElem?_drop] at hy
  exact hy
 ·rw [hLl]
  obtain ⟨rfl,rfl⟩:=hfull h2
  exact ⟨hfl,hpos,t,0,hvs,hlt,hin,fun _ i y hy=>key i y (by simpa using hy)⟩
theorem list_el {r:Ren} {h:Heap} {w:World} (H:HR G GB r h w) {x u:Value} {L:Lst} (hs:listOf h x = some L) (hv:VR r x u) :
  flatK L.ks = true∧0 < L.ks.length∧∃ t lo,VsOK t lo L.l.length L.ks.length u∧t.blk < w.heap.size∧(0 < L.l.length→∀ (i:Nat) (y:Tup L.ks),L.l[i]? = some y→∀ (j:Nat) (c:Value),(toVs L.ks y)[j]? = some c→w.cell? ⟨t.blk,t.off + (lo + i) * L.ks.length + j,none⟩ = some c):=by
 obtain ⟨hn,hf⟩:=listOf_N hs
 obtain ⟨_,hpos,t,lo,a,b,_,c⟩:=listN_el H hn hv
 exact ⟨hf,hpos,t,lo,a,b,fun hl i y hy=>(c hl i y hy).vals hf⟩
theorem src_list {r:Ren} {h:Heap} {w:World} (H:HR G GB r h w) {x u:Value} {L:Lst} (hs:listOf h x = some L) (hv:VR r x u):flatK L.ks = true∧0 < L.ks.length∧∃ us,Src w no L.ks L.l u us:=by
 obtain ⟨hfl,hpos,t,lo,⟨_,_,hvs⟩,_,hel⟩:=list_el H hs hv
 obtain ⟨ks,l⟩:=L
 simp only at *
 refine ⟨hfl,hpos,?_⟩
 rcases hvs with ⟨h0,hE,_⟩ | ⟨hn,hle,cap,⟨hc1,_⟩,hc2,rfl⟩
 ·have:l = []:=List.length_eq_zero_iff.1 h0
  subst this
  exact ⟨[],by simp,fun _=>hE.elim (fun h=>⟨_,_,h⟩) fun ⟨a,c,h⟩=>⟨_,_,h⟩,fun h=>by simp at h,fun u hu=>by simp at hu,fun i x hx=>by simp at hx⟩
 ·have hcell:∀ q,q < l.length * ks.length→∃ v,w.cell? ⟨t.blk,t.off + lo * ks.length + q,none⟩ = some v∧Am.scal v = true:=fun q hq=>by
   have hi:q / ks.length < l.length:=Nat.div_lt_of_lt_mul (by rw [Nat.mul_comm];exact hq)
   have hj:q % ks.length < (toVs ks (nth l (q / ks.length))).length:=by rw [toVs_len];exact Nat.mod_lt _ hpos
   refine ⟨(toVs ks (nth l (q / ks.length)))[q % ks.length],?_,toVs_scal hfl _ _ (List.getElem_mem _)⟩
   rw [← hel hn _ _ (nth_get hi) (q % ks.length) _ (List.getElem?_eq_getElem hj)]
   congr 2
   rw [Nat.add_mul]
   have:=Nat.div_add_mod q ks.length
   rw [Nat.mul_comm] at this
   omega
  have hget:∀ q v,((List.range (l.length * ks.length)).map fun q=>(w.cell? ⟨t.blk,t.off + lo * ks.length + q,none⟩).getD undef)[q]? = some v→w.cell? ⟨t.blk,t.off + lo * ks.length + q,none⟩ = some v∧Am.scal v = true:=fun q v hq=>by
   have hl:=(List.getElem?_eq_some_iff.1 hq).1
   simp at hl
   obtain ⟨v',h1,h2⟩:=hcell q hl
   simp [hl,h1] at hq
   subst hq
   exact ⟨h1,h2⟩
  refine ⟨(List.range (l.length * ks.length)).map fun q=>(w.cell? ⟨t.blk,t.off + lo * ks.length + q,none⟩).getD undef,by simp,fun h=>by omega,fun _=>⟨_,cap,rfl,fun j y hj=>?_⟩,fun u hu=>?_,ElemsAt.of_vals hfl fun i x hx j c hc=>?_⟩
  ·have hadd:(⟨t.blk,t.off + lo * ks.length,none⟩:Addr).add j = ⟨t.blk,t.off + lo * ks.length + j,none⟩:=addr_add ..
   rw [hadd];exact (hget j y hj).1
  ·obtain ⟨j,hj⟩:=List.getElem?_of_mem hu
   exact scal_one (hget j u hj).2
  ·have hj:j < ks.length:=by rw [← toVs_len ks x];exact (List.getElem?_eq_some_iff.1 hc).1
   have hi:=(List.getElem?_eq_some_iff.1 hx).1
   have hq:i * ks.length + j < l.length * ks.length:=by
    have:(i + 1) * ks.length ≤ l.length * ks.length:=Nat.mul_le_mul_right _ hi
    rw [Nat.succ_mul] at this;omega
   have h3:=hel hn i x hx j c hc
   have e:t.off + (lo + i) * ks.length + j = t.off + lo * ks.length + (i * ks.length + j):=by rw [Nat.add_mul];omega
   rw [e] at h3
   simp [hq,h3]
theorem ElemsAt.cat {I:Nat→Prop} {w:World} {ks:List Kd} {l xs:List (Tup ks)} {f f' f2:Nat→Option Value} (h1:ElemsAt I w ks l f) (h2:ElemsAt I w ks xs f')
  (k1:∀ q,q < l.length * ks.length→f2 q = f q) (k2:∀ q,q < xs.length * ks.length→f2 (l.length * ks.length + q) = f' q):ElemsAt I w ks (l++xs) f2:=fun i x hx=>by
 by_cases hn:i < l.length
 ·rw [List.getElem?_append_left hn] at hx
  have:(i + 1) * ks.length ≤ l.length * ks.length:=Nat.mul_le_mul_right _ hn
  rw [Nat.succ_mul] at this
  exact (h1 i x hx).congr fun j hj=>k1 _ (by omega)
 ·obtain ⟨i',rfl⟩:∃ i',i = l.length + i':=⟨i - l.length,by omega⟩
  rw [List.getElem?_append_right (by omega),Nat.add_sub_cancel_left] at hx
  have hi:=(List.getElem?_eq_some_iff.1 hx).1
  have:(i' + 1) * ks.length ≤ xs.length * ks.length:=Nat.mul_le_mul_right _ hi
  rw [Nat.succ_mul] at this
  refine (h2 i' x hx).congr fun j hj=>?_
  rw [Nat.add_mul,Nat.add_assoc,k2 _ (by omega)]
theorem setAt_get {α:Type} {l xs:List α} {o:Nat} (h:o + xs.length ≤ l.length) (j:Nat) :
  (setAt l o xs)[j]? = if j < o then l[j]? else if j < o + xs.length then xs[j - o]? else l[j]?:=by
 unfold setAt
 by_cases h1:j < o
 ·rw [List.getElem?_append_left (by simp;omega),if_pos h1,List.getElem?_take_of_lt h1]
 ·rw [if_neg h1,List.getElem?_append_right (by simp;omega)]
  have hl:(l.take o).length = o:=by simp;omega
  rw [hl]
  by_cases h2:j < o + xs.length
  ·rw [if_pos h2,List.getElem?_append_left (by omega)]
  ·rw [if_neg h2,List.getElem?_append_right (by omega),List.getElem?_drop]
   congr 1;omega
theorem setAt_len {α:Type} {l xs:List α} {o:Nat} (h:o + xs.length ≤ l.length):(setAt l o xs).length = l.length:=by
 unfold setAt;simp;omega
theorem setAt_nil {α:Type} (l:List α) (o:Nat):setAt l o [] = l:=by simp [setAt]
theorem put_at {h:Heap} {b:Nat} {o:AObj} (ha:h.at b = o) (hal:o.alive = true):h.put b o = h:=by
 obtain ⟨k1,k2⟩:=at_lt (h:=h) (b:=b) (by rw [ha];exact hal)
 rw [put_ge k1]
 rw [at_ge k1] at ha
 subst ha
 have hl:b - K0 < h.length:=by omega
 simp [List.getD_eq_getElem?_getD,hl]
theorem HR.writeL {r:Ren} {h:Heap} {w:World} (H:HR G GB r h w) {b:Nat} {ks:List Kd} {l:List (Tup ks)} (hf:flatK ks = true) (hat:h.at b = .vec ks l true) {t:Tgt} (hr:r b = some t) {lo:Nat} {xs:List (Tup ks)} {us:List Value}
  (hul:us.length = xs.length * ks.length) (hel:ElemsAt no w ks xs fun q=>us[q]?) (hx:0 < xs.length) (hfit:lo + xs.length ≤ l.length) :
  ∃ arr e,w.heap[t.blk]? = some (.cells arr e (0,0))∧t.off + lo * ks.length + us.length ≤ arr.size ∧
   HR G GB r (h.put b (.vec ks (setAt l lo xs) true)) (w.setRow t.blk (arr.toList.take (t.off + lo * ks.length)++us++arr.toList.drop (t.off + lo * ks.length + us.length)).toArray) ∧
   Step r h w r (h.put b (.vec ks (setAt l lo xs) true)) (w.setRow t.blk (arr.toList.take (t.off + lo * ks.length)++us++arr.toList.drop (t.off + lo * ks.length + us.length)).toArray):=by
 obtain ⟨hlt,hfl,o1,o2,o3⟩:=H.vecAt hat hr
 obtain ⟨p1,p2,p3⟩:=o3 (by omega)
 obtain ⟨arr,e,hb,hsz⟩:=p3 rfl
 have hmul:(lo + xs.length) * ks.length ≤ l.length * ks.length:=Nat.mul_le_mul_right _ hfit
 rw [Nat.add_mul] at hmul
 have hfit':t.off + lo * ks.length + us.length ≤ arr.size:=by omega
 refine ⟨arr,e,hb,hfit',?_⟩
 have hown:(h.at b).owned = true:=by rw [hat];simp [AObj.owned,Nat.blt_eq];omega
 generalize hO:t.off + lo * ks.length = O at *
 have hsize:((arr.toList.take O++us++arr.toList.drop (O + us.length)).toArray).size = arr.size:=by simp;omega
 have hnew:=setRow_heap w t.blk arr (arr.toList.take O++us++arr.toList.drop (O + us.length)).toArray e (0,0) hb
 have hcell:∀ k,(w.setRow t.blk (arr.toList.take O++us++arr.toList.drop (O + us.length)).toArray).cell? ⟨t.blk,k,none⟩ =
   if k < O then w.cell? ⟨t.blk,k,none⟩ else if k < O + us.length then us[k - O]? else w.cell? ⟨t.blk,k,none⟩:=fun k=>by
  have hold:w.cell? ⟨t.blk,k,none⟩ = arr.toList[k]?:=by simp [World.cell?,hb]
  have h1:(w.setRow t.blk (arr.toList.take O++us++arr.toList.drop (O + us.length)).toArray).cell? ⟨t.blk,k,none⟩ = (arr.toList.take O++us++arr.toList.drop (O + us.length))[k]?:=by
   simp only [World.cell?,hnew];simp
  have hs:=splice_get (cells:=arr.toList) (vs:=us) (o:=O) (by simpa using hfit') k
  simp only [splice,← List.append_assoc] at hs
  rw [h1,hs,hold]
 have hlen:=setAt_len hfit
 have hu:=H.upd (b:=b) (t:=t) (w':=w.setRow t.blk (arr.toList.take O++us++arr.toList.drop (O + us.length)).toArray) hown hr
  (.vec ks (setAt l lo xs) true) rfl rfl rfl (by simp [World.setRow]) (fun k hk=>setRow_other w t.blk k _ hk)
  ⟨hfl,by rw [hlen];exact o1,by rw [hlen];exact o2,fun _=>⟨by rw [hlen];exact p1,fun k x hx=>?_,fun _=>⟨_,e,hnew,by rw [hsize,hsz]⟩⟩⟩ (by rw [hat];simp [AObj.mate])
 ·rw [hat] at hu;exact hu
 ·refine RowIn.of_vals hf fun j v hv=>?_
  have hj:j < ks.length:=by rw [← toVs_len ks x];exact (List.getElem?_eq_some_iff.1 hv).1
  rw [setAt_get hfit] at hx
  rw [hcell]
  have hk1:(k + 1) * ks.length = k * ks.length + ks.length:=Nat.succ_mul ..
  by_cases e1:k < lo
  ·rw [if_pos e1] at hx
   have:(k + 1) * ks.length ≤ lo * ks.length:=Nat.mul_le_mul_right _ e1
   rw [if_pos (by omega)]
   exact (p2 k x hx).vals hf j v hv
  ·rw [if_neg e1] at hx
   have:lo * ks.length ≤ k * ks.length:=Nat.mul_le_mul_right _ (by omega)
   rw [if_neg (by omega)]
   by_cases e2:k < lo + xs.length
   ·rw [if_pos e2] at hx
    have h2:=(hel (k - lo) x hx).vals hf j v hv
    have h3:k * ks.length = lo * ks.length + (k - lo) * ks.length:=by rw [← Nat.add_mul];congr 1;omega
    have h4:(k - lo + 1) * ks.length ≤ xs.length * ks.length:=Nat.mul_le_mul_right _ (by omega)
    rw [Nat.succ_mul] at h4
    rw [if_pos (by omega),← h2]
    congr 1;omega
   ·rw [if_neg e2] at hx
    have:(lo + xs.length) * ks.length ≤ k * ks.length:=Nat.mul_le_mul_right _ (by omega)
    rw [Nat.add_mul] at this
    rw [if_neg (by omega)]
    exact (p2 k x hx).vals hf j v hv
section ops
variable {o:Oper} {ρA:Operand→Value} {h h':Heap} {v:Value}
theorem append_part {t e:TypeId} {z:TypeInfo} {r:Ren} {w:World} {ty':TypeId} (H:HR G GB r h w) (hu:P.underlying t = some (.slice e)) (hi:P.info? e = some z)
  {s x:Value} {b lo n:Nat} {ks:List Kd} {l xs:List (Tup ks)} (hat:h.at b = .vec ks l true) (hs:VR r (.slice (some ⟨b,2,some lo⟩) n z.size) s) {us:List Value} (S:Src w no ks xs x us) (hf:flatK ks = true)
  (hg:lo + n + xs.length ≤ l.length) :
  ∃ u w',(Builtin.append_ #[t,t] ty' #[s,x]).run P w = .ok u w'∧Step r h w r (h.put b (.vec ks (setAt l (lo + n) xs) true)) w'∧HR G GB r (h.put b (.vec ks (setAt l (lo + n) xs) true)) w' ∧
   VR r (.slice (some ⟨b,2,some lo⟩) (n + xs.length) z.size) u:=by
 obtain ⟨tt,hr,hk,hlt,hsz,hfl,hzp,⟨_,⟨o1,o2,o3⟩,o4,o5⟩,hvs,hle,_⟩:=shows H hs hat
 obtain ⟨q1,q2,q3⟩:=hvs
 rcases Nat.eq_zero_or_pos xs.length with hm | hm
 ·obtain ⟨ad,c,rfl⟩:=S.none hm
  have hx0:xs = []:=List.length_eq_zero_iff.1 hm
  subst hx0
  have hse:∃ bs c',s = .slice bs n c'∧n ≤ c':=by
   rcases q3 with ⟨rfl,rfl | ⟨a,c,rfl⟩,_⟩ | ⟨_,_,cap,⟨h1,_⟩,_,rfl⟩
   ·exact ⟨_,_,rfl,Nat.le_refl _⟩
   ·exact ⟨_,_,rfl,by omega⟩
   ·exact ⟨_,_,rfl,h1⟩
  obtain ⟨bs,c',rfl,hkc⟩:=hse
  rw [setAt_nil,put_at hat rfl]
  exact ⟨_,_,run_append_nothing w t ty' e z hu hi bs n c' ad c hkc,.refl ..,H,hs⟩
 ·obtain ⟨ad,c,rfl,hus⟩:=S.some hm
  have hg2:(lo + n + xs.length) * ks.length ≤ tt.len:=by rw [o3];exact Nat.mul_le_mul_right _ hg
  have hpos:0 < xs.length * ks.length:=Nat.mul_pos hm hzp
  have hg3:(lo + n + xs.length) * ks.length = (lo + n) * ks.length + xs.length * ks.length:=Nat.add_mul ..
  obtain ⟨cap,rfl,hc1,hc2⟩:∃ cap,s = .slice (some ⟨tt.blk,tt.off + lo * ks.length,none⟩) n cap∧tt.len ≤ (lo + cap) * ks.length∧tt.off + (lo + cap) * ks.length ≤ tt.lim:=by
   rcases q3 with ⟨rfl,_,hP⟩ | ⟨_,_,cap,⟨h1,h2⟩,h3,h4⟩
   ·exact hP (by rw [Nat.add_zero] at hg2 hg3;omega)
   ·exact ⟨cap,h4,h2,h3⟩
  have hroom:n + xs.length ≤ cap:=by
   have:(lo + n + xs.length) * ks.length ≤ (lo + cap) * ks.length:=Nat.le_trans hg2 hc1
   have:=Nat.le_of_mul_le_mul_right this hzp
   omega
  obtain ⟨arr,e',hblk,hfit,a1,a2⟩:=H.writeL hf hat hr S.len S.el hm hg
  have e1:tt.off + (lo + n) * ks.length = tt.off + lo * ks.length + n * z.size:=by rw [Nat.add_mul,hsz];omega
  rw [e1] at hfit a1 a2
  have hr2:=run_append_room' (P:=P) w t ty' e z hu hi tt.blk (tt.off + lo * ks.length) n cap e' arr hblk ad xs.length c us (by rw [S.len,hsz]) hus S.one hroom hfit
  refine ⟨_,_,hr2,a2,a1,.sub _ _ _ _ tt _ hr hk ⟨by omega,by omega,.inr ⟨by omega,?_,cap,⟨hroom,by rw [hsz];exact hc1⟩,by rw [hsz];exact hc2,by rw [hsz]⟩⟩⟩
  rw [hsz,← Nat.add_assoc];exact hg2
theorem append_list {t e:TypeId} {z:TypeInfo} {zv:Value} {r:Ren} {w:World} {ty':TypeId} (H:HR G GB r h w) (hu:P.underlying t = some (.slice e)) (hi:P.info? e = some z) (hz:z.zero = some zv) (hzs:zv.cells.size = z.size) (hzp:0 < z.size)
  {s x:Value} {b n:Nat} {ks:List Kd} {l xs:List (Tup ks)} (hat:h.at b = .vec ks l true) (hs:VR r (.slice (some ⟨b,1,some 0⟩) n z.size) s) {us:List Value} {I:Nat→Prop} (S:Src w I ks xs x us)
  {hp:Heap} (hsub:Sub r h hp) (hpl:h.length = hp.length) (hI:∀ k,I k→k < w.heap.size∧¬ Owned r h k∧Mine r hp k) (hb1:(l++xs).length * z.bytes ≤ 1000000000000) (hb2:(l++xs).length ≤ 1000000000000) :
  ∃ r' u w',(Builtin.append_ #[t,t] ty' #[s,x]).run P w = .ok u w'∧Step r hp w r' (h.put b .dead++[.vec ks (l++xs) true]) w'∧HR G GB r' (h.put b .dead++[.vec ks (l++xs) true]) w' ∧
   VR r' (.slice (some ⟨K0 + h.length,1,some 0⟩) (l++xs).length z.size) u:=by
 obtain ⟨tt,hr,hk,q1,q2,q3,q4⟩:=hs.as'
 obtain ⟨hlt,hfl,⟨o1,o2,o3⟩,o4,o5⟩:=H.vecAt hat hr
 have hsz:ks.length = z.size:=by omega
 rw [← hsz] at q1 q2 q3 q4 hs ⊢
 rw [← hsz] at hzp hzs
 have hNn:n = l.length:=by
  rw [q3] at o3
  exact (Nat.eq_of_mul_eq_mul_right hzp o3)
 subst hNn
 have hlx:(l++xs).length = l.length + xs.length:=List.length_append
 generalize hN:l.length = N at *
 generalize hM:xs.length = m at *
 have hdl:(h.put b .dead).length = h.length:=put_length ..
 have Hk:=H.kill (some b)
 rw [← put_kill] at Hk
 have hps:=hsub.step (w:=w) hpl
 have hkp:Sub r (h.put b .dead) hp:=(Sub.of fun b' hb'=>by
  rw [put_kill,at_kill] at hb' ⊢
  split at hb'
  ·simp [AObj.alive] at hb'
  ·rename_i h1;rw [if_neg h1]).trans hsub
 have tI:∀ k,0 < l.length→tt.inn k→k < w.heap.size∧¬ Owned r h k∧Mine r hp k:=fun k hl hk=>
  let ⟨x,y⟩:=H.frz b tt (by rw [hat];rfl) hr k hk;⟨x,y,hsub.2 k ⟨b,tt,by rw [hat];simp [AObj.owned,Nat.blt_eq];omega,hr,.inr hk⟩⟩
 have hvr:∀ {r':Ren} {t':Tgt} {u:Value},r' (K0 + h.length) = some t'→AsOK t' (N + m) ks.length u→VR r' (.slice (some ⟨K0 + h.length,1,some 0⟩) (l++xs).length ks.length) u:=fun h1 h2=>by
  rw [hlx];exact .asl _ _ _ _ _ h1 (by omega) h2
 rcases Nat.eq_zero_or_pos m with rfl | hm
 ·-- nothing is appended
  obtain ⟨ad,c,rfl⟩:=S.none hM
  have hx0:xs = []:=List.length_eq_zero_iff.1 hM
  subst hx0
  have hse:∃ bs k c',s = .slice bs k c'∧k ≤ c':=by
   rcases q4 with ⟨_,rfl | ⟨a,rfl⟩⟩ | ⟨_,cap,h1,_,rfl⟩
   ·exact ⟨_,_,_,rfl,Nat.le_refl _⟩
   ·exact ⟨_,_,_,rfl,Nat.le_refl _⟩
   ·exact ⟨_,_,_,rfl,h1⟩
  obtain ⟨bs,k,c',rfl,hkc⟩:=hse
  have hrun:=run_append_nothing w t ty' e z hu hi bs k c' ad c hkc
  rcases Nat.eq_zero_or_pos N with rfl | hNp
  ·obtain ⟨a1,a2,_⟩:=Hk.1.nothing hfl hzp (l++[]) (by simpa using hN) true
   rw [hdl] at a1 a2
   rcases q4 with ⟨_,q4⟩ | ⟨h1,_⟩
   ·exact ⟨_,_,_,hrun,(hps.trans Hk.2).trans a2,a1,hvr (Ren.put_self ..) ⟨rfl,hzp,by simp,.inl ⟨rfl,q4⟩⟩⟩
   ·omega
  ·rcases q4 with ⟨h1,_⟩ | ⟨_,q4⟩
   ·omega
   ·obtain ⟨p1,p2,p3⟩:=o5 (by omega)
    obtain ⟨a1,a2⟩:=H.retake (t2:=tt) (w':=w) (by rw [hat];simp [AObj.owned,Nat.blt_eq];omega) (by rw [hat];rfl) hr (.vec ks (l++[]) true) rfl rfl rfl rfl rfl (fun _ _=>rfl)
     ⟨hfl,⟨o1,o2,by simpa [hN] using o3⟩,by simpa [hN] using o4,fun _=>⟨by simpa [hN] using p1,by simpa using p2,fun _=>p3 rfl⟩⟩
     hsub hpl (fun k hk=>tI k (by omega) hk)
    exact ⟨_,_,_,hrun,a2,a1,hvr (Ren.put_self ..) ⟨q1,q2,by simpa using q3,.inr ⟨hNp,by simpa using q4⟩⟩⟩
 ·obtain ⟨ad,c,hxe,hus⟩:=S.some (by omega)
  rw [hM] at hxe
  subst hxe
  rw [hlx] at hb1 hb2
  have hfitb:∀ cap,cap < N + m→Builtin.nextslicecap (N + m) cap * z.bytes ≤ 281474976710656:=fun cap hc=>growslice_fits (by omega) (by omega)
  have hul:=S.len
  rw [hM] at hul
  have hsum:(N + m) * ks.length = N * ks.length + m * ks.length:=Nat.add_mul ..
  -- fresh blocks
  have fresh:∀ (olds:List Value) (cap:Nat) (s:Value),olds.length = N * ks.length→ElemsAt (fun k=>I k ∨ (0 < l.length∧tt.inn k)) w ks l (fun q=>olds[q]?) →
    (Builtin.append_ #[t,t] ty' #[s,.slice (some ad) m c]).run P w = .ok (.slice (some ⟨w.heap.size,0,none⟩) (N + m) (grownCap w (N + m) cap e)) (w.drew.alloc (.cells (olds.toArray++us.toArray++Builtin.zeroCells zv.cells (grownCap w (N + m) cap e - (N + m))) e)) →
    ∃ r' u w',(Builtin.append_ #[t,t] ty' #[s,.slice (some ad) m c]).run P w = .ok u w'∧Step r hp w r' (h.put b .dead++[.vec ks (l++xs) true]) w'∧HR G GB r' (h.put b .dead++[.vec ks (l++xs) true]) w' ∧
     VR r' (.slice (some ⟨K0 + h.length,1,some 0⟩) (l++xs).length ks.length) u:=fun olds cap s hol hel hrun=>by
   have Hd:=Hk.1.drew (w.drawn + 1)
   have hcap:=grownCap_ge w (N + m) cap e
   have hcat:ElemsAt (fun k=>I k ∨ (0 < l.length∧tt.inn k)) w ks (l++xs) (fun q=>(olds.toArray++us.toArray++Builtin.zeroCells zv.cells (grownCap w (N + m) cap e - (N + m)))[q]?):=
    hel.cat (S.el.mono (fun _ h=>.inl h) fun _ _=>rfl) (fun q hq=>by
     rw [hN] at hq
     show (olds.toArray++us.toArray++_)[q]? = _
     rw [Array.getElem?_append_left (by simp;omega),Array.getElem?_append_left (by simp;omega)];simp) (fun q hq=>by
     rw [hM] at hq
     rw [hN]
     show (olds.toArray++us.toArray++_)[N * ks.length + q]? = _
     rw [Array.getElem?_append_left (by simp;omega),Array.getElem?_append_right (by simp;omega)];simp [hol])
   obtain ⟨t',⟨b1,b2,b3⟩,a1,a2⟩:=Hd.newVec hfl hzp (l++xs) (olds.toArray++us.toArray++Builtin.zeroCells zv.cells (grownCap w (N + m) cap e - (N + m))) e (by rw [hlx];simp only [Array.size_append,List.size_toArray,hol,hul];omega)
    (I:=fun k=>I k ∨ (0 < l.length∧tt.inn k)) (hcat.mono (w:=w) (w':={ w with drawn:=w.drawn + 1 }) (fun _ h=>h) fun _ _=>rfl) hkp (hdl.trans hpl) (fun k hk=>by
     have hx:k < w.heap.size∧¬ Owned r h k∧Mine r hp k:=hk.elim (hI k) fun x=>tI k x.1 x.2
     exact ⟨hx.1,fun ho=>hx.2.1 ((Hk.2).own k hx.1 ho),hx.2.2⟩)
   rw [hlx] at b2 b3
   obtain ⟨b3,b4,b5⟩:=b3 (by omega)
   rw [hdl] at a1 a2
   refine ⟨_,_,_,hrun,(Step.drew r hp w (w.drawn + 1)).trans a2,a1,hvr (Ren.put_self ..) ⟨b1,hzp,b2,.inr ⟨by omega,_,hcap,?_,?_⟩⟩⟩
   ·rw [b4,b5]
    simp only [Array.size_append,List.size_toArray,size_zeroCells,hzs,hol,hul,Nat.zero_add]
    rw [← Nat.add_mul,← Nat.add_mul]
    exact Nat.mul_le_mul_right _ (by omega)
   ·rw [b3,b4]
  rcases q4 with ⟨rfl,rfl | ⟨a,rfl⟩⟩ | ⟨hNp,cap,h1,h2,rfl⟩
  ·have hl0:l = []:=List.length_eq_zero_iff.1 hN
   have hr2:=run_append_nil (P:=P) w t ty' e z zv hu hi hz ad m c us (by rw [hul,hsz]) hus hm (by omega) (by simp only [Nat.zero_add] at hb1;omega)
   exact fresh [] 0 (.slice none 0 0) (by simp) (fun i x hx=>by rw [hl0] at hx;simp at hx) (by simpa using hr2)
  ·have hl0:l = []:=List.length_eq_zero_iff.1 hN
   have hr2:=run_append_grow (P:=P) w t ty' e z zv hu hi hz a 0 0 [] (by simp) (fun j u hj=>by simp at hj) ad m c us (by rw [hul,hsz]) hus (by omega) (by omega) (by simpa using hfitb 0 (by omega))
   exact fresh [] 0 (.slice (some a) 0 0) (by simp) (fun i x hx=>by rw [hl0] at hx;simp at hx) (by simpa using hr2)
  ·obtain ⟨p1,p2,p3⟩:=o5 (by omega)
   obtain ⟨arr,e',hblk,hasz⟩:=p3 rfl
   have hoe:ElemsAt (fun k=>I k ∨ (0 < l.length∧tt.inn k)) w ks l (fun q=>w.cell? ⟨tt.blk,tt.off + q,none⟩):=fun i x hx=>
    ((p2 i x hx).mono (fun k hk=>.inr ⟨by omega,hk⟩) fun _ _=>rfl).congr fun j _=>by rw [Nat.add_assoc]
   by_cases hroom:N + m ≤ cap
   ·-- in place
    have hmul:(N + m) * ks.length ≤ cap * ks.length:=Nat.mul_le_mul_right _ hroom
    have hfit:tt.off + N * ks.length + us.length ≤ arr.size:=by omega
    have hr2:=run_append_room' (P:=P) w t ty' e z hu hi tt.blk tt.off N cap e' arr hblk ad m c us (by rw [hul,hsz]) hus S.one hroom (by rw [← hsz];exact hfit)
    rw [← hsz] at hr2
    have hnew:=setRow_heap w tt.blk arr (arr.toList.take (tt.off + N * ks.length)++us++arr.toList.drop (tt.off + N * ks.length + us.length)).toArray e' (0,0) hblk
    have hcell:∀ k,(w.setRow tt.blk (arr.toList.take (tt.off + N * ks.length)++us++arr.toList.drop (tt.off + N * ks.length + us.length)).toArray).cell? ⟨tt.blk,tt.off + k,none⟩ =
      if k < N * ks.length then w.cell? ⟨tt.blk,tt.off + k,none⟩ else if k < N * ks.length + us.length then us[k - N * ks.length]? else w.cell? ⟨tt.blk,tt.off + k,none⟩:=fun k=>by
     have hold:w.cell? ⟨tt.blk,tt.off + k,none⟩ = arr.toList[tt.off + k]?:=by simp [World.cell?,hblk]
     have h1:(w.setRow tt.blk (arr.toList.take (tt.off + N * ks.length)++us++arr.toList.drop (tt.off + N * ks.length + us.length)).toArray).cell? ⟨tt.blk,tt.off + k,none⟩ =
       (arr.toList.take (tt.off + N * ks.length)++us++arr.toList.drop (tt.off + N * ks.length + us.length))[tt.off + k]?:=by
      simp only [World.cell?,hnew];simp
     have hs':=splice_get (cells:=arr.toList) (vs:=us) (o:=tt.off + N * ks.length) (by simpa using hfit) (tt.off + k)
     simp only [splice,← List.append_assoc] at hs'
     rw [h1,hs',hold]
     by_cases c1:k < N * ks.length
     ·rw [if_pos (by omega),if_pos c1]
     ·rw [if_neg (by omega),if_neg c1]
      by_cases c2:k < N * ks.length + us.length
      ·rw [if_pos (by omega),if_pos c2];congr 1;omega
      ·rw [if_neg (by omega),if_neg c2]
    have hsize:((arr.toList.take (tt.off + N * ks.length)++us++arr.toList.drop (tt.off + N * ks.length + us.length)).toArray).size = arr.size:=by simp;omega
    have hel:=hoe.cat (S.el.mono (fun _ h=>.inl h) fun _ _=>rfl) (f2:=fun q=>(w.setRow tt.blk (arr.toList.take (tt.off + N * ks.length)++us++arr.toList.drop (tt.off + N * ks.length + us.length)).toArray).cell? ⟨tt.blk,tt.off + q,none⟩)
     (fun q hq=>by rw [hN] at hq;rw [hcell,if_pos hq]) (fun q hq=>by rw [hM] at hq;rw [hN,hcell,if_neg (by omega),if_pos (by omega)];congr 1;omega)
    obtain ⟨a1,a2⟩:=H.retake (t2:=⟨tt.blk,tt.off,tt.lim,(N + m) * ks.length,ks.length,fun k=>I k ∨ (0 < l.length∧tt.inn k)⟩) (w':=w.setRow tt.blk (arr.toList.take (tt.off + N * ks.length)++us++arr.toList.drop (tt.off + N * ks.length + us.length)).toArray)
     (by rw [hat];simp [AObj.owned,Nat.blt_eq];omega) (by rw [hat];rfl) hr (.vec ks (l++xs) true) rfl rfl rfl rfl (by simp [World.setRow]) (fun k hk=>setRow_other w tt.blk k _ hk)
     ⟨hfl,⟨rfl,hzp,by rw [hlx]⟩,fun h=>by omega,fun _=>⟨by rw [hlx];simp only;omega,fun i x hx=>((hel i x hx).mono (fun _ h=>h) fun k hk=>setRow_other w tt.blk k _ fun ek=>by
      have hx:k < w.heap.size∧¬ Owned r h k∧Mine r hp k:=hk.elim (hI k) fun x=>tI k x.1 x.2
      exact hx.2.1 ⟨b,tt,by rw [hat];simp [AObj.owned,Nat.blt_eq];omega,hr,ek.symm⟩).congr fun j _=>by
      have e1:tt.off + i * ks.length + j = tt.off + (i * ks.length + j):=Nat.add_assoc ..
      simp only
      rw [e1],fun _=>⟨_,e',hnew,by rw [hsize];exact hasz⟩⟩⟩
     hsub hpl (fun k hk=>hk.elim (hI k) fun x=>tI k x.1 x.2)
    exact ⟨_,_,_,hr2,a2,a1,hvr (Ren.put_self ..) ⟨rfl,hzp,rfl,.inr ⟨by omega,cap,hroom,h2,rfl⟩⟩⟩
   ·-- anew
    have holds:∀ q,q < N * ks.length→∃ v,w.cell? ⟨tt.blk,tt.off + q,none⟩ = some v:=fun q hq=>by
     have hi:q / ks.length < l.length:=by rw [hN];exact Nat.div_lt_of_lt_mul (by rw [Nat.mul_comm];exact hq)
     have hj:q % ks.length < (toVs ks (nth l (q / ks.length))).length:=by rw [toVs_len];exact Nat.mod_lt _ hzp
     obtain ⟨u,h3,_⟩:=(hoe _ _ (nth_get hi)).get hfl (q % ks.length) (Nat.mod_lt _ hzp)
     refine ⟨u,?_⟩
     simp only at h3
     rw [← h3]
     congr 2
     have:=Nat.div_add_mod q ks.length
     rw [Nat.mul_comm] at this
     omega
    have hget:∀ q,q < N * ks.length→((List.range (N * ks.length)).map fun q=>(w.cell? ⟨tt.blk,tt.off + q,none⟩).getD undef)[q]? = w.cell? ⟨tt.blk,tt.off + q,none⟩:=fun q hq=>by
     obtain ⟨v,hv⟩:=holds q hq
     simp [hq,hv]
    have hr2:=run_append_grow (P:=P) w t ty' e z zv hu hi hz ⟨tt.blk,tt.off,none⟩ N cap ((List.range (N * ks.length)).map fun q=>(w.cell? ⟨tt.blk,tt.off + q,none⟩).getD undef) (by simp [hsz]) (fun j u hj=>by
     have hl:=(List.getElem?_eq_some_iff.1 hj).1
     simp only [List.length_map,List.length_range] at hl
     rw [hget j hl] at hj
     rw [addr_add];exact hj) ad m c us (by rw [hul,hsz]) hus (by omega) (by omega) (growslice_fits (by omega) (by omega))
    exact fresh _ cap _ (by simp) (fun i x hx=>(hoe i x hx).congr fun j hj=>by
     have hi:=(List.getElem?_eq_some_iff.1 hx).1
     have:(i + 1) * ks.length ≤ N * ks.length:=Nat.mul_le_mul_right _ (by omega)
     rw [Nat.succ_mul] at this
     show ((List.range (N * ks.length)).map fun q=>(w.cell? ⟨tt.blk,tt.off + q,none⟩).getD undef)[i * ks.length + j]? = _
     rw [hget _ (by omega)]) hr2
theorem cond_some {α:Type} {g:Bool} {x y:α} (h:cond g (some x) none = some y):g = true∧x = y:=by
 cases g with
 | true=>simpa using h
 | false=>simp at h
theorem ops_appE {t e:TypeId} {s x:Operand} {z:ATy} (ho:o.op = .call { callee:=.builtin .append,args:=#[s,x],argTypes:=#[t,t] }) (hu:P.underlying t = some (.slice e)) (hi:P.info? e = some z.info)
  (hap:condP (appE z h (ρA s) (ρA x)) = some (v,h')):OpS P G GB o ρA h v h':=fun r a w H R=>by
 have hs:=R s (by simp [ho,Op.operands,Call.operands])
 have hx:=R x (by simp [ho,Op.operands,Call.operands])
 have hrun:∀ u w',(Builtin.append_ #[t,t] o.type #[a.eval s,a.eval x]).run P w = .ok u w'→(execOp a.eval o).run P w = .ok (.value u) w':=fun u w' hr=>by
  simp [execOp,ho,resolve,invoke,builtin,hr]
 cases hz:z.info.zero with
 | none=>unfold appE at hap;simp [hz,condP] at hap
 | some zv=>
   unfold appE at hap
   simp only [appR_eq,lenR_eq] at hap
   simp only [hz] at hap
   split at hap
   ·simp [condP] at hap
   ·rename_i hc
    simp only [Bool.and_eq_true,Nat.beq_eq,Nat.blt_eq] at hc
    obtain ⟨hzs,hzp⟩:=hc
    split at hap
    ·rename_i b n sz hρ
     split at hap
     ·rename_i ks l hat hbeq
      rw [Nat.beq_eq] at hbeq
      subst hbeq
      rw [hρ] at hs
      have hks:ks.length = z.info.size∧okK ks = true:=by
       obtain ⟨tt,hr,hk,q1,q2,q3,q4⟩:=hs.as'
       obtain ⟨hlt,hfl,⟨o1,o2,o3⟩,o4,o5⟩:=H.vecAt hat hr
       exact ⟨by omega,hfl⟩
      split at hap
      ·rename_i L hl
       split at hap
       ·rename_i xs hrc
        obtain ⟨hg,hv⟩:=cond_some hap
        simp only [Bool.and_eq_true,Nat.ble_eq] at hg
        obtain ⟨rfl,rfl⟩:=Prod.mk.inj hv
        obtain ⟨e1,e2⟩:=recast_eq hrc
        obtain ⟨_,_,us,S⟩:=src_list H hl hx
        obtain ⟨Lk,Ll⟩:=L
        simp only at e1 e2 S
        subst e1
        subst e2
        obtain ⟨r',u,w',h1,h2,h3,h4⟩:=append_list (P:=P) (ty':=o.type) H hu hi hz hzs hzp hat hs S (.refl r h) rfl (fun _ h=>h.elim) hg.1 hg.2
        exact ⟨r',u,w',.inl (hrun _ _ h1),h2,h3,h4⟩
       ·simp [condP] at hap
      ·split at hap
       ·rename_i nn hsc
        simp only [condP,cond_true,Option.some.injEq,Prod.mk.injEq] at hap
        obtain ⟨rfl,rfl⟩:=hap
        obtain ⟨us,c,_,_,h3,h4⟩:=sliceCells_some H hsc hx
        rcases h4 with ⟨_,_,ad,c',h5⟩ | ⟨h5,_⟩
        ·obtain ⟨tt,hr,hk,hA⟩:=hs.as'
         have hse:∃ bs c',a.eval s = .slice bs n c'∧n ≤ c':=by
          obtain ⟨_,_,_,q4⟩:=hA
          rcases q4 with ⟨rfl,h | ⟨a,h⟩⟩ | ⟨_,cap,h1,_,h⟩
          ·exact ⟨_,_,h,Nat.le_refl _⟩
          ·exact ⟨_,_,h,Nat.le_refl _⟩
          ·exact ⟨_,_,h,h1⟩
         obtain ⟨bs,c',e1,e2⟩:=hse
         refine ⟨r,_,w,.inl (hrun _ _ (by rw [e1,h5];exact run_append_nothing w t o.type e z.info hu hi bs n c' ad _ e2)),.refl r _ w,H,?_⟩
         rw [← e1];exact hs
        ·omega
       ·rename_i m news hne hsc
        split at hap
        ·rename_i xs hrw
         have hkf:flatK ks = true:=by
          cases m with
          | zero=>exact (hne rfl).elim
          | succ m=>
            simp only [ofRows] at hrw
            split at hrw
            ·rename_i h1 _;exact ofVs_flat h1
            ·cases hrw
         obtain ⟨hg,hv⟩:=cond_some hap
         simp only [Bool.and_eq_true,Nat.ble_eq] at hg
         obtain ⟨rfl,rfl⟩:=Prod.mk.inj hv
         rw [← hks.1] at hsc
         have S:=src_row H hkf hsc hrw hx
         obtain ⟨r',u,w',h1,h2,h3,h4⟩:=append_list (P:=P) (ty':=o.type) H hu hi hz hzs hzp hat hs S (.refl r h) rfl (fun _ h=>h.elim) hg.1 hg.2
         exact ⟨r',u,w',.inl (hrun _ _ h1),h2,h3,h4⟩
        ·simp [condP] at hap
       ·simp [condP] at hap
     ·simp [condP] at hap
    ·rename_i b lo n sz hρ
     split at hap
     ·rename_i ks l hat hbeq
      rw [Nat.beq_eq] at hbeq
      subst hbeq
      rw [hρ] at hs
      split at hap
      ·rename_i L hl
       split at hap
       ·rename_i xs hrc
        obtain ⟨hg,hv⟩:=cond_some hap
        rw [Nat.ble_eq] at hg
        obtain ⟨rfl,rfl⟩:=Prod.mk.inj hv
        obtain ⟨e1,e2⟩:=recast_eq hrc
        obtain ⟨hf,_,us,S⟩:=src_list H hl hx
        obtain ⟨Lk,Ll⟩:=L
        simp only at e1 e2 S hf
        subst e1
        subst e2
        obtain ⟨u,w',h1,h2,h3,h4⟩:=append_part (P:=P) (ty':=o.type) H hu hi hat hs S hf hg
        exact ⟨r,u,w',.inl (hrun _ _ h1),h2,h3,h4⟩
       ·simp [condP] at hap
      ·simp [condP] at hap
     ·simp [condP] at hap
    ·rename_i hρ
     split at hap
     ·rename_i L hl
      split at hap
      ·rename_i hb2
       rw [Nat.beq_eq] at hb2
       obtain ⟨hg,hv⟩:=cond_some hap
       simp only [Bool.and_eq_true,Nat.ble_eq] at hg
       obtain ⟨rfl,rfl⟩:=Prod.mk.inj hv
       rw [hρ] at hs
       have has:=hs.scal_eq rfl
       obtain ⟨hfl,hpos,us,S⟩:=src_list H hl hx
       obtain ⟨ks,l⟩:=L
       simp only at *
       rcases Nat.eq_zero_or_pos l.length with hm | hm
       ·obtain ⟨ad,c,hax⟩:=S.none hm
        obtain ⟨a1,a2,_⟩:=H.nothing (okK_of_flat hfl) hpos l hm true
        refine ⟨_,.slice none 0 0,w,.inl (hrun _ _ (by rw [has,hax];exact run_append_nothing w t o.type e z.info hu hi none 0 0 ad c (Nat.le_refl _))),a2,a1,?_⟩
        rw [hm]
        exact .asl _ _ _ _ _ (Ren.put_self ..) (by omega) ⟨rfl,hpos,by simp,.inl ⟨rfl,.inl rfl⟩⟩
       ·obtain ⟨ad,c,hax,hus⟩:=S.some hm
        have hul:=S.len
        have hr2:=run_append_nil (P:=P) w t o.type e z.info zv hu hi hz ad l.length c us (by rw [hul,hb2]) hus hm (by omega) (by omega)
        have Hd:=H.drew (w.drawn + 1)
        have hcap:=grownCap_ge w l.length 0 e
        obtain ⟨t',⟨b1,b2,b3⟩,a1,a2⟩:=Hd.newVec (okK_of_flat hfl) hpos l (us.toArray++Builtin.zeroCells zv.cells (grownCap w l.length 0 e - l.length)) e (by simp only [Array.size_append,List.size_toArray,hul];omega)
         (I:=no) (ElemsAt.of_vals hfl fun i x hx j v hv=>by
          have hj:j < ks.length:=by rw [← toVs_len ks x];exact (List.getElem?_eq_some_iff.1 hv).1
          have hi:=(List.getElem?_eq_some_iff.1 hx).1
          have:(i + 1) * ks.length ≤ l.length * ks.length:=Nat.mul_le_mul_right _ hi
          rw [Nat.succ_mul] at this
          show (us.toArray++Builtin.zeroCells zv.cells (grownCap w l.length 0 e - l.length))[i * ks.length + j]? = some v
          rw [Array.getElem?_append_left (by simp;omega)]
          simpa using (S.el i x hx).vals hfl j v hv) (.refl r h) rfl (fun _ h=>h.elim)
        obtain ⟨b3,b4,b5⟩:=b3 hm
        refine ⟨_,_,_,.inl (hrun _ _ (by rw [has,hax];exact hr2)),(Step.drew r h w _).trans a2,a1,.asl _ _ _ t' _ (Ren.put_self ..) (by omega) ⟨b1,hpos,b2,.inr ⟨hm,_,hcap,?_,?_⟩⟩⟩
        ·rw [b4,b5]
         simp only [Array.size_append,List.size_toArray,size_zeroCells,hzs,hul,Nat.zero_add]
         rw [← hb2,← Nat.add_mul]
         exact Nat.mul_le_mul_right _ (by omega)
        ·rw [b3,b4]
      ·simp [condP] at hap
     ·simp [condP] at hap
    ·simp [condP] at hap
theorem ops_copyE {t e t2:TypeId} {d x:Operand} {rest:List TypeId} {z:ATy} (ho:o.op = .call { callee:=.builtin .copy,args:=#[d,x],argTypes:=(t :: t2 :: rest).toArray }) (hu:P.underlying t = some (.slice e)) (hi:P.info? e = some z.info)
  (hap:copyE z h (ρA d) (ρA x) = some (v,h')):OpS P G GB o ρA h v h':=fun r a w H R=>by
 have hd:=R d (by simp [ho,Op.operands,Call.operands])
 have hx:=R x (by simp [ho,Op.operands,Call.operands])
 have hrun:∀ u w',(Builtin.copy_ (t :: t2 :: rest).toArray o.type #[a.eval d,a.eval x]).run P w = .ok u w'→(execOp a.eval o).run P w = .ok (.value u) w':=fun u w' hr=>by
  simp [execOp,ho,resolve,invoke,builtin,hr]
 unfold copyE at hap
 split at hap
 ·rename_i b o' lo n sz hρ
  split at hap
  ·rename_i ks l hat hbeq
   rw [Nat.beq_eq] at hbeq
   subst hbeq
   rw [hρ] at hd
   split at hap
   ·rename_i L hl
    split at hap
    ·rename_i xs hrc
     simp only [Option.some.injEq,Prod.mk.injEq] at hap
     obtain ⟨rfl,rfl⟩:=hap
     obtain ⟨e1,e2⟩:=recast_eq hrc
     obtain ⟨hLf,_,us,S⟩:=src_list H hl hx
     obtain ⟨Lk,Ll⟩:=L
     simp only at e1 e2 S hLf
     subst e1
     subst e2
     obtain ⟨tt,hr,hk,hlt,hsz,hfl,hzp,⟨_,⟨o1,o2,o3⟩,o4,o5⟩,hvs,hle,_⟩:=shows H hd hat
     obtain ⟨q1,q2,q3⟩:=hvs
     have hxs:∃ ad2 c2,a.eval x = .slice ad2 xs.length c2∧(xs.length = 0 ∨ ad2.isSome = true):=by
      rcases Nat.eq_zero_or_pos xs.length with hm | hm
      ·obtain ⟨ad,c,e1⟩:=S.none hm
       exact ⟨ad,c,by rw [hm];exact e1,.inl hm⟩
      ·obtain ⟨ad,c,e1,_⟩:=S.some hm
       exact ⟨some ad,c,e1,.inr rfl⟩
     rcases Nat.eq_zero_or_pos (Nat.min xs.length n) with hmin | hmin
     ·rw [hmin]
      simp only [List.take_zero]
      rw [setAt_nil,put_at hat rfl]
      obtain ⟨ad2,c2,e2,e3⟩:=hxs
      have key:∀ (ad:Option Addr) (cap:Nat),(Builtin.copy_ (t :: t2 :: rest).toArray o.type #[.slice ad n cap,.slice ad2 xs.length c2]).run P w = .ok (goInt 0) w:=fun ad cap=>by
       have hf:(Builtin.firstCells z.info.size 0 (.slice ad2 xs.length c2)).run P w = .ok #[] w:=by
        cases ad2 with
        | none=>simp [Builtin.firstCells]
        | some a=>exact run_firstCells_some w z.info.size 0 a xs.length c2 [] (by simp) (fun j v hj=>by simp at hj)
       have hmin':xs.length.min n = 0:=hmin
       cases ad with
       | none=>simp [Builtin.copy_,run_underlying hu,sizeOf,typeInfo,hi,Builtin.lenOf,hmin',hf]
       | some ad=>simp [Builtin.copy_,run_underlying hu,sizeOf,typeInfo,hi,Builtin.lenOf,hmin',hf,storeCells]
      have hds:∃ ad cap,a.eval d = .slice ad n cap:=by
       rcases q3 with ⟨rfl,h | ⟨a,c,h⟩,_⟩ | ⟨_,_,cap,_,_,h⟩
       ·exact ⟨_,_,h⟩
       ·exact ⟨_,_,h⟩
       ·exact ⟨_,_,h⟩
      obtain ⟨ad,cap,e4⟩:=hds
      exact ⟨r,goInt 0,w,.inl (hrun _ _ (by rw [e4,e2];exact key _ _)),.refl r _ w,H,.scal _ rfl⟩
     ·have hn:0 < n:=Nat.lt_of_lt_of_le hmin (Nat.min_le_right _ _)
      have hL:0 < xs.length:=Nat.lt_of_lt_of_le hmin (Nat.min_le_left _ _)
      have hmn:Nat.min xs.length n ≤ n:=Nat.min_le_right _ _
      have hml:Nat.min xs.length n ≤ xs.length:=Nat.min_le_left _ _
      rcases q3 with ⟨h0,_⟩ | ⟨_,hlen,cap,⟨hc1,hc2⟩,hc3,hds⟩
      ·omega
      obtain ⟨ad,c,hax,hus⟩:=S.some hL
      have htl:(xs.take (Nat.min xs.length n)).length = Nat.min xs.length n:=by rw [List.length_take];omega
      have hql:Nat.min xs.length n * Lk.length ≤ us.length:=by rw [S.len];exact Nat.mul_le_mul_right _ hml
      have hul:(us.take (Nat.min xs.length n * Lk.length)).length = Nat.min xs.length n * Lk.length:=by rw [List.length_take];omega
      generalize hq:Nat.min xs.length n = q at *
      obtain ⟨arr,e',hblk,hfit,a1,a2⟩:=H.writeL (lo:=lo) (xs:=xs.take q) (us:=us.take (q * Lk.length)) hLf hat hr (by rw [hul,htl]) (ElemsAt.of_vals hLf fun i x hx j v hv=>by
       have hi:=(List.getElem?_eq_some_iff.1 hx).1
       rw [htl] at hi
       rw [List.getElem?_take_of_lt hi] at hx
       have hj:j < Lk.length:=by rw [← toVs_len Lk x];exact (List.getElem?_eq_some_iff.1 hv).1
       have:(i + 1) * Lk.length ≤ q * Lk.length:=Nat.mul_le_mul_right _ hi
       rw [Nat.succ_mul] at this
       show (us.take (q * Lk.length))[i * Lk.length + j]? = some v
       rw [List.getElem?_take_of_lt (by omega)]
       exact (S.el i x hx).vals hLf j v hv) (by rw [htl];exact hmin) (by rw [htl];have:=hle hn;omega)
      have hr2:=run_copy_some (P:=P) w t o.type e t2 z.info hu hi tt.blk (tt.off + lo * Lk.length) n cap e' arr hblk ad xs.length c (us.take (q * Lk.length)) (by rw [hul,← hsz,← hq]) (fun j u hj=>by
       have hjl:=(List.getElem?_eq_some_iff.1 hj).1
       rw [hul] at hjl
       rw [List.getElem?_take_of_lt hjl] at hj
       exact hus j u hj) (fun u hu=>S.one u (List.mem_of_mem_take hu)) hfit rest
      rw [← hq]
      rw [← hq] at a1 a2 hr2
      exact ⟨r,_,_,.inl (hrun _ _ (by rw [hds,hax];exact hr2)),a2,a1,.scal _ rfl⟩
    ·cases hap
   ·cases hap
  ·cases hap
 ·cases hap
theorem ops_clearE {t e:TypeId} {x:Operand} {z:ATy} (ho:o.op = .call { callee:=.builtin .clear,args:=#[x],argTypes:=#[t] }) (hu:P.underlying t = some (.slice e)) (hi:P.info? e = some z.info)
  (hap:clearE z h (ρA x) = some (v,h')):OpS P G GB o ρA h v h':=fun r a w H R=>by
 have hx:=R x (by simp [ho,Op.operands,Call.operands])
 have hrun:∀ u w',(Builtin.clear_ #[t] o.type #[a.eval x]).run P w = .ok u w'→(execOp a.eval o).run P w = .ok (.value u) w':=fun u w' hr=>by
  simp [execOp,ho,resolve,invoke,builtin,hr]
 have und:VR r undef (.tuple #[]):=.tup _ _ rfl (fun j h=>by simp at h)
 unfold clearE at hap
 split at hap
 ·rename_i b o' lo n sz zv hρ hz
  rw [hρ] at hx
  split at hap
  ·rename_i ks l hat hc
   simp only [Bool.and_eq_true,Nat.beq_eq] at hc
   obtain ⟨⟨rfl,hp⟩,hzs⟩:=hc
   split at hap
   ·rename_i x0 hof
    simp only [Option.some.injEq,Prod.mk.injEq] at hap
    obtain ⟨rfl,rfl⟩:=hap
    have hto:=ofVs_toVs hof
    obtain ⟨tt,hr,hk,hlt,hsz,hfl,hzp,⟨_,⟨o1,o2,o3⟩,o4,o5⟩,hvs,hle,_⟩:=shows H hx hat
    obtain ⟨q1,q2,q3⟩:=hvs
    rcases Nat.eq_zero_or_pos n with hn | hn
    ·subst hn
     simp only [List.replicate_zero]
     rw [setAt_nil,put_at hat rfl]
     have hxs:∃ ad cap,a.eval x = .slice ad 0 cap:=by
      rcases q3 with ⟨_,h | ⟨a,c,h⟩,_⟩ | ⟨h0,_⟩
      ·exact ⟨_,_,h⟩
      ·exact ⟨_,_,h⟩
      ·omega
     obtain ⟨ad,cap,has⟩:=hxs
     refine ⟨r,_,w,.inl (hrun (.tuple #[]) w ?_),.refl r _ w,H,und⟩
     rw [has]
     cases ad <;> simp [Builtin.clear_,run_underlying hu]
    ·rcases q3 with ⟨h0,_⟩ | ⟨_,hlen,cap,⟨hc1,hc2⟩,hc3,has⟩
     ·omega
     have hkl:ks.length = z.info.size:=hsz.symm
     have hql:(Builtin.zeroCells zv.cells n).toList.length = n * ks.length:=by simp [size_zeroCells,hzs,hkl]
     have hget:∀ q,q < n * ks.length→(Builtin.zeroCells zv.cells n).toList[q]? = zv.cells[q % zv.cells.size]?:=fun q hq=>by
      have hpos:0 < zv.cells.size:=by omega
      have hm:=Nat.mod_lt q hpos
      have hq':q < n * zv.cells.size:=by rw [hzs,← hkl];exact hq
      unfold Builtin.zeroCells
      simp [hq',hm]
     obtain ⟨arr,e',hblk,hfit,a1,a2⟩:=H.writeL (lo:=lo) (xs:=List.replicate n x0) (us:=(Builtin.zeroCells zv.cells n).toList) (ofVs_flat hof) hat hr (by rw [hql,List.length_replicate]) (ElemsAt.of_vals (ofVs_flat hof) fun i y hy j v hv=>by
      have hi:=(List.getElem?_eq_some_iff.1 hy).1
      simp only [List.length_replicate] at hi
      have hx0:y = x0:=by
       rw [List.getElem?_replicate] at hy
       simp only [hi,if_true] at hy
       exact (Option.some.inj hy).symm
      subst hx0
      have hj:j < ks.length:=by rw [← toVs_len ks y];exact (List.getElem?_eq_some_iff.1 hv).1
      have:(i + 1) * ks.length ≤ n * ks.length:=Nat.mul_le_mul_right _ hi
      rw [Nat.succ_mul] at this
      show (Builtin.zeroCells zv.cells n).toList[i * ks.length + j]? = some v
      rw [hget _ (by omega)]
      have hmod:(i * ks.length + j) % zv.cells.size = j:=by
       rw [hzs,← hkl,Nat.add_comm,Nat.add_mul_mod_self_right,Nat.mod_eq_of_lt hj]
      rw [hmod,← hv,← hto];simp) (by rw [List.length_replicate];exact hn) (by rw [List.length_replicate];exact hle hn)
     have hone:∀ u ∈ (Builtin.zeroCells zv.cells n).toList,u.oneCell' = true:=fun u hu'=>by
      obtain ⟨q,hq⟩:=List.getElem?_of_mem hu'
      have hql':=(List.getElem?_eq_some_iff.1 hq).1
      rw [hql] at hql'
      rw [hget q hql'] at hq
      have hm:u ∈ toVs ks x0:=by rw [← hto];exact List.mem_of_getElem? (i:=q % zv.cells.size) (by simpa using hq)
      exact scal_one (toVs_scal (ofVs_flat hof) x0 u hm)
     have hst:=run_storeCells_at P tt.blk (tt.off + lo * ks.length) e' (Builtin.zeroCells zv.cells n).toList 0 arr w hblk (by simpa using hfit) hone
     simp only [Nat.add_zero] at hst
     refine ⟨r,_,_,.inl (hrun (.tuple #[]) _ ?_),a2,a1,und⟩
     rw [has]
     obtain ⟨q,rfl⟩:∃ q,n = q + 1:=⟨n - 1,by omega⟩
     simp [Builtin.clear_,run_underlying hu,zeroValue,typeInfo,hi,hz,hst]
   ·cases hap
  ·cases hap
 ·cases hap
theorem loI_lo {ρ:Operand→Value} {lo:Option Operand} {l:Int} (h:loI ρ lo = some l) (h0:0 ≤ l):loOf ρ lo = some l.toNat:=by
 cases lo with
 | none=>simp only [loI,Option.some.injEq] at h;subst h;rfl
 | some c=>
   simp only [loI] at h
   simp only [loOf]
   split at h
   ·rename_i k j e;simp only [Option.some.injEq] at h;subst h;simp [h0]
   ·cases h
theorem hiI_hi {ρ:Operand→Value} {n:Nat} {hi:Option Operand} {l:Int} (h:hiI ρ n hi = some l) (h0:0 ≤ l):hiOf ρ n hi = some l.toNat:=by
 cases hi with
 | none=>simp only [hiI,Option.some.injEq] at h;subst h;rfl
 | some c=>
   simp only [hiI] at h
   simp only [hiOf]
   split at h
   ·rename_i k j e;simp only [Option.some.injEq] at h;subst h;simp [h0]
   ·cases h
theorem ops_cutE {t e:TypeId} {x:Operand} {lo hi:Option Operand} {z:TypeInfo} {b off l0 n sz:Nat} (ho:o.op = .slice t x lo hi none) (hx:ρA x = .slice (some ⟨b,off,some l0⟩) n sz)
  (hu:P.underlying t = some (.slice e)) (hi':P.info? e = some z) (hsz:sz = z.size) {g:Bool} (hc:cutE ρA b l0 n sz lo hi = some (g,v)) (hg:g = true):OpS P G GB o ρA h v h:=.val fun r a w H R=>by
 have hxr:=R x (by simp [ho,Op.operands])
 rw [hx] at hxr
 unfold cutE at hc
 cases hl:loI ρA lo with
 | none=>simp [hl] at hc
 | some l=>
   cases hh:hiI ρA n hi with
   | none=>simp [hl,hh] at hc
   | some m=>
     simp only [hl,hh,Option.some.injEq,Prod.mk.injEq] at hc
     obtain ⟨rfl,rfl⟩:=hc
     simp only [Bool.and_eq_true,decide_eq_true_eq] at hg
     obtain ⟨g1,g2,g3⟩:=hg
     have hl':=loI_lo hl g1
     have hh':=hiI_hi hh (by omega)
     generalize hL:l.toNat = L at *
     generalize hM:m.toNat = M at *
     have h1:L ≤ M:=by omega
     have h2:M ≤ n:=by omega
     have he:∀ c k j,(lo = some c ∨ hi = some c)→ρA c = .int k j→a.eval c = .int k j:=fun c k j hc hj=>by
      have:=R c (by
       rcases hc with hc | hc <;> subst hc <;> simp [ho,Op.operands])
      rw [hj] at this;exact this.int
     have key:∀ (ad:Addr) (cap:Nat),a.eval x = .slice (some ad) n cap→n ≤ cap →
       (execOp a.eval o).run P w = .ok (.value (.slice (some (if cap = L then ad else ad.add (L * z.size))) (M - L) (cap - L))) w:=fun ad cap hax hcap=>by
      have hb:=run_bounds (P:=P) w (ρ:=a.eval) hl' hh' h1 h2 hcap he
      simp [execOp,ho,hax,Instr.sliceAt,Instr.slice,run_underlying hu,hb,run_sizeOf w hi']
      split <;> rfl
     obtain ⟨t',hr,hk,⟨q1,q2,q3⟩,_⟩:=hxr.vs'
     have mk:∀ u,VsOK t' (l0 + L) (M - L) sz u→VR r (.slice (some ⟨b,2,some (l0 + L)⟩) (M - L) sz) u:=fun u hv=>.sub _ _ _ _ t' _ hr hk hv
     rcases q3 with ⟨rfl,hE,hP⟩ | ⟨hn,q3,cap,⟨q4,q6⟩,q5,hax⟩
     ·have hM0:M = 0:=by omega
      have hL0:L = 0:=by omega
      subst hM0
      subst hL0
      rcases hE with hax | ⟨ad,cap,hax⟩
      ·have hb:=run_bounds (P:=P) w (ρ:=a.eval) (cap:=0) hl' hh' h1 h2 (Nat.le_refl _) he
       refine ⟨.slice none 0 0,?_,mk _ ⟨q1,q2,.inl ⟨by omega,.inl rfl,by rw [hax] at hP;exact hP⟩⟩⟩
       simp [execOp,ho,hax,Instr.sliceAt,Instr.slice,run_underlying hu,hb,run_sizeOf w hi']
      ·exact ⟨_,key ad cap hax (by omega),mk _ ⟨q1,q2,.inl ⟨by omega,.inr ⟨_,_,rfl⟩,by
        rw [hax] at hP
        intro hlt
        obtain ⟨c',e1,e2,e3⟩:=hP hlt
        simp only [Value.slice.injEq,Option.some.injEq,true_and] at e1
        obtain ⟨rfl,rfl⟩:=e1
        exact ⟨cap,by split <;> simp [addr_add],e2,e3⟩⟩⟩⟩
     ·refine ⟨_,key _ cap hax q4,mk _ ⟨q1,q2,?_⟩⟩
      rcases Nat.eq_zero_or_pos (M - L) with h0 | hp
      ·refine .inl ⟨h0,.inr ⟨_,_,by rw [h0]⟩,fun hlt=>?_⟩
       have hne:cap ≠ L:=fun e=>by subst e;omega
       have e1:l0 + L + (cap - L) = l0 + cap:=by
        have:=Nat.lt_of_mul_lt_mul_right (Nat.lt_of_lt_of_le hlt q6)
        omega
       refine ⟨cap - L,?_,by rw [e1];exact q6,by rw [e1];exact q5⟩
       rw [h0,if_neg hne,addr_add,← hsz]
       congr 3
       rw [Nat.add_mul];omega
      ·refine .inr ⟨hp,Nat.le_trans (Nat.mul_le_mul_right _ (by omega)) q3,cap - L,⟨by omega,by rw [show l0 + L + (cap - L) = l0 + cap by omega];exact q6⟩,?_,?_⟩
       ·have e1:l0 + L + (cap - L) = l0 + cap:=by omega
        rw [e1];exact q5
       ·have hne:cap ≠ L:=by omega
        rw [if_neg hne,addr_add,← hsz]
        congr 3
        rw [Nat.add_mul];omega
theorem kd_flat {v:Value} {k:Kd} (h:kdOf v = some k):k.isFlat = true:=by
 cases v <;> simp [kdOf] at h <;> subst h <;> rfl
theorem kds_flat:∀ {vs:List Value} {ks:List Kd},kdsOf vs = some ks→flatK ks = true
 | [],ks,h=>by simp [kdsOf] at h;subst h;rfl
 | v :: vs,ks,h=>by
   simp only [kdsOf] at h
   split at h
   ·rename_i k ks' h1 h2
    cases h
    have:=kds_flat h2
    simp only [flatK,List.all_cons,Bool.and_eq_true] at this ⊢
    exact ⟨kd_flat h1,this⟩
   ·cases h
theorem ops_makeE {t e:TypeId} {lo co:Operand} {z:ATy} {l c:Int} (ho:o.op = .makeSlice t lo co) (hl:ρA lo = .int .i64 l) (hc:ρA co = .int .i64 c) (hu:P.underlying t = some (.slice e)) (hi:P.info? e = some z.info)
  (hm:condP (makeE z h l c) = some (v,h')):OpS P G GB o ρA h v h':=fun r a w H R=>by
 have h1:=R lo (by simp [ho,Op.operands])
 have h2:=R co (by simp [ho,Op.operands])
 rw [hl] at h1;rw [hc] at h2
 unfold makeE at hm
 simp only [appR_eq,lenR_eq] at hm
 cases hz:z.info.zero with
 | none=>simp [hz,condP] at hm
 | some zv=>
   simp only [hz] at hm
   split at hm
   ·rename_i ks hcc hkd
    simp only [Bool.and_eq_true,Nat.beq_eq,Nat.blt_eq] at hcc
    obtain ⟨⟨hp,hpos⟩,hzs⟩:=hcc
    split at hm
    ·rename_i x0 hof
     obtain ⟨hg,hv⟩:=cond_some hm
     simp only [Bool.and_eq_true,decide_eq_true_eq,Nat.ble_eq] at hg
     obtain ⟨h0,rfl,hcb,hsz,hby⟩:=hg
     obtain ⟨rfl,rfl⟩:=Prod.mk.inj hv
     obtain ⟨k,rfl⟩:∃ k:Nat,l = k:=⟨l.toNat,by omega⟩
     simp only [Int.toNat_natCast] at hby ⊢
     have hto:=ofVs_toVs hof
     have hkl:ks.length = z.info.size:=by rw [← toVs_len ks x0,← hto,← hzs];simp
     have hfl:=kds_flat hkd
     have hw:IntKind.i64.wrap (k:Int) = k:=by
      have:((k:Int) % 2 ^ 64) = k:=Int.emod_eq_of_lt (by omega) (by omega)
      simp only [IntKind.wrap,IntKind.bits,this,IntKind.signed,Bool.true_and]
      rw [if_neg]
      simp only [ge_iff_le,decide_eq_true_eq]
      omega
     have hkb:((k * z.info.bytes:Nat):Int) ≤ ((1000000000000:Nat):Int):=Int.ofNat_le.2 hby
     rw [Int.natCast_mul] at hkb
     have hcomm:(z.info.bytes:Int) * (k:Int) = (k:Int) * (z.info.bytes:Int):=Int.mul_comm _ _
     have hrun:(execOp a.eval o).run P w = .ok (.value (.slice (some ⟨w.heap.size,0,none⟩) k k)) (w.alloc (.cells ((Array.range (k * z.info.size)).map (zv.cells[· % zv.cells.size]!)) e)):=by
      have g1:¬ (281474976710656 < (z.info.bytes:Int) * (k:Int)):=by omega
      have g2:¬ ((k:Int) < 0):=by omega
      by_cases hk0:k * z.info.size = 0
      ·have hk:k = 0:=by rcases Nat.mul_eq_zero.1 hk0 with e | e <;> omega
       subst hk
       have e0:∀ f:Nat→Value,(Array.range 0).map f = #[]:=fun f=>Array.eq_empty_of_size_eq_zero (by simp)
       simp [execOp,ho,h1.int,h2.int,Instr.makeSlice,run_underlying hu,asInt,asIntOf,typeInfo,hi,sizeOf,show IntKind.i64.wrap 0 = 0 from by decide,Go.newRow,e0]
      ·simp [execOp,ho,h1.int,h2.int,Instr.makeSlice,run_underlying hu,asInt,asIntOf,typeInfo,hi,sizeOf,zeroValue,hz,hw,g1,g2,hk0,Go.newRow]
     obtain ⟨t',⟨b1,b2,b3⟩,a1,a2⟩:=H.newVec (okK_of_flat hfl) (by omega) (List.replicate k x0) ((Array.range (k * z.info.size)).map (zv.cells[· % zv.cells.size]!)) e (by simp [hkl]) (I:=no) (ElemsAt.of_vals hfl fun i x hx j v hv1=>by
      have hi:=(List.getElem?_eq_some_iff.1 hx).1
      simp only [List.length_replicate] at hi
      have hx0:x = x0:=by
       rw [List.getElem?_replicate] at hx
       simp only [hi,if_true] at hx
       exact (Option.some.inj hx).symm
      subst hx0
      have hj:j < z.info.size:=by rw [← hkl,← toVs_len ks x];exact (List.getElem?_eq_some_iff.1 hv1).1
      rw [← hto] at hv1
      have:(i + 1) * z.info.size ≤ k * z.info.size:=Nat.mul_le_mul_right _ hi
      rw [Nat.succ_mul] at this
      have hmod:(i * z.info.size + j) % zv.cells.size = j:=by
       rw [hzs,Nat.add_comm,Nat.add_mul_mod_self_right,Nat.mod_eq_of_lt hj]
      have hjs:j < zv.cells.size:=by omega
      have hv':zv.cells[j] = v:=by
       have:zv.cells[j]? = some v:=by simpa using hv1
       simpa [hjs] using this
      rw [hkl]
      simp [show i * z.info.size + j < k * z.info.size by omega,hmod,hjs,hv']) (.refl r h) rfl (fun _ h=>h.elim)
     rw [List.length_replicate,hkl] at b2
     rw [List.length_replicate] at b3
     refine ⟨_,_,_,.inl hrun,a2,a1,.asl _ _ _ t' _ (Ren.put_self ..) (by omega) ⟨by omega,hpos,b2,?_⟩⟩
     rcases Nat.eq_zero_or_pos k with rfl | hk
     ·exact .inl ⟨rfl,.inr ⟨_,rfl⟩⟩
     ·obtain ⟨b3,b4,b5⟩:=b3 hk
      exact .inr ⟨hk,k,Nat.le_refl _,by rw [b4,b5];simp,by rw [b3,b4]⟩
    ·simp [condP] at hm
   ·simp [condP] at hm
theorem ops_appZE {t t' e:TypeId} {s x:Operand} {k:IntKind} {z:ATy} {ks:List Kd} (ho:o.op = .call { callee:=.builtin .append,args:=#[s,x],argTypes:=#[t,t'] }) (hu:P.underlying t = some (.slice e)) (hu':P.underlying t' = some (.int k)) (hi:P.info? e = some z.info)
  (hkd:zKds z = some ks) (hap:condP (appZE z ks h (ρA s) (ρA x)) = some (v,h')):OpS P G GB o ρA h v h':=fun r a w H R=>by
 have hs:=R s (by simp [ho,Op.operands,Call.operands])
 have hx:=R x (by simp [ho,Op.operands,Call.operands])
 unfold appZE at hap
 simp only [appR_eq,lenR_eq] at hap
 split at hap
 ·rename_i n zv hρs hρx hz
  unfold zKds at hkd
  simp only [hz] at hkd
  split at hkd
  ·rename_i hc
   simp only [Bool.and_eq_true,Nat.beq_eq,Nat.blt_eq] at hc
   obtain ⟨⟨hp,hpos⟩,hzs⟩:=hc
   split at hap
   ·rename_i x0 hof
    obtain ⟨hg,hv⟩:=cond_some hap
    simp only [Bool.and_eq_true,decide_eq_true_eq,Nat.ble_eq] at hg
    obtain ⟨h0,hn,hb⟩:=hg
    obtain ⟨rfl,rfl⟩:=Prod.mk.inj hv
    rw [hρs] at hs;rw [hρx] at hx
    have has:=hs.scal_eq rfl
    have hax:=hx.int
    obtain ⟨m,rfl⟩:∃ m:Nat,n = m:=⟨n.toNat,by omega⟩
    simp only [Int.toNat_natCast] at hb ⊢
    have hm0:0 < m:=by omega
    have hto:=ofVs_toVs hof
    have hkl:ks.length = z.info.size:=by rw [← toVs_len ks x0,← hto,← hzs];simp
    have hfl:=kds_flat hkd
    have hwrap:IntKind.i64.wrap (m:Int) = m:=by
     have:((m:Int) % 2 ^ 64) = m:=Int.emod_eq_of_lt (by omega) (by omega)
     simp only [IntKind.wrap,IntKind.bits,this,IntKind.signed,Bool.true_and]
     rw [if_neg]
     simp only [ge_iff_le,decide_eq_true_eq]
     omega
    have hrun:(execOp a.eval o).run P w = .ok (.value (.slice (some ⟨w.heap.size,0,none⟩) m (grownCap w m 0 e)))
      (w.drew.alloc (.cells (Builtin.zeroCells zv.cells m++Builtin.zeroCells zv.cells (grownCap w m 0 e - m)) e)):=by
     have h1:¬ ((m:Int) * (z.info.bytes:Int) > 2 ^ 48):=by
      have h9:((m * z.info.bytes:Nat):Int) ≤ ((1000000000000:Nat):Int):=Int.ofNat_le.2 hb
      rw [Int.natCast_mul] at h9
      omega
     have h2:¬ (m:Int) < 0:=by omega
     have h3:m ≠ 0:=by omega
     have h5:¬ (281474976710656 < Builtin.nextslicecap m 0 * z.info.bytes):=by rw [nextslicecap_zero hm0];omega
     have h6:z.info.size ≠ 0:=by omega
     have h7:¬ (9223372036854775807 < (m:Int)):=by omega
     have h8:¬ (281474976710656 < (m:Int) * (z.info.bytes:Int)):=by omega
     simp [execOp,ho,resolve,invoke,builtin,has,hax,Builtin.append_,run_underlying hu,run_underlying hu',sizeOf,typeInfo,zeroValue,hi,hz,asInt,asIntOf,hwrap,h2,h3,h5,h7,h8,Question.forced,run_firstCells_none,Go.newRow,grownCap]
     intro h9
     rcases Nat.mul_eq_zero.1 h9 with h9 | h9 <;> omega
    have hcap:=grownCap_ge w m 0 e
    have Hd:=H.drew (w.drawn + 1)
    have hget:∀ q,q < m * ks.length→(Builtin.zeroCells zv.cells m)[q]? = zv.cells[q % zv.cells.size]?:=fun q hq=>by
     have hpos:0 < zv.cells.size:=by omega
     have hm:=Nat.mod_lt q hpos
     have hq':q < m * zv.cells.size:=by rw [hzs,← hkl];exact hq
     unfold Builtin.zeroCells
     simp [hq',hm]
    obtain ⟨t',⟨b1,b2,b3⟩,a1,a2⟩:=Hd.newVec (okK_of_flat hfl) (by omega) (List.replicate m x0) (Builtin.zeroCells zv.cells m++Builtin.zeroCells zv.cells (grownCap w m 0 e - m)) e (by simp only [List.length_replicate,Array.size_append,size_zeroCells,hzs,hkl];omega) (I:=no) (ElemsAt.of_vals hfl fun i y hy j v hv1=>by
     have hi:=(List.getElem?_eq_some_iff.1 hy).1
     simp only [List.length_replicate] at hi
     have hx0:y = x0:=by
      rw [List.getElem?_replicate] at hy
      simp only [hi,if_true] at hy
      exact (Option.some.inj hy).symm
     subst hx0
     have hj:j < ks.length:=by rw [← toVs_len ks y];exact (List.getElem?_eq_some_iff.1 hv1).1
     have:(i + 1) * ks.length ≤ m * ks.length:=Nat.mul_le_mul_right _ hi
     rw [Nat.succ_mul] at this
     show (Builtin.zeroCells zv.cells m++Builtin.zeroCells zv.cells (grownCap w m 0 e - m))[i * ks.length + j]? = some v
     rw [Array.getElem?_append_left (by rw [size_zeroCells,hzs,← hkl];omega),hget _ (by omega)]
     have hmod:(i * ks.length + j) % zv.cells.size = j:=by
      rw [hzs,← hkl,Nat.add_comm,Nat.add_mul_mod_self_right,Nat.mod_eq_of_lt hj]
     rw [hmod,← hv1,← hto];simp) (.refl r h) rfl (fun _ h=>h.elim)
    rw [List.length_replicate,hkl] at b2
    rw [List.length_replicate] at b3
    obtain ⟨b3,b4,b5⟩:=b3 hm0
    refine ⟨_,_,_,.inl hrun,(Step.drew r h w _).trans a2,a1,.asl _ _ _ t' _ (Ren.put_self ..) (by omega) ⟨by omega,hpos,b2,.inr ⟨hm0,_,hcap,?_,by rw [b3,b4]⟩⟩⟩
    rw [b4,b5]
    simp only [Array.size_append,size_zeroCells,hzs,Nat.zero_add]
    rw [← Nat.add_mul]
    exact Nat.mul_le_mul_right _ (by omega)
   ·simp [condP] at hap
  ·cases hkd
 ·simp [condP] at hap
theorem appZX_some {sym:Bool} {t t':TypeId} {s x:Value} {p:Bool × Value × Heap} (hz:appZX ty sym t t' s x h = some p) :
  Nat.beq t t' = false∧∃ y e y' k z ks,ty t = some y∧y.desc = .slice e∧ty t' = some y'∧y'.desc = .int k∧ty e = some z∧zKds z = some ks∧appZE z ks h s x = some p:=by
 unfold appZX at hz
 split at hz
 ·rename_i y y' hb hy hy'
  simp only [Bool.and_eq_true,Bool.not_eq_true'] at hb
  split at hz
  ·rename_i e k hd hd'
   split at hz
   ·rename_i z hte
    split at hz
    ·rename_i ks hk
     exact ⟨hb.2,y,e,y',k,z,ks,hy,hd,hy',hd',hte,hk,hz⟩
    ·cases hz
   ·cases hz
  ·cases hz
 ·cases hz
theorem ops_empty {t e:TypeId} {parts:Array (Nat × Operand)} {z:ATy} (ho:o.op = .buildSlice t 0 parts) (hu:P.underlying t = some (.slice e)) (hi:P.info? e = some z.info)
  (hpos:0 < z.info.size) (hemp:parts = #[]) {ks:List Kd} (hfl:flatK ks = true) (hkl:ks.length = z.info.size) :
  OpS P G GB o ρA h (.slice (some ⟨K0 + h.length,1,some 0⟩) 0 z.info.size) (h++[.vec ks [] true]):=fun r a w H R=>by
 subst hemp
 obtain ⟨t',⟨b1,b2,b3⟩,a1,a2⟩:=H.newVec (okK_of_flat hfl) (by omega) [] #[] e (by simp) (I:=no) (fun i x hx=>by simp at hx) (.refl r h) rfl (fun _ h=>h.elim)
 refine ⟨_,.slice (some ⟨w.heap.size,0,none⟩) 0 0,_,.inl ?_,a2,a1,.asl _ _ _ t' _ (Ren.put_self ..) (by omega) ⟨by omega,hpos,by simpa using b2,.inl ⟨rfl,.inr ⟨_,rfl⟩⟩⟩⟩
 have e0:∀ f:Nat→Value,(Array.range 0).map f = #[]:=fun f=>Array.eq_empty_of_size_eq_zero (by simp)
 simp [execOp,ho,Instr.buildSlice,run_underlying hu,sizeOf,typeInfo,hi,Instr.fill,Go.newRow,e0]
end ops
end
end Go.Am
namespace Go.Am
noncomputable section
open Go Go.RowKit
variable {P:Program} {ty:TypeId→Option ATy} {G:Gl} {GB:Nat}
theorem cellsN_ok {w:World}:∀ {ks:List Kd} {x:Tup ks} {f:Nat→Option Value} {I:Nat→Prop} {r:Ren} {h:Heap},HR G GB r h w→okK ks = true→(∀ k,I k→k < w.heap.size∧¬ Owned r h k)→RowIn I w ks x f →
  ∃ r',HR G GB r' (cellsN ks x h).2 w∧Step r h w r' (cellsN ks x h).2 w∧(cellsN ks x h).1.length = ks.length∧(∀ (j:Nat) (v:Value),(cellsN ks x h).1[j]? = some v→∃ u,f j = some u∧VR r' v u) ∧
   ∀ b t,r' b = some t→r b = some t ∨ ((∀ k,¬ t.inn k)∧(t.blk = 0 ∨ I t.blk))
 | [],_,_,_,r,h,H,_,_,_=>⟨r,H,.refl r h w,rfl,fun j v hj=>by simp [cellsN] at hj,fun _ _ h=>.inl h⟩
 | k :: ks,x,f,I,r,h,H,hk,hI,⟨⟨u,hu,hc⟩,hrow⟩=>by
   simp only [okK,List.all_cons,Bool.and_eq_true] at hk
   have flat:k.isFlat = true→cellsN (k :: ks) x h = (toV k x.1 :: (cellsN ks x.2 h).1,(cellsN ks x.2 h).2):=fun hf=>by
    cases k <;> first | rfl | simp [Kd.isFlat] at hf
   by_cases hf:k.isFlat = true
   ·obtain ⟨r',a1,a2,a3,a4,a5⟩:=cellsN_ok (ks:=ks) (f:=fun j=>f (j + 1)) H hk.2 hI hrow
    rw [flat hf]
    refine ⟨r',a1,a2,by simp [a3],fun j v hj=>?_,a5⟩
    cases j with
    | zero=>
      simp only [List.getElem?_cons_zero,Option.some.injEq] at hj
      subst hj
      exact ⟨u,hu,by rw [(CellIn.flat hf).1 hc];exact .scal _ (toV_scal hf _)⟩
    | succ j=>exact a4 j v (by simpa using hj)
   ·cases k with
    | list ks'=>
      simp only [Kd.ok,Bool.and_eq_true,Nat.blt_eq] at hk
      obtain ⟨⟨hf',hpos⟩,hks⟩:=hk
      generalize hx:(show List (Tup ks') from x.1) = e at *
      have hdef:cellsN (.list ks' :: ks) x h = (.slice (some ⟨K0 + h.length,0,some 0⟩) e.length ks'.length :: (cellsN ks x.2 (h++[.vec ks' e false])).1,(cellsN ks x.2 (h++[.vec ks' e false])).2):=by
       subst hx
       simp only [cellsN,appR_eq,lenR_eq]
      rw [hdef]
      have key:∃ t,HR G GB (r.put (K0 + h.length) t) (h++[.vec ks' e false]) w∧Step r h w (r.put (K0 + h.length) t) (h++[.vec ks' e false]) w∧(∀ k,Owned (r.put (K0 + h.length) t) (h++[.vec ks' e false]) k→Owned r h k) ∧
        VR (r.put (K0 + h.length) t) (.slice (some ⟨K0 + h.length,0,some 0⟩) e.length ks'.length) u∧(∀ k,¬ t.inn k)∧(t.blk = 0 ∨ I t.blk):=by
       have hc':(e.length = 0∧Empt u) ∨ (0 < e.length∧∃ b off cap,u = .slice (some ⟨b,off,none⟩) e.length cap∧e.length ≤ cap∧I b ∧
         ∀ (i:Nat) (x:Tup ks'),e[i]? = some x→∀ (j:Nat) (c:Value),(toVs ks' x)[j]? = some c→w.cell? ⟨b,off + i * ks'.length + j,none⟩ = some c):=by subst hx;exact hc
       rcases hc' with ⟨h0,hE⟩ | ⟨h0,b,off,cap,rfl,hcap,hb,hcells⟩
       ·obtain ⟨a1,a2,a3⟩:=H.nothing (okK_of_flat hf') hpos e h0 false
        exact ⟨_,a1,a2,a3,.vsl _ _ _ _ _ (Ren.put_self ..) (by omega) ⟨rfl,hpos,.inl ⟨h0,hE,.of_len rfl⟩⟩ (by simp [h0]),fun _ h=>h,.inl rfl⟩
       ·obtain ⟨i1,i2⟩:=hI b hb
        have hm:e.length * ks'.length ≤ cap * ks'.length:=Nat.mul_le_mul_right _ hcap
        obtain ⟨a1,a2,a3⟩:=H.addRO (.vec ks' e false) ⟨b,off,off + cap * ks'.length,e.length * ks'.length,ks'.length,no⟩ rfl i1 i2
         ⟨okK_of_flat hf',⟨rfl,hpos,rfl⟩,fun h=>by omega,fun _=>⟨by simp only;omega,fun i x hx=>RowIn.of_vals hf' (hcells i x hx),fun h=>by cases h⟩⟩
        exact ⟨_,a1,a2,a3,.vsl _ _ _ _ _ (Ren.put_self ..) (by omega) ⟨rfl,hpos,.inr ⟨h0,by simp,cap,⟨hcap,by simpa using hm⟩,by simp,by simp⟩⟩ rfl,fun _ h=>h,.inr hb⟩
      obtain ⟨t,a1,a2,a3,a4,a5⟩:=key
      obtain ⟨r',b1,b2,b3,b4,b5⟩:=cellsN_ok (ks:=ks) (f:=fun j=>f (j + 1)) a1 hks (fun k hk=>let ⟨x,y⟩:=hI k hk;⟨x,fun ho=>y (a3 k ho)⟩) hrow
      refine ⟨r',b1,a2.trans b2,by simp [b3],fun j v hj=>?_,fun b t1 hb=>?_⟩
      ·cases j with
       | zero=>
         simp only [List.getElem?_cons_zero,Option.some.injEq] at hj
         subst hj
         exact ⟨u,hu,a4.mono b2.le⟩
       | succ j=>exact b4 j v (by simpa using hj)
      ·rcases b5 b t1 hb with h1 | h1
       ·by_cases e:b = K0 + h.length
        ·subst e
         rw [Ren.put_self] at h1
         cases h1
         exact .inr a5
        ·refine .inl ?_
         unfold Ren.put at h1
         rwa [if_neg e] at h1
       ·exact .inr h1
    | pt=>simp [Kd.ok] at hk
    | _=>exact absurd rfl hf
section ops
variable {o:Oper} {ρA:Operand→Value} {h h':Heap} {v:Value}
theorem ops_loadN' {t:TypeId} {ad:Operand} {x:ATy} {b c i:Nat} (ho:o.op = .load t ad) (hi:P.info? t = some x.info) (hu:P.underlying t = some x.desc)
  (ha:ρA ad = .pointer (some ⟨b,c,some i⟩)) (hl:loadN x h b c i = some (v,h')) (r:Ren) (a:Act) (w:World) (H:HR G GB r h w) (R:∀ x ∈ o.op.operands.toList,VR r (ρA x) (a.eval x)) :
  ∃ r' u,(execOp a.eval o).run P w = .ok (.value u) w∧Step r h w r' h' w∧HR G GB r' h' w∧VR r' v u ∧
   ∃ t0,(h.at b).alive = true∧r b = some t0∧∀ b1 t1,r' b1 = some t1→r b1 = some t1 ∨ ((∀ k,¬ t1.inn k)∧(t1.blk = 0 ∨ t0.inn t1.blk)):=by
 have h1:=R ad (by simp [ho,Op.operands])
 rw [ha] at h1
 unfold loadN at hl
 cases hat:h.at b with
 | vec ks l own=>
   simp only [hat] at hl
   obtain ⟨t',hr,_,⟨q1,q2⟩,hp⟩:=h1.ep'
   obtain ⟨hlt,hok,⟨o1,o2,o3⟩,_,o5⟩:=H.vecAt hat hr
   rw [o1] at q1 q2 hp
   rw [o3] at q1
   have hiN:=elem_lt o2 q1
   obtain ⟨_,p2,_⟩:=o5 (by omega)
   obtain ⟨r',H',S,hlen,hv,hnew⟩:=cellsN_ok H hok (fun k hk=>H.frz b t' (by rw [hat];rfl) hr k hk) (p2 i _ (nth_get hiN))
   cases hf:flatK ks with
   | true=>simp [hf] at hl
   | false=>
     rw [hf] at hl
     generalize hcn:cellsN ks (nth l i) h = q at *
     obtain ⟨vs,h2⟩:=q
     simp only at hl H' S hlen hv
     have hl':h2 = h'∧(match isAggD x.desc with
       | true=>match cut vs c x.info.size with
         | some cs=>some (.agg cs.toArray)
         | none=>none
       | false=>vs[c]?) = some v:=by
      cases hg:isAggD x.desc with
      | true=>
        simp only [hg] at hl ⊢
        split at hl
        ·rename_i cs e
         simp only [Option.some.injEq,Prod.mk.injEq] at hl
         obtain ⟨rfl,rfl⟩:=hl
         exact ⟨rfl,by simp [e]⟩
        ·cases hl
      | false=>
        simp only [hg] at hl ⊢
        split at hl
        ·rename_i v' e
         simp only [Option.some.injEq,Prod.mk.injEq] at hl
         obtain ⟨rfl,rfl⟩:=hl
         exact ⟨rfl,by simp [e]⟩
        ·cases hl
     obtain ⟨rfl,hl'⟩:=hl'
     obtain ⟨u,hu1,hu2⟩:=load_at (r:=r') (w:=w) (bb:=t'.blk) (oo:=t'.off + i * ks.length + c) hi hu (fun j v hj=>by
      obtain ⟨u,e1,e2⟩:=hv (c + j) v hj
      exact ⟨u,by rw [← e1];congr 2;omega,e2⟩) hl'
     exact ⟨r',u,by simp [execOp,ho,hp,Instr.loadAt,Instr.sureAddr,hu1],S,H',hu2,t',rfl,hr,hnew⟩
 | _=>simp [hat] at hl
theorem ops_loadN {t:TypeId} {ad:Operand} {x:ATy} {b c i:Nat} (ho:o.op = .load t ad) (hi:P.info? t = some x.info) (hu:P.underlying t = some x.desc)
  (ha:ρA ad = .pointer (some ⟨b,c,some i⟩)) (hl:loadN x h b c i = some (v,h')):OpS P G GB o ρA h v h':=fun r a w H R=>
 let ⟨r',u,h1,h2,h3,h4,_⟩:=ops_loadN' ho hi hu ha hl r a w H R
 ⟨r',u,w,.inl h1,h2,h3,h4⟩
theorem ofV_cell {I:Nat→Prop} {r:Ren} {w:World} {k:Kd} {v u:Value} {x:El k} (h:ofV k v = some x) (hv:VR r v u):CellIn I w k x u:=by
 have hf:=ofV_flat h
 have e:=ofV_toV h
 refine (CellIn.flat hf).2 ?_
 rw [← e]
 exact hv.scal_eq (by rw [e];exact toV_scal hf x)
def Kept (h1 h:Heap):Prop:=∀ b (ks:List Kd) (l:List (Tup ks)) own,flatK ks = false→h.at b = .vec ks l own→h1.at b = .vec ks l own
theorem rows_scal {ks:List Kd} (hf:flatK ks = true):∀ {n:Nat} {cs:List Value} {xs:List (Tup ks)},ofRows ks n cs = some xs→cs.length = n * ks.length→∀ c ∈ cs,scal c = true
 | 0,cs,xs,_,hl,c,hc=>by rw [List.length_eq_zero_iff.1 (show cs.length = 0 by omega)] at hc;cases hc
 | n + 1,cs,xs,hr,hl,c,hc=>by
   simp only [ofRows] at hr
   split at hr
   ·rename_i x ys h1 h2
    have hc':c ∈ cs.take ks.length++cs.drop ks.length:=by rw [List.take_append_drop];exact hc
    rcases List.mem_append.1 hc' with hc' | hc'
    ·rw [ofVs_toVs h1] at hc'
     exact toVs_scal hf x c hc'
    ·exact rows_scal hf h2 (by rw [List.length_drop,hl,Nat.succ_mul];omega) c hc'
   ·cases hr
theorem cellN_ok {w:World} {r:Ren} {h h1:Heap} {k:Kd} {v u:Value} {x:El k} (H:HR G GB r h w) (hk:k.ok = true) (hv:VR r v u) (hc:cellN k v h = some (x,h1)) :
  HR G GB r h1 w∧Sub r h1 h∧h1.length = h.length∧Kept h1 h∧∃ I:Nat→Prop,(∀ k,I k→k < w.heap.size∧¬ Owned r h1 k∧Mine r h k)∧CellIn I w k x u:=by
 have plain:∀ {k:Kd} {x:El k},ofV k v = some x→HR G GB r h w∧Sub r h h∧h.length = h.length∧Kept h h∧∃ I:Nat→Prop,(∀ k,I k→k < w.heap.size∧¬ Owned r h k∧Mine r h k)∧CellIn I w k x u:=fun e=>
  ⟨H,.refl r h,rfl,fun _ _ _ _ _ h=>h,no,fun _ h=>h.elim,ofV_cell e hv⟩
 cases k with
 | list ks=>
   unfold cellN at hc
   simp only at hc
   simp only [Kd.ok,Bool.and_eq_true,Nat.blt_eq] at hk
   obtain ⟨hf,hpos⟩:=hk
   split at hc
   ·simp only [Option.some.injEq] at hc
    obtain ⟨rfl,rfl⟩:=hc
    rw [hv.scal_eq rfl]
    exact ⟨H,.refl r h,rfl,fun _ _ _ _ _ h=>h,no,fun _ h=>h.elim,.inl ⟨rfl,.inl rfl⟩⟩
   ·rename_i b n sz
    split at hc
    ·rename_i ks' l hat
     split at hc
     ·rename_i l' hrc
      obtain ⟨e3,e4⟩:=Prod.mk.inj (Option.some.inj hc)
      subst e4
      obtain ⟨e1,e2⟩:=recast_eq hrc
      subst e1
      subst e2
      subst e3
      obtain ⟨t,hr,hK,q1,q2,q3,q4⟩:=hv.as'
      obtain ⟨hlt,_,⟨o1,o2,o3⟩,o4,o5⟩:=H.vecAt hat hr
      have hsz:sz = ks'.length:=by omega
      subst hsz
      have hNn:n = l'.length:=by rw [q3] at o3;exact Nat.eq_of_mul_eq_mul_right q2 o3
      subst hNn
      obtain ⟨F1,F2,F3⟩:=H.freeze hat
      refine ⟨F1,F2,put_length ..,fun b' ks l2 own hfl hat'=>?_,fun k=>k = t.blk∧0 < l'.length,fun k ⟨hk,hn⟩=>?_,?_⟩
      ·have hl:=at_lt (h:=h) (b:=b) (by rw [hat];rfl)
       rw [at_put hl.1 hl.2]
       by_cases e:b' = b
       ·subst e
        rw [hat] at hat'
        cases hat'
        rw [hf] at hfl;cases hfl
       ·rw [if_neg e];exact hat'
      ·subst hk
       obtain ⟨x,y⟩:=F3 t hr hn
       exact ⟨hlt,x,y⟩
      ·rcases q4 with ⟨h0,hE⟩ | ⟨hn,cap,hcap,_,rfl⟩
       ·exact .inl ⟨h0,hE.empt⟩
       ·exact .inr ⟨hn,t.blk,t.off,cap,rfl,hcap,⟨rfl,hn⟩,fun i x hx=>((o5 hn).2.1 i x hx).vals hf⟩
     ·cases hc
    ·cases hc
   ·rename_i b n sz
    split at hc
    ·rename_i cells hat
     split at hc
     ·rename_i l' hb hrw
      simp only [Bool.and_eq_true,Nat.beq_eq,Nat.blt_eq] at hb
      obtain ⟨hsz,hcl,hn⟩:=hb
      obtain ⟨e3,e4⟩:=Prod.mk.inj (Option.some.inj hc)
      subst e4
      subst e3
      obtain ⟨hbl,hbl2⟩:=at_lt (h:=h) (b:=b) (by rw [hat];rfl)
      obtain ⟨el,hg⟩:=ofRows_get hrw
      have hsc:=rows_scal hf hrw (by rw [hcl,hsz])
      rcases hv.slice' with ⟨t1,cap,hr,_,_,hcap,⟨hlim,hlen⟩,hu1⟩ | ⟨h0,_⟩
      ·obtain ⟨t',ht',hlt,hob⟩:=H.obj b (by rw [hat];rfl)
       rw [hr] at ht';cases ht'
       rw [hat] at hob
       obtain ⟨⟨o1,o2⟩,o3,o4⟩:=hob
       have hA:∀ b',(h.put b .dead).at b' = if b' = b then .dead else h.at b':=fun b'=>at_put hbl hbl2 _ b'
       have old:∀ b',((h.put b .dead).at b').alive = true→b' ≠ b∧(h.put b .dead).at b' = h.at b':=fun b' hb'=>by
        rw [hA] at hb' ⊢
        by_cases e:b' = b
        ·rw [if_pos e] at hb';cases hb'
        ·exact ⟨e,if_neg e⟩
       refine ⟨(H.kill (some b)).1,Sub.of fun b' hb'=>(old b' hb').2,put_length ..,fun b' ks2 l2 own hfl hat'=>?_,fun k=>k = t1.blk,fun k hk=>?_,?_⟩
       ·rw [hA]
        by_cases e:b' = b
        ·subst e
         rw [hat] at hat';cases hat'
        ·rw [if_neg e];exact hat'
       ·subst hk
        refine ⟨hlt,fun ⟨b',t',hb',hr',he⟩=>?_,⟨b,t1,by rw [hat];rfl,hr,.inl rfl⟩⟩
        obtain ⟨hne,e⟩:=old b' (AObj.alive_of_owned hb')
        rcases H.exc b' b t' t1 (e ▸ hb') (by rw [hat];rfl) hr' hr he with e2 | ⟨_,e2⟩
        ·exact hne e2
        ·rw [hat] at e2;cases e2
       ·refine .inr ⟨by rw [el];exact hn,t1.blk,t1.off,cap,by rw [el];exact hu1,by rw [el];exact hcap,rfl,fun i x hx j c hcj=>?_⟩
        have e:=hg i x hx
        have hj:j < ks.length:=by
         have:=(List.getElem?_eq_some_iff.1 hcj).1
         rwa [toVs_len] at this
        have hcj2:=hcj
        rw [← e,List.getElem?_take,if_pos hj,List.getElem?_drop] at hcj2
        obtain ⟨u',hu',hv'⟩:=o3 _ c hcj2
        rw [hv'.scal_eq (hsc c (List.mem_of_getElem? hcj2))] at hu'
        rw [show t1.off + i * ks.length + j = t1.off + (i * ks.length + j) by omega]
        exact hu'
      ·exact absurd hbl (by rw [h0];decide)
     ·cases hc
    ·cases hc
   ·cases hc
 | pt=>cases hc
 | int q=>
   unfold cellN at hc
   simp only at hc
   split at hc
   ·rename_i x' e;cases hc;exact plain e
   ·cases hc
 | str=>
   unfold cellN at hc
   simp only at hc
   split at hc
   ·rename_i x' e;cases hc;exact plain e
   ·cases hc
 | bool=>
   unfold cellN at hc
   simp only at hc
   split at hc
   ·rename_i x' e;cases hc;exact plain e
   ·cases hc
 | float q=>
   unfold cellN at hc
   simp only at hc
   split at hc
   ·rename_i x' e;cases hc;exact plain e
   ·cases hc
theorem rowN_ok {w:World} {r:Ren}:∀ {ks:List Kd} {vs us:List Value} {h h1:Heap} {x:Tup ks},HR G GB r h w→okK ks = true→us.length = vs.length→(∀ (j:Nat) (v:Value),vs[j]? = some v→∃ u,us[j]? = some u∧VR r v u)→rowN ks vs h = some (x,h1) →
  HR G GB r h1 w∧Sub r h1 h∧h1.length = h.length∧Kept h1 h∧vs.length = ks.length∧∃ I:Nat→Prop,(∀ k,I k→k < w.heap.size∧¬ Owned r h1 k∧Mine r h k)∧RowIn I w ks x fun j=>us[j]?
 | [],[],us,h,h1,x,H,_,_,_,hc=>by
   simp only [rowN,Option.some.injEq] at hc
   obtain ⟨_,rfl⟩:=hc
   exact ⟨H,.refl r h,rfl,fun _ _ _ _ _ h=>h,rfl,no,fun _ h=>h.elim,trivial⟩
 | [],_ :: _,_,_,_,_,_,_,_,_,hc=>by simp [rowN] at hc
 | _ :: _,[],_,_,_,_,_,_,_,_,hc=>by simp [rowN] at hc
 | k :: ks,v :: vs,us,h,h1,x,H,hk,hl,hv,hc=>by
   simp only [okK,List.all_cons,Bool.and_eq_true] at hk
   simp only [rowN] at hc
   split at hc
   ·rename_i x1 h2 e1
    split at hc
    ·rename_i xs h3 e2
     simp only [Option.some.injEq] at hc
     obtain ⟨rfl,rfl⟩:=hc
     obtain ⟨u,hu,hvu⟩:=hv 0 v rfl
     obtain ⟨a1,a2,a3,a4,I,a5,a6⟩:=cellN_ok H hk.1 hvu e1
     cases us with
     | nil=>simp at hu
     | cons u0 us=>
       simp only [List.getElem?_cons_zero,Option.some.injEq] at hu
       subst hu
       obtain ⟨b1,b2,b3,b4,b5,J,b6,b7⟩:=rowN_ok (ks:=ks) (us:=us) a1 hk.2 (by simpa using hl) (fun j v hj=>by simpa using hv (j + 1) v (by simpa using hj)) e2
       refine ⟨b1,b2.trans a2,b3.trans a3,fun b ks l own hf hat=>b4 b ks l own hf (a4 b ks l own hf hat),by simp [b5],fun k=>I k ∨ J k,fun k hk=>?_,⟨u0,rfl,a6.mono (fun _ h=>.inl h) fun _ _=>rfl⟩,?_⟩
       ·rcases hk with hk | hk
        ·obtain ⟨x,y,z⟩:=a5 k hk
         exact ⟨x,fun ho=>y (b2.1 k ho),z⟩
        ·obtain ⟨x,y,z⟩:=b6 k hk
         exact ⟨x,y,a2.2 k z⟩
       ·exact b7.mono (fun _ h=>.inr h) fun _ _=>rfl
    ·cases hc
   ·cases hc
theorem ops_appN {t e:TypeId} {s x:Operand} {z:ATy} (ho:o.op = .call { callee:=.builtin .append,args:=#[s,x],argTypes:=#[t,t] }) (hu:P.underlying t = some (.slice e)) (hi:P.info? e = some z.info)
  (hap:condP (appN z h (ρA s) (ρA x)) = some (v,h')):OpS P G GB o ρA h v h':=fun r a w H R=>by
 have hs:=R s (by simp [ho,Op.operands,Call.operands])
 have hx:=R x (by simp [ho,Op.operands,Call.operands])
 have hrun:∀ u w',(Builtin.append_ #[t,t] o.type #[a.eval s,a.eval x]).run P w = .ok u w'→(execOp a.eval o).run P w = .ok (.value u) w':=fun u w' hr=>by
  simp [execOp,ho,resolve,invoke,builtin,hr]
 unfold appN at hap
 simp only [appR_eq,lenR_eq] at hap
 split at hap
 ·simp [condP] at hap
 ·rename_i zv hz
  split at hap
  ·simp [condP] at hap
  ·rename_i hc
   simp only [Bool.and_eq_true,Nat.beq_eq,Nat.blt_eq] at hc
   obtain ⟨hzs,hzp⟩:=hc
   split at hap
   ·rename_i b n sz hρ
    split at hap
    ·rename_i ks l hat hbeq
     rw [Nat.beq_eq] at hbeq
     subst hbeq
     rw [hρ] at hs
     split at hap
     ·rename_i news hfk hsc
      split at hap
      ·rename_i y h1 hrow
       obtain ⟨hg,hv'⟩:=cond_some hap
       simp only [Bool.and_eq_true,Nat.ble_eq] at hg
       obtain ⟨rfl,rfl⟩:=Prod.mk.inj hv'
       obtain ⟨tt,hr,hk,q1,q2,q3,q4⟩:=hs.as'
       obtain ⟨hlt,hok,⟨o1,o2,o3⟩,o4,o5⟩:=H.vecAt hat hr
       have hks:ks.length = z.info.size:=by omega
       obtain ⟨us,c,c1,c2,c3,c4⟩:=sliceCells_some H hsc hx
       obtain ⟨H1,s1,l1,kp,el,I,hI,hin⟩:=rowN_ok H hok c1 c2 hrow
       rcases c4 with ⟨h0,_⟩ | ⟨_,ad,hax,hcell⟩
       ·omega
       have S:Src w I ks [y] (a.eval x) us:=⟨by rw [c1,c3,hks];simp,fun h=>by simp at h,fun _=>⟨ad,c,hax,hcell⟩,fun u hu=>by
         obtain ⟨j,hj⟩:=List.getElem?_of_mem hu
         have hjl:j < ks.length:=by have:=(List.getElem?_eq_some_iff.1 hj).1;omega
         obtain ⟨u',e1,e2⟩:=hin.get hok j hjl
         rw [hj] at e1;cases e1;exact e2,fun i x hx=>by
         cases i with
         | zero=>
           simp only [List.getElem?_cons_zero,Option.some.injEq] at hx
           subst hx
           exact hin.congr fun j _=>by simp
         | succ i=>simp at hx⟩
       obtain ⟨r',u,w',e1,e2,e3,e4⟩:=append_list (P:=P) (ty':=o.type) H1 hu hi hz hzs hzp (kp b ks l true hfk hat) hs S s1 l1 hI hg.1 hg.2
       exact ⟨r',u,w',.inl (hrun _ _ e1),e2,e3,e4⟩
      ·simp [condP] at hap
     ·simp [condP] at hap
    ·simp [condP] at hap
   ·simp [condP] at hap
theorem ops_appL {t e:TypeId} {s x:Operand} {z:ATy} (ho:o.op = .call { callee:=.builtin .append,args:=#[s,x],argTypes:=#[t,t] }) (hu:P.underlying t = some (.slice e)) (hi:P.info? e = some z.info)
  (hap:condP (appL z h (ρA s) (ρA x)) = some (v,h')):OpS P G GB o ρA h v h':=fun r a w H R=>by
 unfold appL at hap
 simp only [appR_eq,lenR_eq] at hap
 split at hap
 ·rename_i b n sz hρ
  split at hap
  ·rename_i cells L hat hL
   split at hap
   ·rename_i xs hb hxs
    simp only [Bool.and_eq_true,Nat.beq_eq,Nat.blt_eq] at hb
    obtain ⟨hsz,hcl,hn,hz⟩:=hb
    obtain ⟨bx,ox,lo,n2,sz2,l2,own2,hρx,hatx,_⟩:=listN_some (listOf_N hL).1
    have hfl:=(listOf_N hL).2
    have hs:=R s (by simp [ho,Op.operands,Call.operands])
    rw [hρ] at hs
    have hk:K0 ≤ b:=(at_lt (h:=h) (b:=b) (by rw [hat];rfl)).1
    rcases hs.slice' with ⟨t1,cap,hr,_,_,hcap,⟨hlim,hlen⟩,hu1⟩ | ⟨h0,_⟩
    ·obtain ⟨t',ht',hlt,hob⟩:=H.obj b (by rw [hat];rfl)
     rw [hr] at ht';cases ht'
     rw [hat] at hob
     obtain ⟨⟨o1,o2⟩,o3,o4⟩:=hob
     obtain ⟨el,hg⟩:=ofRows_get hxs
     have hsc:=rows_scal hfl hxs (by rw [hcl,hsz])
     have hcell:∀ (j:Nat) (c:Value),cells[j]? = some c→w.cell? ⟨t1.blk,t1.off + j,none⟩ = some c:=fun j c hc=>by
      obtain ⟨u',hu',hv'⟩:=o3 j c hc
      rw [hv'.scal_eq (hsc c (List.mem_of_getElem? hc))] at hu'
      exact hu'
     have hk0:∀ b',¬ ((⟨t1.blk,t1.off,t1.lim,n * sz,sz,no⟩:Tgt).inn b'):=fun _ h=>h
     have hxl:xs.length = n:=el
     have hnp:0 < n:=hn
     obtain ⟨H2,S2⟩:=H.retake (t2:=⟨t1.blk,t1.off,t1.lim,n * sz,sz,no⟩) (w':=w) (by rw [hat];rfl) (by rw [hat];rfl) hr (.vec L.ks xs true) rfl rfl rfl rfl rfl (fun _ _=>rfl)
      ⟨okK_of_flat hfl,⟨hsz,by omega,by rw [hxl,hsz]⟩,fun h=>by omega,fun _=>⟨by rw [hxl,← hsz,← hcl];exact o2,fun i y hy=>RowIn.of_vals hfl fun j c hc=>by
       have e:=hg i y hy
       have hj:j < L.ks.length:=by
        have:=(List.getElem?_eq_some_iff.1 hc).1
        rwa [toVs_len] at this
       rw [← e,List.getElem?_take,if_pos hj,List.getElem?_drop] at hc
       have:=hcell _ _ hc
       rw [show t1.off + i * L.ks.length + j = t1.off + (i * L.ks.length + j) by omega]
       exact this,fun _=>o4 rfl⟩⟩
      (Sub.refl r h) rfl (fun k hk=>(hk0 k hk).elim)
     have hxs':x ≠ s:=fun e=>by rw [e,hρ] at hρx;cases hρx
     have hrun:=ops_appE (G:=G) (GB:=GB) (ρA:=fun y=>@ite _ (y = s) (Classical.propDecidable _) (.slice (some ⟨K0 + h.length,1,some 0⟩) n sz) (ρA y)) ho hu hi (h:=h.put b .dead++[.vec L.ks xs true]) (v:=v) (h':=h') (by
      simp only [if_pos,if_neg hxs']
      exact hap)
     obtain ⟨r',u,w',e1,S,H',V⟩:=hrun _ a w H2 (fun y hy=>by
      by_cases hys:y = s
      ·simp only [hys,if_pos]
       rw [hu1]
       exact .asl _ _ _ _ _ (Ren.put_self ..) (by omega) ⟨rfl,hz,rfl,.inr ⟨hn,cap,hcap,by simpa using hlim,by simp⟩⟩
      ·simp only [if_neg hys]
       exact (R y hy).mono S2.le)
     exact ⟨r',u,w',e1,S2.trans S,H',V⟩
    ·exact absurd hk (by rw [h0];decide)
   ·simp [condP] at hap
  ·simp [condP] at hap
 ·simp [condP] at hap
theorem src_vec {r:Ren} {h:Heap} {w:World} (H:HR G GB r h w) {bx n sz:Nat} {ks:List Kd} {l:List (Tup ks)} {u:Value} (hat:h.at bx = .vec ks l true) (hv:VR r (.slice (some ⟨bx,1,some 0⟩) n sz) u) :
  ∃ (I:Nat→Prop) (us:List Value),Src w I ks l u us∧∀ k,I k→k < w.heap.size∧¬ Owned r h k∧Mine r h k:=by
 obtain ⟨t,hr,hK,q1,q2,q3,q4⟩:=hv.as'
 obtain ⟨hlt,hok,⟨o1,o2,o3⟩,o4,o5⟩:=H.vecAt hat hr
 have hsz:sz = ks.length:=by omega
 subst hsz
 have hNn:n = l.length:=by rw [q3] at o3;exact Nat.eq_of_mul_eq_mul_right q2 o3
 subst hNn
 have hI:∀ k,t.inn k→k < w.heap.size∧¬ Owned r h k∧Mine r h k:=fun k hk=>by
  obtain ⟨x,y⟩:=H.frz bx t (by rw [hat];rfl) hr k hk
  have hpos:0 < l.length:=Nat.pos_of_ne_zero fun e=>(o4 e).2 k hk
  exact ⟨x,y,bx,t,by rw [hat];show (true && Nat.blt 0 l.length) = true;rw [Bool.true_and,Nat.blt_eq];exact hpos,hr,.inr hk⟩
 rcases q4 with ⟨h0,hE⟩ | ⟨hn,cap,hcap,_,rfl⟩
 ·have:l = []:=List.length_eq_zero_iff.1 h0
  subst this
  refine ⟨t.inn,[],⟨by simp,fun _=>?_,fun h=>by simp at h,fun u hu=>by simp at hu,fun i x hx=>by simp at hx⟩,hI⟩
  rcases hE with h | ⟨a,h⟩
  ·exact ⟨_,_,h⟩
  ·exact ⟨_,_,h⟩
 ·obtain ⟨p1,p2,_⟩:=o5 hn
  have hcell:∀ q,q < l.length * ks.length→∃ v,w.cell? ⟨t.blk,t.off + q,none⟩ = some v∧v.oneCell' = true:=fun q hq=>by
   have hi:q / ks.length < l.length:=Nat.div_lt_of_lt_mul (by rw [Nat.mul_comm];exact hq)
   obtain ⟨v,e1,e2⟩:=(p2 _ _ (nth_get hi)).get hok (q % ks.length) (Nat.mod_lt _ q2)
   refine ⟨v,?_,e2⟩
   rw [← e1]
   congr 2
   have:=Nat.div_add_mod q ks.length
   rw [Nat.mul_comm] at this
   omega
  have hget:∀ q v,((List.range (l.length * ks.length)).map fun q=>(w.cell? ⟨t.blk,t.off + q,none⟩).getD undef)[q]? = some v→w.cell? ⟨t.blk,t.off + q,none⟩ = some v∧v.oneCell' = true:=fun q v hq=>by
   have hl:=(List.getElem?_eq_some_iff.1 hq).1
   simp at hl
   obtain ⟨v',h1,h2⟩:=hcell q hl
   simp [hl,h1] at hq
   subst hq
   exact ⟨h1,h2⟩
  refine ⟨t.inn,(List.range (l.length * ks.length)).map fun q=>(w.cell? ⟨t.blk,t.off + q,none⟩).getD undef,⟨by simp,fun h=>by omega,fun _=>⟨_,cap,rfl,fun j y hj=>?_⟩,fun u hu=>?_,fun i x hx=>?_⟩,hI⟩
  ·have hadd:(⟨t.blk,t.off,none⟩:Addr).add j = ⟨t.blk,t.off + j,none⟩:=addr_add ..
   rw [hadd];exact (hget j y hj).1
  ·obtain ⟨j,hj⟩:=List.getElem?_of_mem hu
   exact (hget j u hj).2
  ·refine (p2 i x hx).congr fun j hj=>?_
   have hi:=(List.getElem?_eq_some_iff.1 hx).1
   have hq:i * ks.length + j < l.length * ks.length:=by
    have:(i + 1) * ks.length ≤ l.length * ks.length:=Nat.mul_le_mul_right _ hi
    rw [Nat.succ_mul] at this;omega
   obtain ⟨v,e1,_⟩:=hcell _ hq
   simp only [List.getElem?_map,List.getElem?_range hq,Option.map_some,e1,Option.getD_some]
   rw [show t.off + i * ks.length + j = t.off + (i * ks.length + j) by omega,e1]
theorem ops_appM {t e:TypeId} {s x:Operand} {z:ATy} (ho:o.op = .call { callee:=.builtin .append,args:=#[s,x],argTypes:=#[t,t] }) (hu:P.underlying t = some (.slice e)) (hi:P.info? e = some z.info)
  (hap:condP (appM z h (ρA s) (ρA x)) = some (v,h')):OpS P G GB o ρA h v h':=fun r a w H R=>by
 have hs:=R s (by simp [ho,Op.operands,Call.operands])
 have hx:=R x (by simp [ho,Op.operands,Call.operands])
 have hrun:∀ u w',(Builtin.append_ #[t,t] o.type #[a.eval s,a.eval x]).run P w = .ok u w'→(execOp a.eval o).run P w = .ok (.value u) w':=fun u w' hr=>by
  simp [execOp,ho,resolve,invoke,builtin,hr]
 unfold appM at hap
 simp only [appR_eq,lenR_eq] at hap
 split at hap
 ·simp [condP] at hap
 ·rename_i zv hz
  split at hap
  ·simp [condP] at hap
  ·rename_i hc
   simp only [Bool.and_eq_true,Nat.beq_eq,Nat.blt_eq] at hc
   obtain ⟨hzs,hzp⟩:=hc
   split at hap
   ·rename_i b n sz bx nx szx hρ hρx
    split at hap
    ·rename_i ks l ks' l' hat hatx
     split at hap
     ·rename_i xs hbeq hrc
      rw [Nat.beq_eq] at hbeq
      subst hbeq
      obtain ⟨e1,e2⟩:=recast_eq hrc
      subst e1
      subst e2
      rw [hρ] at hs
      rw [hρx] at hx
      obtain ⟨hg,hv'⟩:=cond_some hap
      simp only [Bool.and_eq_true,Nat.ble_eq] at hg
      obtain ⟨rfl,rfl⟩:=Prod.mk.inj hv'
      obtain ⟨I,us,S,hI⟩:=src_vec H hatx hx
      obtain ⟨r',u,w',e1,e2,e3,e4⟩:=append_list (P:=P) (ty':=o.type) H hu hi hz hzs hzp hat hs S (.refl r h) rfl hI hg.1 hg.2
      exact ⟨r',u,w',.inl (hrun _ _ e1),e2,e3,e4⟩
     ·simp [condP] at hap
    ·simp [condP] at hap
   ·simp [condP] at hap
theorem ops_appX {t e:TypeId} {s x:Operand} {z:ATy} (ho:o.op = .call { callee:=.builtin .append,args:=#[s,x],argTypes:=#[t,t] }) (hu:P.underlying t = some (.slice e)) (hi:P.info? e = some z.info)
  (hap:condP (appX z h (ρA s) (ρA x)) = some (v,h')):OpS P G GB o ρA h v h':=by
 unfold appX at hap
 cases hE:appE z h (ρA s) (ρA x) with
 | some p=>
   rw [hE] at hap
   exact ops_appE ho hu hi (by rw [hE];exact hap)
 | none=>
   rw [hE] at hap
   cases hN:appN z h (ρA s) (ρA x) with
   | some p=>
     rw [hN] at hap
     exact ops_appN ho hu hi (by rw [hN];exact hap)
   | none=>
     rw [hN] at hap
     simp only at hap
     cases hL:appL z h (ρA s) (ρA x) with
     | some p=>
       rw [hL] at hap
       exact ops_appL ho hu hi (by rw [hL];exact hap)
     | none=>
       rw [hL] at hap
       exact ops_appM ho hu hi hap
end ops
end
end Go.Am
namespace Go.Am
noncomputable section
open Go Go.RowKit
variable {P:Program} {ty:TypeId→Option ATy} {G:Gl} {GB:Nat}
theorem arr1 {α:Type} {a:Array α} {x:α} (h:a.toList = [x]):a = #[x]:=by
 rw [← Array.toArray_toList (xs:=a),h]
theorem arr2 {α:Type} {a:Array α} {x y:α} (h:a.toList = [x,y]):a = #[x,y]:=by
 rw [← Array.toArray_toList (xs:=a),h]
theorem sameSl_some (hty:TyOk P ty) {t t' e:TypeId} {y:ATy} (h:sameSl ty t t' = true) (hy:ty t = some y) (hd:y.desc = .slice e):∃ e',P.underlying t' = some (.slice e'):=by
 unfold sameSl at h
 split at h
 ·rename_i hb
  rw [Nat.beq_eq] at hb
  subst hb
  exact ⟨e,by rw [(hty t y hy).2,hd]⟩
 ·split at h
  ·rename_i y1 y' _ hy'
   split at h
   ·rename_i e1 e' _ hd'
    exact ⟨e',by rw [(hty t' y' hy').2,hd']⟩
   ·cases h
  ·cases h
theorem run_append2 (w:World) (t t' ty e e':TypeId) (args:Array Value) (hu:P.underlying t = some (.slice e)) (hu':P.underlying t' = some (.slice e')) :
  (Builtin.append_ #[t,t'] ty args).run P w = (Builtin.append_ #[t,t] ty args).run P w:=by
 have h1:∀ (t:TypeId) (e:TypeId) (hu:P.underlying t = some (.slice e)) (w:World),(underlying t).run P w = .ok (.slice e) w:=fun t e hu w=>by
  simp [underlying,hu]
 unfold Builtin.append_
 simp only [List.getElem?_toArray,List.getElem?_cons_zero,List.getElem?_cons_succ]
 cases args[0]? with
 | none=>rfl
 | some s=>cases args[1]? with
   | none=>rfl
   | some x=>cases s <;> simp [h1 t e hu,h1 t' e' hu']
theorem ops_app2 {o:Oper} {ρA:Operand→Value} {h h':Heap} {v:Value} {t t' e:TypeId} {s x:Operand} (ho:o.op = .call { callee:=.builtin .append,args:=#[s,x],argTypes:=#[t,t'] })
  (hu:P.underlying t = some (.slice e)) (hu':∃ e',P.underlying t' = some (.slice e'))
  (k:∀ o':Oper,o'.op = .call { callee:=.builtin .append,args:=#[s,x],argTypes:=#[t,t] }→OpS P G GB o' ρA h v h'):OpS P G GB o ρA h v h':=fun r a w H R=>by
 obtain ⟨e',hu'⟩:=hu'
 have q:=k { o with op:=.call { callee:=.builtin .append,args:=#[s,x],argTypes:=#[t,t] } } rfl r a w H (fun x hx=>R x (by rw [ho];exact hx))
 have he:(execOp a.eval o).run P w = (execOp a.eval { o with op:=.call { callee:=.builtin .append,args:=#[s,x],argTypes:=#[t,t] } }).run P w:=by
  simp [execOp,ho,resolve,invoke,builtin,run_append2 w t t' o.type e e' _ hu hu']
 rw [he]
 exact q
theorem run_partV (hty:TyOk P ty) {t:TypeId} {cs:Array Value} {off:Nat} {v:Value} (h:partV ty t cs off = some v) (w:World):(part t cs off).run P w = .ok v w:=by
 unfold partV at h
 cases hx:ty t with
 | none=>simp [hx] at h
 | some x=>
   simp only [hx] at h
   obtain ⟨h1,h2⟩:=hty t x hx
   cases ha:isAggD x.desc with
   | true=>
     simp only [ha,Option.some.injEq] at h
     subst h
     have:(isAgg t).run P w = .ok true w:=by
      simp only [isAgg,Sem.run_bind,run_underlying h2,Result.andThen_ok]
      generalize x.desc = dd at ha
      cases dd <;> first | rfl | cases ha
     simp [part,this,run_sizeOf w h1]
   | false=>
     simp only [ha] at h
     have:(isAgg t).run P w = .ok false w:=by
      simp only [isAgg,Sem.run_bind,run_underlying h2,Result.andThen_ok]
      generalize x.desc = dd at ha
      cases dd <;> first | rfl | cases ha
     simp [part,this,h]
theorem eqFs_run (hty:TyOk P ty) {d:Nat} {E:TypeId→Value→Value→Option Bool} (hE:∀ t x y b,E t x y = some b→∀ w,(Op.equalIn d t x y).run P w = .ok b w) (xs ys:Array Value) :
  ∀ (fs:List Field) (b:Bool),eqFs ty E xs ys fs = some b→∀ w,(Op.eqFields d xs ys fs).run P w = .ok b w
 | [],b,h,w=>by simp [eqFs] at h;subst h;simp [Op.eqFields]
 | f :: fs,b,h,w=>by
   unfold eqFs at h
   by_cases hn : f.name ≠ "_"
   ·simp only [hn,ne_eq,not_false_eq_true,decide_true] at h
    cases h1:partV ty f.type xs f.offset with
    | none=>simp [h1] at h
    | some a=>
      cases h2:partV ty f.type ys f.offset with
      | none=>simp [h1,h2] at h
      | some a'=>
        simp only [h1,h2] at h
        cases h3:E f.type a a' with
        | none=>simp [h3] at h
        | some r=>
          cases h4:eqFs ty E xs ys fs with
          | none=>simp [h3,h4] at h
          | some q=>
            simp only [h3,h4,Option.some.injEq] at h
            subst h
            simp only [Op.eqFields,hn,ne_eq,not_false_eq_true,if_true,Sem.run_bind,run_partV hty h1,run_partV hty h2,hE _ _ _ _ h3,Result.andThen_ok]
            cases r
            ·simp
            ·simpa using eqFs_run hty hE xs ys fs q h4 w
   ·simp only [hn,decide_false] at h
    have:=eqFs_run hty hE xs ys fs b h w
    simpa [Op.eqFields,hn] using this
theorem eqIs_run (hty:TyOk P ty) {d:Nat} {E:TypeId→Value→Value→Option Bool} (hE:∀ t x y b,E t x y = some b→∀ w,(Op.equalIn d t x y).run P w = .ok b w) (e:TypeId) (c:Nat) (xs ys:Array Value) :
  ∀ (is:List Nat) (b:Bool),eqIs ty E e c xs ys is = some b→∀ w,(Op.eqItems d e c xs ys is).run P w = .ok b w
 | [],b,h,w=>by simp [eqIs] at h;subst h;simp [Op.eqItems]
 | i :: is,b,h,w=>by
   unfold eqIs at h
   cases h1:partV ty e xs (i * c) with
   | none=>simp [h1] at h
   | some a=>
     cases h2:partV ty e ys (i * c) with
     | none=>simp [h1,h2] at h
     | some a'=>
       simp only [h1,h2] at h
       cases h3:E e a a' with
       | none=>simp [h3] at h
       | some r=>
         cases h4:eqIs ty E e c xs ys is with
         | none=>simp [h3,h4] at h
         | some q=>
           simp only [h3,h4,Option.some.injEq] at h
           subst h
           simp only [Op.eqItems,Sem.run_bind,run_partV hty h1,run_partV hty h2,hE _ _ _ _ h3,Result.andThen_ok]
           cases r
           ·simp
           ·simpa using eqIs_run hty hE e c xs ys is q h4 w
theorem eqT_run (hty:TyOk P ty) (d:Nat):∀ (m:Nat) (t:TypeId) (x y:Value) (b:Bool),eqT P ty m t x y = some b→∀ w,(Op.equalIn (d + m) t x y).run P w = .ok b w
 | 0,t,x,y,b,h,w=>by simp [eqT] at h
 | m + 1,t,x,y,b,h,w=>by
   have ih:=eqT_run hty d m
   unfold eqT at h
   cases hi:ty t with
   | none=>simp [hi] at h
   | some i=>
     simp only [hi] at h
     obtain ⟨_,hu⟩:=hty t i hi
     rw [show d + (m + 1) = (d + m) + 1 from rfl]
     split at h
     ·rename_i a a' hd
      rw [hd] at hu
      cases h
      exact run_equalIn_bool w _ t _ _ hu
     ·rename_i k0 k a k' a' hd
      rw [hd] at hu
      by_cases hk:k = k'
      ·subst hk
       simp only [decide_true,Option.some.injEq] at h
       subst h
       exact run_equalIn_int w _ t _ _ _ _ hu
      ·simp [hk] at h
     ·rename_i a a' hd
      rw [hd] at hu
      cases h
      exact run_equalIn_string w _ t _ _ hu
     ·rename_i fs xs ys hd
      rw [hd] at hu
      cases hp:P.stoodInHeld t with
      | true=>simp [hp] at h
      | false=>
        simp only [hp] at h
        have hf:P.fieldsOf t = fs:=by simp [Program.fieldsOf,hu]
        rw [run_equalIn_struct w (d + m) t xs ys (by rw [hf];exact hu) hp,hf]
        exact eqFs_run hty ih xs ys _ b h w
     ·rename_i n e xs ys hd
      rw [hd] at hu
      cases hz:ty e with
      | none=>simp [hz] at h
      | some z=>
        simp only [hz] at h
        obtain ⟨hz1,_⟩:=hty e z hz
        rw [run_equalIn_array w (d + m) xs ys hu hz1]
        have hc:P.cellsOf e = z.info.size:=by simp [Program.cellsOf,hz1]
        rw [hc]
        exact eqIs_run hty ih e _ xs ys _ b h w
     ·cases h
theorem run_slice_nil (w:World) (t e:TypeId) (a:Addr) (l c:Nat) (h:P.underlying t = some (.slice e)):(Op.equal t (.slice (some a) l c) (.slice none 0 0)).run P w = .ok false w:=by
 have key:∀ d:Nat,(Op.equalIn (d + 1) t (.slice (some a) l c) (.slice none 0 0)).run P w = .ok false w:=fun d=>by simp [Op.equalIn,run_underlying h]
 exact key 9999
theorem ops_bin (hty:TyOk P ty) {o:Oper} {op:BinOp} {t:TypeId} {x y:Operand} {i:TypeId} {ρA:Operand→Value} {h h':Heap} {v:Value} (ho:o.op = .binOp op t x y i)
  (hv:binV P ty o op t x y ρA h = some (v,h')):OpS P G GB o ρA h v h':=by
 unfold binV at hv
 split at hv
 ·rename_i xs ys hx hy
  cases hp:plain (.agg xs) && plain (.agg ys) with
  | false=>simp [hp] at hv
  | true=>
    simp only [hp] at hv
    simp only [Bool.and_eq_true] at hp
    unfold eqAgg at hv
    split at hv
    ·rename_i b hg he
     have key:∀ (r:Ren) (a:Act),(∀ z ∈ o.op.operands.toList,VR r (ρA z) (a.eval z))→a.eval x = .agg xs∧a.eval y = .agg ys:=fun r a R=>by
      have h1:=R x (by simp [ho,Op.operands])
      have h2:=R y (by simp [ho,Op.operands])
      rw [hx] at h1;rw [hy] at h2
      exact ⟨h1.plain_eq hp.1,h2.plain_eq hp.2⟩
     have hr:=eqT_run hty 9980 20 t _ _ b he
     split at hv
     ·simp only [Option.some.injEq,Prod.mk.injEq] at hv;obtain ⟨rfl,rfl⟩:=hv
      refine .val fun r a w _ R=>⟨.bool b,?_,plain_refl r rfl⟩
      obtain ⟨e1,e2⟩:=key r a R
      simp [execOp,ho,e1,e2,run_eqGuard_agg w _ t x y xs ys hg,run_eql_struct w t xs ys,hr w]
     ·simp only [Option.some.injEq,Prod.mk.injEq] at hv;obtain ⟨rfl,rfl⟩:=hv
      refine .val fun r a w _ R=>⟨.bool (!b),?_,plain_refl r rfl⟩
      obtain ⟨e1,e2⟩:=key r a R
      simp [execOp,ho,e1,e2,run_eqGuard_agg w _ t x y xs ys hg,run_neq_struct w t xs ys,hr w]
     ·cases hv
    ·cases hv
 ·rename_i k a k' b hx hy
  split at hv
  ·rename_i u hk hf
   simp only [decide_eq_true_eq] at hk
   subst hk
   simp only [Option.some.injEq,Prod.mk.injEq] at hv;obtain ⟨rfl,rfl⟩:=hv
   refine .val fun r ac w _ R=>⟨u,?_,?_⟩
   ·have h1:=R x (by simp [ho,Op.operands])
    have h2:=R y (by simp [ho,Op.operands])
    rw [hx] at h1;rw [hy] at h2
    have e1:=h1.int
    have e2:=h2.int
    cases op <;> simp only [fastI,Option.some.injEq,reduceCtorEq] at hf <;> subst hf <;> simp [execOp,ho,e1,e2,eqGuard,Go.binOp,Op.intArith,Op.intCmp]
   ·cases op <;> simp only [fastI,Option.some.injEq,reduceCtorEq] at hf <;> subst hf <;> exact .scal _ rfl
  ·exact ops_plain (fun cs b e=>by rw [ho] at e;cases e) hv
 ·rename_i i1 o1 n sz hx hy
  have key:∀ (r:Ren) (a:Act),(∀ z ∈ o.op.operands.toList,VR r (ρA z) (a.eval z))→(∃ p m c,a.eval x = .slice (some p) m c)∧a.eval y = .slice none 0 0:=fun r a R=>by
   have h1:=R x (by simp [ho,Op.operands])
   have h2:=R y (by simp [ho,Op.operands])
   rw [hx] at h1;rw [hy] at h2
   refine ⟨?_,h2.plain_eq rfl⟩
   revert h1
   generalize a.eval x = u
   intro h1
   cases h1 with
   | scal _ hs=>simp [scal] at hs
   | slice=>exact ⟨_,_,_,rfl⟩
   | slice0=>exact ⟨_,_,_,rfl⟩
  split at hv
  ·rename_i y hy2
   split at hv
   ·rename_i e hd
    simp only [Option.some.injEq,Prod.mk.injEq] at hv;obtain ⟨rfl,rfl⟩:=hv
    refine .val fun r a w _ R=>⟨.bool false,?_,.scal _ rfl⟩
    obtain ⟨⟨p,m,c,e1⟩,e2⟩:=key r a R
    simp [execOp,ho,e1,e2,eqGuard,Go.binOp,run_slice_nil w t e p m c (by rw [(hty t y hy2).2,hd])]
   ·rename_i e hd
    simp only [Option.some.injEq,Prod.mk.injEq] at hv;obtain ⟨rfl,rfl⟩:=hv
    refine .val fun r a w _ R=>⟨.bool true,?_,.scal _ rfl⟩
    obtain ⟨⟨p,m,c,e1⟩,e2⟩:=key r a R
    simp [execOp,ho,e1,e2,eqGuard,Go.binOp,run_slice_nil w t e p m c (by rw [(hty t y hy2).2,hd])]
   ·cases hv
  ·cases hv
 ·rename_i i1 o1 lo n sz hx hy
  have key:∀ (r:Ren) (a:Act),(∀ z ∈ o.op.operands.toList,VR r (ρA z) (a.eval z))→(∃ p m c,a.eval x = .slice (some p) m c)∧a.eval y = .slice none 0 0:=fun r a R=>by
   have h1:=R x (by simp [ho,Op.operands])
   have h2:=R y (by simp [ho,Op.operands])
   rw [hx] at h1;rw [hy] at h2
   refine ⟨?_,h2.plain_eq rfl⟩
   revert h1
   generalize a.eval x = u
   intro h1
   cases h1 with
   | scal _ hs=>simp [scal] at hs
   | vsl _ _ _ t _ _ _ hv _=>
     obtain ⟨_,_,⟨h0,_⟩ | ⟨_,_,cap,_,_,e⟩⟩:=hv
     ·cases h0
     ·subst e;exact ⟨_,_,_,rfl⟩
   | sub _ _ _ _ t _ _ _ hv=>
     obtain ⟨_,_,⟨h0,_⟩ | ⟨_,_,cap,_,_,e⟩⟩:=hv
     ·cases h0
     ·subst e;exact ⟨_,_,_,rfl⟩
   | asl _ _ _ t _ _ _ hv=>
     obtain ⟨_,_,_,⟨h0,_⟩ | ⟨_,cap,_,_,e⟩⟩:=hv
     ·cases h0
     ·subst e;exact ⟨_,_,_,rfl⟩
  split at hv
  ·rename_i y hy2
   split at hv
   ·rename_i e hd
    simp only [Option.some.injEq,Prod.mk.injEq] at hv;obtain ⟨rfl,rfl⟩:=hv
    refine .val fun r a w _ R=>⟨.bool false,?_,.scal _ rfl⟩
    obtain ⟨⟨p,m,c,e1⟩,e2⟩:=key r a R
    simp [execOp,ho,e1,e2,eqGuard,Go.binOp,run_slice_nil w t e p m c (by rw [(hty t y hy2).2,hd])]
   ·rename_i e hd
    simp only [Option.some.injEq,Prod.mk.injEq] at hv;obtain ⟨rfl,rfl⟩:=hv
    refine .val fun r a w _ R=>⟨.bool true,?_,.scal _ rfl⟩
    obtain ⟨⟨p,m,c,e1⟩,e2⟩:=key r a R
    simp [execOp,ho,e1,e2,eqGuard,Go.binOp,run_slice_nil w t e p m c (by rw [(hty t y hy2).2,hd])]
   ·cases hv
  ·cases hv
 ·exact ops_plain (fun cs b e=>by rw [ho] at e;cases e) hv
theorem ops_convV (hty:TyOk P ty) {o:Oper} {ρA:Operand→Value} {h h':Heap} {v:Value} {t t':TypeId} {x:Operand} (ho:o.op = .convert t t' x) (hv:(match isRow (ρA x) with
  | true=>convB ty h t t' (ρA x)
  | false=>plainOp P o ρA h) = some (v,h')):OpS P G GB o ρA h v h':=by
 split at hv
 ·unfold convB at hv
  split at hv
  ·rename_i y y' hy hy'
   split at hv
   ·rename_i e hd hd'
    split at hv
    ·rename_i z hz
     split at hv
     ·rename_i n cs h8 hs
      split at hv
      ·rename_i bs hb
       simp only [Option.some.injEq,Prod.mk.injEq] at hv;obtain ⟨rfl,rfl⟩:=hv
       have h9:z.desc = .int .u8:=by
        unfold isU8 at h8
        split at h8
        ·assumption
        ·cases h8
       exact ops_convB ho (by rw [(hty t y hy).2,hd]) (by rw [(hty t' y' hy').2,hd']) (by rw [(hty _ _ hz).2,h9]) hs hb
      ·cases hv
     ·cases hv
    ·cases hv
   ·cases hv
  ·cases hv
 ·exact ops_plain (fun cs b e=>by rw [ho] at e;cases e) hv
theorem keyT_run (hty:TyOk P ty) (em:Bool) (d:Nat):∀ (m:Nat) (t:TypeId) (v:Value),keyT ty m t v = true→∀ w,(Instr.checkKey em (d + m) t v).run P w = .ok () w
 | 0,t,v,h,w=>by simp [keyT] at h
 | m + 1,t,v,h,w=>by
   have ih:=keyT_run hty em d m
   unfold keyT at h
   cases hi:ty t with
   | none=>simp [hi] at h
   | some i=>
     simp only [hi] at h
     obtain ⟨_,hu⟩:=hty t i hi
     rw [show d + (m + 1) = (d + m) + 1 from rfl,Instr.checkKey]
     simp only [Sem.run_bind,run_underlying hu,Result.andThen_ok]
     split at h
     ·rename_i hd;rw [hd];(split <;> simp_all)
     ·rename_i hd;rw [hd];(split <;> simp_all)
     ·rename_i hd;rw [hd];(split <;> simp_all)
     ·rename_i fs cs hd
      rw [hd]
      simp only
      rw [← Array.forIn_toList]
      rw [List.all_eq_true] at h
      generalize fs.toList = L at h
      induction L with
      | nil=>simp
      | cons f L ihL=>
        have hf:=h f (by simp)
        simp only [Bool.and_eq_true,decide_eq_true_eq] at hf
        obtain ⟨hn,hp⟩:=hf
        cases hpv:partV ty f.type cs f.offset with
        | none=>simp [hpv] at hp
        | some a=>
          simp only [hpv] at hp
          simp only [List.forIn_cons,Sem.run_bind,hn,ne_eq,not_false_eq_true,if_true,Result.andThen_ok,run_partV hty hpv,ih f.type a hp,Sem.run_pure]
          have key:=ihL (fun y hy=>h y (by simp [hy]))
          simpa only [Sem.run_bind,ne_eq,Sem.run_pure] using key
     ·rename_i n e cs hd
      rw [hd]
      simp only
      cases hz:ty e with
      | none=>simp [hz] at h
      | some z=>
        simp only [hz] at h
        obtain ⟨hz1,_⟩:=hty e z hz
        simp only [Std.Legacy.Range.forIn_eq_forIn_range',Std.Legacy.Range.size,Nat.sub_zero,Nat.add_one_sub_one,Nat.div_one]
        rw [List.range_eq_range',List.all_eq_true] at h
        generalize List.range' 0 n = is at h
        induction is with
        | nil=>simp
        | cons j is ihI=>
          have hj:=h j (by simp)
          cases hpv:partV ty e cs (j * z.info.size) with
          | none=>simp [hpv] at hj
          | some a=>
            simp only [hpv] at hj
            simp only [List.forIn_cons,Sem.run_bind,run_sizeOf w hz1,Result.andThen_ok,run_partV hty hpv,ih e a hj,Sem.run_pure]
            have key:=ihI (fun y hy=>h y (by simp [hy]))
            simpa only [Sem.run_bind,Sem.run_pure] using key
     ·cases h
theorem findAsking_run (hty:TyOk P ty) {r:Ren} {kt:TypeId} {key:Value} (w:World):∀ (es:List (Value × Value)) (ents:List MapEntry) (i:Nat) (x:Option (Nat × Value)),
  ents.length = es.length→(∀ (j:Nat) (a v:Value),es[j]? = some (a,v)→∃ e,ents[j]? = some e∧e.key = a∧VR r v e.val) →
  findKeyE P ty kt key es i = some x →
  ∃ x',(Instr.findAsking kt key ents i).run P w = .ok x' w∧((x = none∧x' = none) ∨ ∃ n v u,x = some (n,v)∧x' = some (n,u)∧VR r v u)
 | [],ents,i,x,hl,_,hf=>by
   have:ents = []:=List.length_eq_zero_iff.1 (by simpa using hl)
   subst this
   simp only [findKeyE,Option.some.injEq] at hf
   subst hf
   exact ⟨none,by simp [Instr.findAsking],.inl ⟨rfl,rfl⟩⟩
 | (a,v) :: es,ents,i,x,hl,hr,hf=>by
   cases ents with
   | nil=>simp at hl
   | cons e ents=>
     obtain ⟨e',he',hk,hv⟩:=hr 0 a v rfl
     simp at he';subst he'
     simp only [findKeyE] at hf
     cases hsk:eqT P ty 20 kt key a with
     | none=>simp [hsk] at hf
     | some t=>
       have hq:(Op.equal kt key e.key).run P w = .ok t w:=by rw [hk];exact eqT_run hty 9980 20 kt key a t hsk w
       simp only [hsk] at hf
       cases t with
       | true=>
         simp only [Option.some.injEq] at hf
         subst hf
         exact ⟨some (i,e.val),by simp [Instr.findAsking,hq],.inr ⟨i,v,e.val,rfl,rfl,hv⟩⟩
       | false=>
         obtain ⟨x',h1,h2⟩:=findAsking_run hty (r:=r) w es ents (i + 1) x (by simpa using hl) (fun j a' v' hj=>by simpa using hr (j + 1) a' v' (by simpa using hj)) hf
         exact ⟨x',by simp [Instr.findAsking,hq,h1],h2⟩
theorem run_findAny (hty:TyOk P ty) {r:Ren} (w:World) {kt:TypeId} {kd:TypeDesc} (hu:P.underlying kt = some kd) {key:Value} {es:List (Value × Value)} {ents:Array MapEntry}
  (hl:ents.size = es.length) (hr:∀ (j:Nat) (a v:Value),es[j]? = some (a,v)→∃ e,ents[j]? = some e∧e.key = a∧VR r v e.val) {x:Option (Nat × Value)} (hf:findAny P ty kd kt key es = some x) :
  plain key = true∧(∀ em,(Instr.checkKey em 10000 kt key).run P w = .ok () w) ∧
  ∃ x',(Instr.findKey kt key ents.toList).run P w = .ok x' w∧((x = none∧x' = none) ∨ ∃ n v u,x = some (n,v)∧x' = some (n,u)∧VR r v u):=by
 unfold findAny at hf
 cases ha:aggKey key with
 | false=>
   simp only [ha] at hf
   cases hk:keyFits kd key with
   | false=>simp [hk] at hf
   | true=>
     simp only [hk] at hf
     have hks:=keyFits_kind hk
     exact ⟨plain_of_scal hks.2,fun em=>run_checkKey' w em hu hks.1 key,run_findKey w hu hk hl hr hf⟩
 | true=>
   simp only [ha] at hf
   cases hp:plain key && keyT ty 20 kt key with
   | false=>simp [hp] at hf
   | true=>
     simp only [hp] at hf
     simp only [Bool.and_eq_true] at hp
     refine ⟨hp.1,fun em=>keyT_run hty em 9980 20 kt key hp.2 w,?_⟩
     obtain ⟨x',h1,h2⟩:=findAsking_run hty (r:=r) w es ents.toList 0 x (by simpa using hl) (fun j a v hj=>by simpa using hr j a v hj) hf
     have hnow:∀ (e:MapEntry) (l:List MapEntry),Instr.findNow kd key (e :: l) 0 = none:=fun e l=>by
      cases key <;> simp [aggKey] at ha
      cases kd <;> simp [Instr.findNow,Instr.sameNow]
     cases hents:ents.toList with
     | nil=>
       rw [hents] at h1
       exact ⟨x',by simpa [Instr.findKey,run_underlying hu,Instr.findNow,Instr.findAsking] using h1,h2⟩
     | cons e l=>
       rw [hents] at h1
       exact ⟨x',by simpa [Instr.findKey,run_underlying hu,hnow] using h1,h2⟩
section entries
variable {o:Oper} {ρA:Operand→Value} {h h':Heap} {v:Value}
theorem ptOf_some {v:Value} {p:Int × Int} (h:ptOf v = some p):v = toV .pt p:=by
 unfold ptOf at h
 split at h
 ·rename_i cs
  split at h
  ·rename_i a b hl
   cases h
   obtain ⟨l⟩:=cs
   simp only at hl
   subst hl
   rfl
  ·cases h
 ·cases h
theorem ptF_inv {f : Field} {o : Nat} (h : ptF ty f o = true) : decide (f.name ≠ "_") = true ∧ f.offset = o ∧ ∃ i k, ty f.type = some i ∧ i.desc = .int k := by
 unfold ptF at h
 simp only [Bool.and_eq_true] at h
 obtain ⟨h1,h2,h3⟩:=h
 refine ⟨h1,Nat.eq_of_beq_eq_true h2,?_⟩
 split at h3
 ·rename_i i hi
  split at h3
  ·rename_i k hk
   exact ⟨i,k,hi,hk⟩
  ·cases h3
 ·cases h3
theorem ptT_inv {k:TypeId} (h:ptT P ty k = true):∃ kt fs f g,ty k = some kt∧kt.desc = .struct fs∧fs.toList = [f,g]∧P.stoodInHeld k = false∧ptF ty f 0 = true∧ptF ty g 1 = true:=by
 unfold ptT at h
 split at h
 ·rename_i kt hk
  split at h
  ·rename_i fs hd
   split at h
   ·rename_i f g hl
    simp only [Bool.and_eq_true,Bool.not_eq_true'] at h
    exact ⟨kt,fs,f,g,hk,hd,hl,h.1,h.2.1,h.2.2⟩
   ·cases h
  ·cases h
 ·cases h
theorem part_pt {f:Field} {o:Nat} (h:ptF ty f o = true) (cs:Array Value):partV ty f.type cs f.offset = cs[o]?:=by
 obtain ⟨_,rfl,i,k,hi,hd⟩:=ptF_inv h
 simp only [partV,hi,hd,isAggD]
theorem eqT_int {f:Field} {o:Nat} (h:ptF ty f o = true) (a b:Int) (d:Nat):eqT P ty (d + 1) f.type (.int .i64 a) (.int .i64 b) = some (a == b):=by
 obtain ⟨_,_,i,k,hi,hd⟩:=ptF_inv h
 simp only [eqT,hi,hd,decide_true]
theorem eqT_st {d:Nat} {k:TypeId} {kt:ATy} {fs:Array Field} {xs ys:Array Value} (h1:ty k = some kt) (h2:kt.desc = .struct fs) (h4:P.stoodInHeld k = false):eqT P ty (d + 1) k (.agg xs) (.agg ys) = eqFs ty (eqT P ty d) xs ys fs.toList:=by
 simp only [eqT,h1,h2,h4]
theorem keyT_st {d : Nat} {k : TypeId} {kt : ATy} {fs : Array Field} {cs : Array Value} (h1 : ty k = some kt) (h2 : kt.desc = .struct fs) : keyT ty (d + 1) k (.agg cs) = fs.toList.all fun f => decide (f.name ≠ "_") && (match partV ty f.type cs f.offset with
  | some a=>keyT ty d f.type a
  | none=>false):=by
 simp only [keyT,h1,h2]
 rfl
theorem same_pt (p:Int × Int):Instr.sameBits 10000 (toV .pt p) (toV .pt p) = true:=by
 show Instr.sameBits (9999 + 1) (.agg #[.int .i64 p.1,.int .i64 p.2]) (.agg #[.int .i64 p.1,.int .i64 p.2]) = true
 simp only [Instr.sameBits]
 have e:∀ z:Int,Instr.sameBits 9999 (.int .i64 z) (.int .i64 z) = true:=fun z=>by
  show ((IntKind.i64 == IntKind.i64) && (z == z)) = true
  simp
 simp [e]
theorem eqT_pt {k:TypeId} (h:ptT P ty k = true) (a b:Int × Int):eqT P ty 20 k (toV .pt a) (toV .pt b) = some (keyEq .pt a b):=by
 obtain ⟨kt,fs,f,g,h1,h2,h3,h4,hf,hg⟩:=ptT_inv h
 refine (eqT_st (d:=19) h1 h2 h4).trans ?_
 rw [h3]
 simp only [eqFs,(ptF_inv hf).1,(ptF_inv hg).1,part_pt hf,part_pt hg]
 show (match eqT P ty 19 f.type (.int .i64 a.1) (.int .i64 b.1),(match eqT P ty 19 g.type (.int .i64 a.2) (.int .i64 b.2),some true with
  | some r,some q=>some (r && q)
  | _,_=>none) with
  | some r,some q=>some (r && q)
  | _,_=>none) = _
 rw [eqT_int hf,eqT_int hg]
 rfl
theorem keyT_pt {k:TypeId} (h:ptT P ty k = true) (a:Int × Int):keyT ty 20 k (toV .pt a) = true:=by
 obtain ⟨kt,fs,f,g,h1,h2,h3,h4,hf,hg⟩:=ptT_inv h
 have e:∀ {f:Field} {o:Nat} (h:ptF ty f o = true) (v:Value),keyT ty 19 f.type v = true:=fun h v=>by
  obtain ⟨_,_,i,k,hi,hd⟩:=ptF_inv h
  simp only [keyT,hi,hd]
 refine (keyT_st (d:=19) h1 h2).trans ?_
 rw [h3]
 simp only [List.all_cons,List.all_nil,(ptF_inv hf).1,(ptF_inv hg).1,part_pt hf,part_pt hg]
 show (true && keyT ty 19 f.type (.int .i64 a.1) && ((true && keyT ty 19 g.type (.int .i64 a.2)) && true)) = true
 rw [e hf,e hg]
 rfl
theorem findKeyE_pt {k:TypeId} (hp:ptT P ty k = true) {vk:Kd} (key:Int × Int):∀ (es:List (El .pt × El vk)) (i:Nat),findKeyE P ty k (toV .pt key) (MapR.ty .pt vk es).list i = some ((posT (kk:=.pt) key es i).map fun n=>(n,toV vk (getT (kk:=.pt) key es)))
 | [],i=>rfl
 | e :: es,i=>by
   have ih:=findKeyE_pt hp key es (i + 1)
   simp only [MapR.list] at ih
   simp only [MapR.list,List.map_cons,findKeyE,posT,getT]
   rw [eqT_pt hp key e.1]
   cases keyEq .pt key e.1 with
   | true=>rfl
   | false=>exact ih
theorem findAny_pt {k:TypeId} {kd:TypeDesc} (hp:ptT P ty k = true) {vk:Kd} (key:Int × Int) (es:List (El .pt × El vk)):findAny P ty kd k (toV .pt key) (MapR.ty .pt vk es).list = some ((posT (kk:=.pt) key es 0).map fun n=>(n,toV vk (getT (kk:=.pt) key es))):=by
 unfold findAny
 rw [show aggKey (toV .pt key) = true from rfl,show plain (toV .pt key) = true from rfl,keyT_pt hp]
 exact findKeyE_pt hp key es 0
theorem ptT_under (hty:TyOk P ty) {k:TypeId} (h:ptT P ty k = true):∃ kd,P.underlying k = some kd:=by
 obtain ⟨kt,_,_,_,h1,_⟩:=ptT_inv h
 exact ⟨_,(hty _ _ h1).2⟩
theorem ops_lookP (hty:TyOk P ty) {t:TypeId} {x i:Operand} {ok:Bool} {M:TM} (ho:o.op = .lookup t x i ok) (hM:tmapOf h (ρA x) = some M) (hv:lookP P ty M t (ρA i) ok h = some (v,h')):OpS P G GB o ρA h v h':=by
 unfold lookP at hv
 split at hv
 ·rename_i vk es own
  split at hv
  ·rename_i y key hy hkey
   split at hv
   ·rename_i k e hd
    split at hv
    ·rename_i et he
     split at hv
     ·rename_i z hz
      cases hc:ptT P ty k && zeroK vk z with
      | false=>rw [hc] at hv;cases hv
      | true=>
        rw [hc] at hv
        simp only [Bool.and_eq_true] at hc
        obtain ⟨hpt,hzk⟩:=hc
        have hvv:v = (if ok then .tuple #[toV vk (getT (kk:=.pt) key es),.bool (hasT (kk:=.pt) key es)] else toV vk (getT (kk:=.pt) key es))∧h' = h:=by
         cases ok
         ·cases hv;exact ⟨rfl,rfl⟩
         ·cases hv;exact ⟨rfl,rfl⟩
        obtain ⟨rfl,rfl⟩:=hvv
        have hu:P.underlying t = some (.map k e):=by rw [(hty t y hy).2,hd]
        obtain ⟨kd,hk⟩:=ptT_under hty hpt
        have hei:=(hty _ _ he).1
        refine .val fun r a w H R=>?_
        have h1:=R x (by simp [ho,Op.operands])
        have h2:=R i (by simp [ho,Op.operands])
        obtain ⟨b,hx,hat⟩:=tmapOf_some hM
        rw [hx] at h1
        obtain ⟨t',ents,clk,he',hr,hlt,hmp,hsz,hes⟩:=H.tmapAt hat h1
        have hsz:ents.size = es.length:=hsz
        have hes:∀ (j:Nat) (k v:Value),(MapR.ty .pt vk es).list[j]? = some (k,v)→plain k = true∧∃ e,ents[j]? = some e∧e.key = k∧VR r v e.val:=hes
        have hik:=ptOf_some hkey
        have hf:=findAny_pt (ty:=ty) (kd:=kd) hpt (vk:=vk) key es
        rw [← hik] at hf
        obtain ⟨hpl,hck,x',hx1,hx2⟩:=run_findAny hty (r:=r) w hk (by simpa [MapR.list] using hsz) (fun j a v hj=>(hes j a v hj).2) hf
        have hi:=h2.plain_eq hpl
        have hhas:=posT_has (kk:=.pt) key es 0
        have hfl:=zeroK_flat hzk
        cases hp:posT (kk:=.pt) key es 0 with
        | none=>
          rw [hp] at hhas hx2
          rcases hx2 with ⟨_,rfl⟩ | ⟨n',v',u,h3,_,_⟩
          ·have hg:=posT_none (kk:=.pt) key es 0 hp
           have hze:=zeroK_eq hzk
           refine ⟨if ok then .tuple #[z,.bool false] else z,?_,?_⟩
           ·simp only [execOp,ho,he',hi,Instr.lookup,Sem.run_bind,run_underlying hu,Result.andThen_ok,Go.getObj,Sem.run,hmp,hck,hx1,Sem.run_pure,zeroValue,typeInfo,run_program,hei,hz]
           ·rw [hg,← hze,← hhas]
            have hpz:plain z = true:=by rw [hze];exact toV_plain _ _ hfl
            cases ok
            ·exact plain_refl r hpz
            ·refine .tup _ _ rfl fun j h4 h5=>?_
             match j,h4 with
             | 0,_=>exact plain_refl r hpz
             | 1,_=>exact .scal _ rfl
          ·cases h3
        | some n=>
          rw [hp] at hhas hx2
          rcases hx2 with ⟨h3,_⟩ | ⟨n',v',u,h3,rfl,hvr⟩
          ·cases h3
          ·simp only [Option.map_some,Option.some.injEq,Prod.mk.injEq] at h3
           obtain ⟨rfl,rfl⟩:=h3
           refine ⟨if ok then .tuple #[u,.bool true] else u,?_,?_⟩
           ·simp only [execOp,ho,he',hi,Instr.lookup,Sem.run_bind,run_underlying hu,Result.andThen_ok,Go.getObj,Sem.run,hmp,hck,hx1,Sem.run_pure]
           ·rw [← hhas]
            cases ok
            ·exact hvr
            ·refine .tup _ _ rfl fun j h4 h5=>?_
             match j,h4 with
             | 0,_=>exact hvr
             | 1,_=>exact .scal _ rfl
     ·cases hv
    ·cases hv
   ·cases hv
  ·cases hv
 ·cases hv
theorem ops_updP (hty:TyOk P ty) {t:TypeId} {m i x:Operand} {M:TM} (ho:o.op = .mapUpdate t m i x) (hM:tmapOf h (ρA m) = some M) (hv:updP P ty M t (ρA m) (ρA i) (ρA x) h = some (v,h')):OpS P G GB o ρA h v h':=by
 unfold updP at hv
 split at hv
 ·rename_i vk es
  split at hv
  ·rename_i b y key val hb hy hkey hval
   split at hv
   ·rename_i k e hd
    cases hpt:ptT P ty k with
    | false=>rw [hpt] at hv;cases hv
    | true=>
      rw [hpt] at hv
      cases hv
      have hu:P.underlying t = some (.map k e):=by rw [(hty t y hy).2,hd]
      obtain ⟨kd,hk⟩:=ptT_under hty hpt
      intro r a w H R
      have h1:=R m (by simp [ho,Op.operands])
      have h2:=R i (by simp [ho,Op.operands])
      have h3:=R x (by simp [ho,Op.operands])
      obtain ⟨b',hx,hat⟩:=tmapOf_some hM
      rw [hb] at hx
      cases hx
      rw [hb] at h1
      have hat:h.at b = .map (.ty .pt vk es) true:=hat
      obtain ⟨t',ents,clk,he,hr,hlt,hmp,hsz,hes⟩:=H.tmapAt hat h1
      have hsz:ents.size = es.length:=hsz
      have hes:∀ (j:Nat) (k v:Value),(MapR.ty .pt vk es).list[j]? = some (k,v)→plain k = true∧∃ e,ents[j]? = some e∧e.key = k∧VR r v e.val:=hes
      have hik:=ptOf_some hkey
      have hxk:=ofV_toV hval
      have hxs:Am.scal (ρA x) = true:=by rw [hxk];exact toV_scal (ofV_flat hval) val
      have hxe:=h3.scal_eq hxs
      have hf:=findAny_pt (ty:=ty) (kd:=kd) hpt (vk:=vk) key es
      rw [← hik] at hf
      obtain ⟨hpl,hck,x',hx1,hx2⟩:=run_findAny hty (r:=r) w hk (by simpa [MapR.list] using hsz) (fun j a v hj=>(hes j a v hj).2) hf
      have hi:=h2.plain_eq hpl
      have hhas:=posT_has (kk:=.pt) key es 0
      cases hp:posT (kk:=.pt) key es 0 with
      | none=>
        rw [hp] at hhas hx2
        rcases hx2 with ⟨_,rfl⟩ | ⟨n',v',u,h3,_,_⟩
        ·have hput:putM (kk:=.pt) key val es = es++[((key,val):El .pt × El vk)]:=by unfold putM;rw [← hhas];rfl
         rw [hput]
         obtain ⟨a1,a2⟩:=H.setObj (b:=b) (by rw [hat];rfl) (by rw [hat];rfl) hr (.map (.ty .pt vk (es++[((key,val):El .pt × El vk)])) true) (.map (ents.push { key:=ρA i,val:=ρA x,born:=clk }) (clk + 1))
          ⟨ents.push { key:=ρA i,val:=ρA x,born:=clk },clk + 1,by simp [hlt],by simp [hsz,MapR.Sz],fun j kk vv hj=>by
           simp only [MapR.list,List.map_append] at hj
           rcases Nat.lt_or_ge j es.length with hlt' | hge
           ·rw [List.getElem?_append_left (by simpa using hlt')] at hj
            obtain ⟨p1,e',p2,p3,p4⟩:=hes j kk vv hj
            exact ⟨p1,e',by rw [Array.getElem?_push,if_neg (by omega)];exact p2,p3,p4⟩
           ·rw [List.getElem?_append_right (by simpa using hge)] at hj
            have:j = es.length:=by
             rcases Nat.eq_or_lt_of_le hge with e | e
             ·exact e.symm
             ·rw [List.getElem?_eq_none (by simp;omega)] at hj;cases hj
            subst this
            simp at hj
            obtain ⟨rfl,rfl⟩:=hj
            rw [← hik,← hxk]
            exact ⟨hpl,_,by rw [Array.getElem?_push,if_pos hsz.symm],rfl,.scal _ hxs⟩⟩
         refine ⟨r,undef,_,.inr ⟨?_,rfl⟩,a2,a1,.tup _ _ rfl (fun j h=>by simp at h)⟩
         simp only [execOp,ho,he,hi,hxe,Instr.mapUpdate,Sem.run_bind,run_underlying hu,Result.andThen_ok,Go.getObj,Go.setObj,Sem.run,hmp,hck,hx1,Sem.run_pure]
        ·cases h3
      | some n=>
        rw [hp] at hhas hx2
        rcases hx2 with ⟨h3,_⟩ | ⟨n',v',u,h3,rfl,hvr⟩
        ·cases h3
        ·simp only [Option.map_some,Option.some.injEq,Prod.mk.injEq] at h3
         obtain ⟨rfl,rfl⟩:=h3
         have hput:putM (kk:=.pt) key val es = setT (kk:=.pt) key val es:=by unfold putM;rw [← hhas];rfl
         rw [hput]
         obtain ⟨j0,e0,q1,q2,q3⟩:=posT_at (kk:=.pt) key es 0 n hp
         obtain ⟨j1,q4,q5,q6⟩:=posT_set (kk:=.pt) key val es 0 n hp
         have hj01:j0 = n:=by omega
         have hj11:j1 = n:=by omega
         subst hj01
         subst hj11
         have hent:=hes j1 (toV .pt e0.1) (toV vk e0.2) (by simp [MapR.list,q2])
         obtain ⟨_,ent,g1,g2,_⟩:=hent
         rw [q3,← hik] at g2
         have hsame:Instr.sameBits 10000 (ρA i) (ρA i) = true:=by
          rw [hik]
          exact same_pt key
         have hstay:∀ w,(Instr.keyThatStays (ρA i) (ρA i)).run P w = .ok (ρA i) w:=fun w=>by
          simp [Instr.keyThatStays,hsame]
         obtain ⟨a1,a2⟩:=H.setObj (b:=b) (by rw [hat];rfl) (by rw [hat];rfl) hr (.map (.ty .pt vk (setT (kk:=.pt) key val es)) true) (.map (ents.modify j1 fun e=>{ e with key:=ρA i,val:=ρA x }) clk)
          ⟨ents.modify j1 fun e=>{ e with key:=ρA i,val:=ρA x },clk,by simp [hlt],by
           show (ents.modify j1 _).size = (setT (kk:=.pt) key val es).length
           rw [Array.size_modify,hsz]
           exact (setT_len (kk:=.pt) key val es).symm,fun j kk vv hj=>by
           simp only [MapR.list,List.getElem?_map,q6] at hj
           by_cases ej:j = j1
           ·subst ej
            rw [if_pos rfl,q2] at hj
            simp only [Option.map_some,Option.some.injEq,Prod.mk.injEq] at hj
            obtain ⟨rfl,rfl⟩:=hj
            rw [q3,← hik,← hxk]
            exact ⟨hpl,_,by rw [Array.getElem?_modify,if_pos rfl,g1];rfl,rfl,.scal _ hxs⟩
           ·rw [if_neg ej] at hj
            obtain ⟨p1,e',p2,p3,p4⟩:=hes j kk vv (by simpa [MapR.list] using hj)
            exact ⟨p1,e',by rw [Array.getElem?_modify,if_neg (fun e=>ej e.symm)];exact p2,p3,p4⟩⟩
         refine ⟨r,undef,_,.inr ⟨?_,rfl⟩,a2,a1,.tup _ _ rfl (fun j h=>by simp at h)⟩
         simp only [execOp,ho,he,hi,hxe,Instr.mapUpdate,Sem.run_bind,run_underlying hu,Result.andThen_ok,Go.getObj,Go.setObj,Sem.run,hmp,hck,hx1,Sem.run_pure,g1,g2,Option.map_some,Option.getD_some,hstay]
   ·cases hv
  ·cases hv
 ·cases hv
theorem ops_lookA (hty:TyOk P ty) {t:TypeId} {x i:Operand} {ok:Bool} (ho:o.op = .lookup t x i ok) (hv:lookA P ty t (ρA x) (ρA i) ok h = some (v,h')):OpS P G GB o ρA h v h':=by
 unfold lookA at hv
 split at hv
 ·rename_i b y hx hy
  split at hv
  ·rename_i k e hd
   split at hv
   ·rename_i kt et es hk he hm
    have hu:P.underlying t = some (.map k e):=by rw [(hty t y hy).2,hd]
    split at hv
    ·rename_i n c hf
     simp only [Option.some.injEq,Prod.mk.injEq] at hv;obtain ⟨rfl,rfl⟩:=hv
     refine .val fun r a w H R=>?_
     have h1:=R x (by simp [ho,Op.operands])
     have h2:=R i (by simp [ho,Op.operands])
     rw [hx] at h1
     obtain ⟨hat,t',ents,clk,he',hr,hlt,hmp,hsz,hes⟩:=H.mapAt hm h1
     obtain ⟨hpl,hck,x',hx1,hx2⟩:=run_findAny hty (r:=r) w (hty _ _ hk).2 hsz.1 (fun j a v hj=>(hes j a v hj).2) hf
     have hi:=h2.plain_eq hpl
     rcases hx2 with ⟨h3,_⟩ | ⟨n',v',u,h3,rfl,hv⟩
     ·cases h3
     ·simp only [Option.some.injEq,Prod.mk.injEq] at h3
      obtain ⟨rfl,rfl⟩:=h3
      refine ⟨if ok then .tuple #[u,.bool true] else u,?_,?_⟩
      ·simp only [execOp,ho,he',hi,Instr.lookup,Sem.run_bind,run_underlying hu,Result.andThen_ok,Go.getObj,Sem.run,hmp,hck,hx1,Sem.run_pure]
      ·cases ok
       ·exact hv
       ·refine .tup _ _ rfl fun j h4 h5=>?_
        match j,h4 with
        | 0,_=>exact hv
        | 1,_=>exact .scal _ rfl
    ·rename_i hf
     split at hv
     ·rename_i z hz
      split at hv
      ·rename_i hpz
       simp only [Option.some.injEq,Prod.mk.injEq] at hv;obtain ⟨rfl,rfl⟩:=hv
       refine .val fun r a w H R=>?_
       have h1:=R x (by simp [ho,Op.operands])
       have h2:=R i (by simp [ho,Op.operands])
       rw [hx] at h1
       obtain ⟨hat,t',ents,clk,he',hr,hlt,hmp,hsz,hes⟩:=H.mapAt hm h1
       obtain ⟨hpl,hck,x',hx1,hx2⟩:=run_findAny hty (r:=r) w (hty _ _ hk).2 hsz.1 (fun j a v hj=>(hes j a v hj).2) hf
       have hi:=h2.plain_eq hpl
       have hei:=(hty _ _ he).1
       rcases hx2 with ⟨_,rfl⟩ | ⟨n',v',u,h3,_,_⟩
       ·refine ⟨if ok then .tuple #[z,.bool false] else z,?_,?_⟩
        ·simp only [execOp,ho,he',hi,Instr.lookup,Sem.run_bind,run_underlying hu,Result.andThen_ok,Go.getObj,Sem.run,hmp,hck,hx1,Sem.run_pure,zeroValue,typeInfo,run_program,hei,hz]
        ·cases ok
         ·exact plain_refl r hpz
         ·refine .tup _ _ rfl fun j h4 h5=>?_
          match j,h4 with
          | 0,_=>exact plain_refl r hpz
          | 1,_=>exact .scal _ rfl
       ·cases h3
      ·cases hv
     ·cases hv
    ·cases hv
   ·cases hv
  ·cases hv
 ·cases hv
theorem sameAt_spec {es:List (Value × Value)} {n:Nat} {key:Value} (h:sameAt es n key = true):∃ e,es[n]? = some e∧Instr.sameBits 10000 e.1 key = true:=by
 unfold sameAt at h
 cases he:es[n]? with
 | none=>simp [he] at h
 | some e=>exact ⟨e,rfl,by simpa [he] using h⟩
theorem stay_of {k0 key:Value} (h:Instr.sameBits 10000 k0 key = true) (w:World):(Instr.keyThatStays k0 key).run P w = .ok key w:=by simp [Instr.keyThatStays,h]
theorem raw_push {r:Ren} {es:List (Value × Value)} {ents:Array MapEntry} (hl:ents.size = es.length)
  (hes:∀ (j:Nat) (k v:Value),es[j]? = some (k,v)→plain k = true∧∃ e,ents[j]? = some e∧e.key = k∧VR r v e.val) {key x u:Value} {clk:Nat} (hp:plain key = true) (hv:VR r x u) :
  ∀ (j:Nat) (k v:Value),(es++[(key,x)])[j]? = some (k,v)→plain k = true∧∃ e,(ents.push { key:=key,val:=u,born:=clk })[j]? = some e∧e.key = k∧VR r v e.val:=fun j kk vv hj=>by
 rcases Nat.lt_or_ge j es.length with hlt' | hge
 ·rw [List.getElem?_append_left hlt'] at hj
  obtain ⟨p1,e',p2,p3,p4⟩:=hes j kk vv hj
  exact ⟨p1,e',by rw [Array.getElem?_push,if_neg (by omega)];exact p2,p3,p4⟩
 ·rw [List.getElem?_append_right hge] at hj
  have:j = es.length:=by
   rcases Nat.eq_or_lt_of_le hge with e | e
   ·exact e.symm
   ·rw [List.getElem?_eq_none (by simp;omega)] at hj;cases hj
  subst this
  simp at hj
  obtain ⟨rfl,rfl⟩:=hj
  exact ⟨hp,_,by rw [Array.getElem?_push,if_pos hl.symm],rfl,hv⟩
theorem raw_set {r:Ren} {es:List (Value × Value)} {ents:Array MapEntry}
  (hes:∀ (j:Nat) (k v:Value),es[j]? = some (k,v)→plain k = true∧∃ e,ents[j]? = some e∧e.key = k∧VR r v e.val) {n:Nat} {f:MapEntry→MapEntry} {e0:MapEntry} (he:ents[n]? = some e0) {key x:Value} (hp:plain key = true) (hk:(f e0).key = key) (hv:VR r x (f e0).val) :
  ∀ (j:Nat) (k v:Value),(es.set n (key,x))[j]? = some (k,v)→plain k = true∧∃ e,(ents.modify n f)[j]? = some e∧e.key = k∧VR r v e.val:=fun j kk vv hj=>by
 rw [List.getElem?_set] at hj
 by_cases e:n = j
 ·subst e
  rw [if_pos rfl] at hj
  split at hj
  ·cases hj
   exact ⟨hp,f e0,by rw [Array.getElem?_modify,if_pos rfl,he];rfl,hk,hv⟩
  ·cases hj
 ·rw [if_neg e] at hj
  obtain ⟨p1,e',p2,p3,p4⟩:=hes j kk vv hj
  exact ⟨p1,e',by rw [Array.getElem?_modify,if_neg e];exact p2,p3,p4⟩
theorem Sz_modify {es:List (Value × Value)} {ents:Array MapEntry} {clk:Nat} (h:(MapR.raw es).Sz ents clk) (n:Nat) (p:Value × Value) (f:MapEntry→MapEntry) (hf:∀ e,(f e).born = e.born):(MapR.raw (es.set n p)).Sz (ents.modify n f) clk:=by
 obtain ⟨h1,h2,h3⟩:=h
 refine ⟨by simp [h1],by simp [h2],fun j e hj=>?_⟩
 rw [Array.getElem?_modify] at hj
 split at hj
 ·cases he:ents[j]? with
  | none=>simp [he] at hj
  | some e0=>simp [he] at hj;subst hj;rw [hf];exact h3 j e0 he
 ·exact h3 j e hj
theorem raw_owned {b:Nat} {es:List (Value × Value)} {ow:Bool} (hat:h.at b = .map (.raw es) ow):(h.at b).mate = none:=by rw [hat];rfl
theorem ops_updA (hty:TyOk P ty) {t:TypeId} {m i x:Operand} (ho:o.op = .mapUpdate t m i x) (hv:updA P ty t (ρA m) (ρA i) (ρA x) h = some (v,h')):OpS P G GB o ρA h v h':=by
 unfold updA at hv
 split at hv
 ·rename_i b y hx hy
  split at hv
  ·rename_i k e hd
   split at hv
   ·rename_i kt es hk hm hown
    have hu:P.underlying t = some (.map k e):=by rw [(hty t y hy).2,hd]
    split at hv
    ·rename_i n c hf
     split at hv
     ·rename_i hsa
      simp only [Option.some.injEq,Prod.mk.injEq] at hv;obtain ⟨rfl,rfl⟩:=hv
      intro r a w H R
      have h1:=R m (by simp [ho,Op.operands])
      have h2:=R i (by simp [ho,Op.operands])
      have h3:=R x (by simp [ho,Op.operands])
      rw [hx] at h1
      obtain ⟨⟨ow,hat⟩,t',ents,clk,he',hr,hlt,hmp,hsz,hes⟩:=H.mapAt hm h1
      obtain ⟨hpl,hck,x',hx1,hx2⟩:=run_findAny hty (r:=r) w (hty _ _ hk).2 hsz.1 (fun j a v hj=>(hes j a v hj).2) hf
      have hi:=h2.plain_eq hpl
      rcases hx2 with ⟨h4,_⟩ | ⟨n',v',u,h4,rfl,_⟩
      ·cases h4
      ·simp only [Option.some.injEq,Prod.mk.injEq] at h4
       obtain ⟨rfl,rfl⟩:=h4
       obtain ⟨⟨k0,v0⟩,q1,q2⟩:=sameAt_spec hsa
       obtain ⟨_,ent,g1,g2,_⟩:=hes _ _ _ q1
       simp only at q2
       have hstay:=stay_of (P:=P) q2 w
       rw [← g2] at hstay
       obtain ⟨a1,a2⟩:=H.setObj (b:=b) hown (raw_owned hat) hr (.map (.raw (es.set n (ρA i,ρA x))) true) (.map (ents.modify n fun e=>{ e with key:=ρA i,val:=a.eval x }) clk)
        ⟨ents.modify n fun e=>{ e with key:=ρA i,val:=a.eval x },clk,by simp [hlt],Sz_modify hsz _ _ _ (fun _=>rfl),raw_set hes g1 hpl rfl h3⟩
       refine ⟨r,undef,_,.inr ⟨?_,rfl⟩,a2,a1,.tup _ _ rfl (fun j h=>by simp at h)⟩
       simp only [execOp,ho,he',hi,Instr.mapUpdate,Sem.run_bind,run_underlying hu,Result.andThen_ok,Go.getObj,Go.setObj,Sem.run,hmp,hck,hx1,Sem.run_pure,g1,Option.map_some,Option.getD_some,hstay]
     ·cases hv
    ·rename_i hf
     simp only [Option.some.injEq,Prod.mk.injEq] at hv;obtain ⟨rfl,rfl⟩:=hv
     intro r a w H R
     have h1:=R m (by simp [ho,Op.operands])
     have h2:=R i (by simp [ho,Op.operands])
     have h3:=R x (by simp [ho,Op.operands])
     rw [hx] at h1
     obtain ⟨⟨ow,hat⟩,t',ents,clk,he',hr,hlt,hmp,hsz,hes⟩:=H.mapAt hm h1
     obtain ⟨hpl,hck,x',hx1,hx2⟩:=run_findAny hty (r:=r) w (hty _ _ hk).2 hsz.1 (fun j a v hj=>(hes j a v hj).2) hf
     have hi:=h2.plain_eq hpl
     rcases hx2 with ⟨_,rfl⟩ | ⟨n',v',u,h4,_,_⟩
     ·obtain ⟨a1,a2⟩:=H.setObj (b:=b) hown (raw_owned hat) hr (.map (.raw (es++[(ρA i,ρA x)])) true) (.map (ents.push { key:=ρA i,val:=a.eval x,born:=clk }) (clk + 1))
       ⟨ents.push { key:=ρA i,val:=a.eval x,born:=clk },clk + 1,by simp [hlt],hsz.push _ _ _ _,raw_push hsz.1 hes hpl h3⟩
      refine ⟨r,undef,_,.inr ⟨?_,rfl⟩,a2,a1,.tup _ _ rfl (fun j h=>by simp at h)⟩
      simp only [execOp,ho,he',hi,Instr.mapUpdate,Sem.run_bind,run_underlying hu,Result.andThen_ok,Go.getObj,Go.setObj,Sem.run,hmp,hck,hx1,Sem.run_pure]
     ·cases h4
    ·cases hv
   ·cases hv
  ·cases hv
 ·cases hv
theorem ops_entA (hty:TyOk P ty) {t:TypeId} {m i:Operand} (ho:o.op = .mapEntry t m i) (hv:entA P ty t (ρA m) (ρA i) h = some (v,h')):OpS P G GB o ρA h v h':=by
 unfold entA at hv
 split at hv
 ·rename_i b y hx hy
  split at hv
  ·rename_i k e hd
   split at hv
   ·rename_i kt et es hk he hm hown
    have hu:P.underlying t = some (.map k e):=by rw [(hty t y hy).2,hd]
    split at hv
    ·rename_i n c hf
     split at hv
     ·rename_i hsa
      simp only [Option.some.injEq,Prod.mk.injEq] at hv;obtain ⟨rfl,rfl⟩:=hv
      intro r a w H R
      have h1:=R m (by simp [ho,Op.operands])
      have h2:=R i (by simp [ho,Op.operands])
      rw [hx] at h1
      obtain ⟨⟨ow,hat⟩,t',ents,clk,he',hr,hlt,hmp,hsz,hes⟩:=H.mapAt hm h1
      obtain ⟨hpl,hck,x',hx1,hx2⟩:=run_findAny hty (r:=r) w (hty _ _ hk).2 hsz.1 (fun j a v hj=>(hes j a v hj).2) hf
      have hi:=h2.plain_eq hpl
      rcases hx2 with ⟨h4,_⟩ | ⟨n',v',u,h4,rfl,hvu⟩
      ·cases h4
      ·simp only [Option.some.injEq,Prod.mk.injEq] at h4
       obtain ⟨rfl,rfl⟩:=h4
       obtain ⟨⟨k0,v0⟩,q1,q2⟩:=sameAt_spec hsa
       obtain ⟨_,ent,g1,g2,g3⟩:=hes _ _ _ q1
       simp only at q2
       have hstay:=stay_of (P:=P) q2 w
       rw [← g2] at hstay
       have hborn:=hsz.2.2 n ent g1
       have hat2:(es.getD n (undef,undef)).2 = v0:=by rw [List.getD_eq_getElem?_getD,q1];rfl
       obtain ⟨a1,a2⟩:=H.setObj (b:=b) hown (raw_owned hat) hr (.map (.raw (es.set n (ρA i,(es.getD n (undef,undef)).2))) true) (.map (ents.modify n fun e=>{ e with key:=ρA i }) clk)
        ⟨ents.modify n fun e=>{ e with key:=ρA i },clk,by simp [hlt],Sz_modify hsz _ _ _ (fun _=>rfl),raw_set hes g1 hpl rfl (by rw [hat2];exact g3)⟩
       refine ⟨r,.tuple #[u,goInt n],_,.inl ?_,a2,a1,.tup _ _ rfl fun j h5 h6=>?_⟩
       ·simp only [execOp,ho,he',hi,Instr.mapEntry,Sem.run_bind,run_underlying hu,Result.andThen_ok,Go.getObj,Go.setObj,Sem.run,hmp,hck,hx1,Sem.run_pure,g1,Option.map_some,Option.getD_some,hstay,hborn]
       ·match j,h5 with
        | 0,_=>exact hvu
        | 1,_=>exact .scal _ rfl
     ·cases hv
    ·rename_i hf
     split at hv
     ·rename_i z hz
      split at hv
      ·rename_i hpz
       simp only [Option.some.injEq,Prod.mk.injEq] at hv;obtain ⟨rfl,rfl⟩:=hv
       intro r a w H R
       have h1:=R m (by simp [ho,Op.operands])
       have h2:=R i (by simp [ho,Op.operands])
       rw [hx] at h1
       obtain ⟨⟨ow,hat⟩,t',ents,clk,he',hr,hlt,hmp,hsz,hes⟩:=H.mapAt hm h1
       obtain ⟨hpl,hck,x',hx1,hx2⟩:=run_findAny hty (r:=r) w (hty _ _ hk).2 hsz.1 (fun j a v hj=>(hes j a v hj).2) hf
       have hi:=h2.plain_eq hpl
       have hei:=(hty _ _ he).1
       have hclk:=hsz.2.1
       rcases hx2 with ⟨_,rfl⟩ | ⟨n',v',u,h4,_,_⟩
       ·obtain ⟨a1,a2⟩:=H.setObj (b:=b) hown (raw_owned hat) hr (.map (.raw (es++[(ρA i,z)])) true) (.map (ents.push { key:=ρA i,val:=z,born:=clk }) (clk + 1))
         ⟨ents.push { key:=ρA i,val:=z,born:=clk },clk + 1,by simp [hlt],hsz.push _ _ _ _,raw_push hsz.1 hes hpl (plain_refl r hpz)⟩
        refine ⟨r,.tuple #[z,goInt es.length],_,.inl ?_,a2,a1,.tup _ _ rfl fun j h5 h6=>?_⟩
        ·simp only [execOp,ho,he',hi,Instr.mapEntry,Sem.run_bind,run_underlying hu,Result.andThen_ok,Go.getObj,Go.setObj,Sem.run,hmp,hck,hx1,Sem.run_pure,zeroValue,typeInfo,run_program,hei,hz,hclk]
        ·match j,h5 with
         | 0,_=>exact plain_refl r hpz
         | 1,_=>exact .scal _ rfl
       ·cases h4
      ·cases hv
     ·cases hv
    ·cases hv
   ·cases hv
  ·cases hv
 ·cases hv
theorem ops_entS {t:TypeId} {m s x:Operand} (ho:o.op = .entryStore t m s x) (hv:entS (ρA m) (ρA s) (ρA x) h = some (v,h')):OpS P G GB o ρA h v h':=by
 unfold entS at hv
 split at hv
 ·rename_i b j hx hs
  split at hv
  ·rename_i es hm hb
   simp only [Bool.and_eq_true,decide_eq_true_eq] at hb
   split at hv
   ·rename_i e he
    simp only [Option.some.injEq,Prod.mk.injEq] at hv;obtain ⟨rfl,rfl⟩:=hv
    intro r a w H R
    have h1:=R m (by simp [ho,Op.operands])
    have h2:=R s (by simp [ho,Op.operands])
    have h3:=R x (by simp [ho,Op.operands])
    rw [hx] at h1
    rw [hs] at h2
    have h2:=h2.int
    obtain ⟨⟨ow,hat⟩,t',ents,clk,he',hr,hlt,hmp,hsz,hes⟩:=H.mapAt hm h1
    obtain ⟨p1,ent,g1,g2,g3⟩:=hes j.toNat e.1 e.2 he
    have hj:j.toNat < ents.size:=(Array.getElem?_eq_some_iff.1 g1).1
    have hfind:ents.findIdx? (fun e=>(e.born:Int) == j) = some j.toNat:=by
     rw [Array.findIdx?_eq_some_iff_getElem]
     refine ⟨hj,?_,fun q hq=>?_⟩
     ·have:=hsz.2.2 j.toNat ents[j.toNat] (by simp [hj])
      simp [this];omega
     ·have:=hsz.2.2 q (ents[q]'(by omega)) (by simp [show q < ents.size by omega])
      simp [this];omega
    obtain ⟨a1,a2⟩:=H.setObj (b:=b) hb.1 (raw_owned hat) hr (.map (.raw (es.set j.toNat (e.1,ρA x))) true) (.map (ents.modify j.toNat fun e=>{ e with val:=a.eval x }) clk)
     ⟨ents.modify j.toNat fun e=>{ e with val:=a.eval x },clk,by simp [hlt],Sz_modify hsz _ _ _ (fun _=>rfl),raw_set hes g1 p1 g2 h3⟩
    refine ⟨r,undef,_,.inr ⟨?_,rfl⟩,a2,a1,.tup _ _ rfl (fun j h=>by simp at h)⟩
    simp only [execOp,ho,he',h2,Instr.entryStore,asInt,asIntOf,Sem.run_bind,Result.andThen_ok,Go.getObj,Go.setObj,Sem.run,hmp,Sem.run_pure,hfind]
   ·cases hv
  ·cases hv
 ·cases hv
theorem ops_cut3 {t e:TypeId} {x lo hi mx:Operand} {z:TypeInfo} {b o' l0 n sz:Nat} (ho:o.op = .slice t x (some lo) (some hi) (some mx)) (hx:ρA x = .slice (some ⟨b,o',some l0⟩) n sz)
  (hu:P.underlying t = some (.slice e)) (hi':P.info? e = some z) (hsz:sz = z.size) (hc:condP (cut3E ρA h b o' l0 n sz lo hi mx) = some (v,h')):OpS P G GB o ρA h v h':=by
 unfold cut3E at hc
 simp only [appR_eq,lenR_eq] at hc
 split at hc
 ·rename_i k1 l k2 q k3 m ks lst hlo hhi hmx hat
  cases hf:flatK ks with
  | false=>rw [hf] at hc;simp [condP] at hc
  | true=>
  rw [hf] at hc
  simp only at hc
  have key:∀ l1:Nat,l1 = (if o' = 2 then l0 else 0) + l.toNat→condP (some (decide (0 ≤ l) && (decide (l < q) && (decide (q ≤ m) && decide (m ≤ n))),Value.slice (some ⟨K0 + h.length,0,some 0⟩) (q.toNat - l.toNat) sz,h++[AObj.vec ks ((lst.drop l1).take (q.toNat - l.toNat)) false])) = some (v,h')→OpS P G GB o ρA h v h':=fun l1 hl1 hc=>by
   obtain ⟨hg,hv⟩:=cond_some hc
   obtain ⟨rfl,rfl⟩:=Prod.mk.inj hv
   simp only [Bool.and_eq_true,decide_eq_true_eq] at hg
   obtain ⟨c2,c3,c4,c5⟩:=hg
   intro r a w H R
   have h1:=R x (by simp [ho,Op.operands])
   have e1:=R lo (by simp [ho,Op.operands])
   have e2:=R hi (by simp [ho,Op.operands])
   have e3:=R mx (by simp [ho,Op.operands])
   rw [hx] at h1
   rw [hlo] at e1;rw [hhi] at e2;rw [hmx] at e3
   have e1:=e1.int
   have e2:=e2.int
   have e3:=e3.int
   obtain ⟨t1,hr,hk,⟨q1,q2,q3⟩,q4⟩:=h1.vs'
   obtain ⟨hlt,hok,⟨o1,o2,o3⟩,o4,o5⟩:=H.vecAt hat hr
   have hl0:l0 = if o' = 2 then l0 else 0:=by
    split
    ·rfl
    ·rename_i hne;exact (q4 hne).1
   rw [← hl0] at hl1
   rcases q3 with ⟨h0,_⟩ | ⟨hn,hle,cap,⟨hcap,hlen⟩,hlm,hax⟩
   ·omega
   ·have hlN:l.toNat < q.toNat:=by omega
    have hq:q.toNat ≤ m.toNat:=by omega
    have hm:m.toNat ≤ n:=by omega
    have hks:ks.length = sz:=by omega
    have hpos:0 < lst.length:=by
     rcases Nat.eq_zero_or_pos lst.length with h | h
     ·rw [h,Nat.zero_mul] at o3
      rw [o3] at hle
      have:0 < (l0 + n) * sz:=Nat.mul_pos (by omega) q2
      omega
     ·exact h
    obtain ⟨p1,p2,_⟩:=o5 hpos
    have hnl:l0 + n ≤ lst.length:=by
     rw [o3,hks] at hle
     exact Nat.le_of_mul_le_mul_right hle q2
    have hm2:(l0 + l.toNat) * sz + (m.toNat - l.toNat) * sz = (l0 + m.toNat) * sz:=by rw [← Nat.add_mul];congr 1;omega
    have hmc:(l0 + m.toNat) * sz ≤ (l0 + cap) * sz:=Nat.mul_le_mul_right _ (by omega)
    have hll:(l0 + l.toNat) * sz = l0 * sz + l.toNat * sz:=Nat.add_mul ..
    have hrun:(execOp a.eval o).run P w = .ok (.value (.slice (some ⟨t1.blk,t1.off + l0 * sz + l.toNat * sz,none⟩) (q.toNat - l.toNat) (m.toNat - l.toNat))) w:=by
     have b1:=run_bound (P:=P) w (k:=k3) (y:=cap) (code:=.slice3Acap) (show 0 ≤ m by omega) (show m.toNat ≤ cap by omega)
     have b2:=run_bound (P:=P) w (k:=k2) (y:=m.toNat) (code:=.slice3B) (show 0 ≤ q by omega) (show q.toNat ≤ m.toNat by omega)
     have b3:=run_bound (P:=P) w (k:=k1) (y:=q.toNat) (code:=.slice3C) c2 (show l.toNat ≤ q.toNat by omega)
     have hne:¬ m.toNat = l.toNat:=by omega
     simp [execOp,ho,hax,Instr.sliceAt,Instr.slice,run_underlying hu,Instr.sliceBounds,e1,e2,e3,b1,b2,b3,run_sizeOf w hi',hne,addr_add,← hsz,Nat.add_assoc]
    have hno:¬ Owned r h t1.blk:=fun ⟨b',t',hb',hr2,he⟩=>by
     rcases H.exc b' b t' t1 hb' (by rw [hat];rfl) hr2 hr he with e | ⟨_,e⟩
     ·subst e;rw [hat] at hb';simp [AObj.owned] at hb'
     ·rw [hat] at e;cases e
    have hlen2:((lst.drop l1).take (q.toNat - l.toNat)).length = q.toNat - l.toNat:=by
     rw [List.length_take,List.length_drop];omega
    have hqm:(q.toNat - l.toNat) * sz ≤ (m.toNat - l.toNat) * sz:=Nat.mul_le_mul_right _ (by omega)
    obtain ⟨a1,a2,_⟩:=H.addRO (.vec ks ((lst.drop l1).take (q.toNat - l.toNat)) false) ⟨t1.blk,t1.off + l0 * sz + l.toNat * sz,t1.lim,(q.toNat - l.toNat) * sz,sz,no⟩ rfl hlt hno
     ⟨hok,⟨hks.symm,by omega,by rw [hlen2,hks]⟩,fun h=>by rw [hlen2] at h;omega,fun _=>⟨by rw [hlen2,hks];show t1.off + l0 * sz + l.toNat * sz + (q.toNat - l.toNat) * sz ≤ t1.lim;omega,fun i y hy=>by
      rw [List.getElem?_take] at hy
      split at hy
      ·rw [List.getElem?_drop] at hy
       have:=p2 _ y hy
       refine RowIn.of_vals hf fun j c hcj=>?_
       have:=RowIn.vals hf this j c hcj
       rw [← this,hl1,hks]
       congr 2
       show t1.off + l0 * sz + l.toNat * sz + i * sz + j = t1.off + (l0 + l.toNat + i) * sz + j
       rw [Nat.add_mul,Nat.add_mul]
       omega
      ·(cases hy),fun h=>by cases h⟩⟩
    refine ⟨_,_,_,.inl hrun,a2,a1,?_⟩
    have:=VR.vsl (r:=r.put (K0 + h.length) ⟨t1.blk,t1.off + l0 * sz + l.toNat * sz,t1.lim,(q.toNat - l.toNat) * sz,sz,no⟩) (K0 + h.length) (q.toNat - l.toNat) sz _ (.slice (some ⟨t1.blk,t1.off + l0 * sz + l.toNat * sz,none⟩) (q.toNat - l.toNat) (m.toNat - l.toNat)) (Ren.put_self ..) (by omega)
     ⟨rfl,q2,.inr ⟨by omega,by simp,m.toNat - l.toNat,⟨by omega,by simpa using hqm⟩,by show t1.off + l0 * sz + l.toNat * sz + (0 + (m.toNat - l.toNat)) * sz ≤ t1.lim;rw [Nat.zero_add];omega,by simp⟩⟩ rfl
    exact this
  split at hc
  ·exact key (l0 + l.toNat) (by simp) hc
  ·rename_i hne
   exact key l.toNat (by rw [if_neg (fun e=>hne e)];omega) hc
 ·simp [condP] at hc
theorem ops_slice3 (hty:TyOk P ty) {t:TypeId} {x lo hi mx:Operand} (ho:o.op = .slice t x (some lo) (some hi) (some mx)) (hv:opASlice3 ty ρA h t x lo hi mx = some (v,h')):OpS P G GB o ρA h v h':=by
 unfold opASlice3 at hv
 simp only [appR_eq,lenR_eq] at hv
 split at hv
 ·rename_i b off n sz y hx hy
  split at hv
  ·rename_i e hd
   split at hv
   ·rename_i z k1 l k2 q k3 m cells hz hlo hhi hmx hat
    split at hv
    ·rename_i hc
     simp only [Bool.and_eq_true,decide_eq_true_eq,Nat.beq_eq,Nat.ble_eq] at hc
     obtain ⟨⟨⟨⟨⟨c1,c2⟩,c3⟩,c4⟩,c5⟩,c6⟩:=hc
     simp only [Option.some.injEq,Prod.mk.injEq] at hv;obtain ⟨rfl,rfl⟩:=hv
     intro r a w H R
     have hu:P.underlying t = some (.slice e):=by rw [(hty t y hy).2,hd]
     have h1:=R x (by simp [ho,Op.operands])
     have e1:=R lo (by simp [ho,Op.operands])
     have e2:=R hi (by simp [ho,Op.operands])
     have e3:=R mx (by simp [ho,Op.operands])
     rw [hx] at h1
     rw [hlo] at e1;rw [hhi] at e2;rw [hmx] at e3
     have e1:=e1.int
     have e2:=e2.int
     have e3:=e3.int
     obtain ⟨t',hr',hlt,hobj⟩:=H.obj b (by rw [hat];rfl)
     rw [hat] at hobj
     obtain ⟨⟨o1,o2⟩,o3,_⟩:=hobj
     rcases h1.slice' with ⟨t1,cap,hr,hk,hsz,hn,hlm,hax⟩ | ⟨_,_,rfl,_,_⟩
     ·have het:t1 = t':=Option.some.inj (hr.symm.trans hr')
      subst het
      have hl0:l.toNat < q.toNat:=by omega
      have hq:q.toNat ≤ m.toNat:=by omega
      have hm:m.toNat ≤ n:=by omega
      have hlq:l.toNat * sz + (q.toNat - l.toNat) * sz = q.toNat * sz:=by rw [← Nat.add_mul];congr 1;omega
      have hlm':l.toNat * sz + (m.toNat - l.toNat) * sz = m.toNat * sz:=by rw [← Nat.add_mul];congr 1;omega
      have hmc:m.toNat * sz ≤ cap * sz:=Nat.mul_le_mul_right _ (by omega)
      have hqm:(q.toNat - l.toNat) * sz ≤ (m.toNat - l.toNat) * sz:=Nat.mul_le_mul_right _ (by omega)
      have hrun:(execOp a.eval o).run P w = .ok (.value (.slice (some ⟨t1.blk,t1.off + off + l.toNat * sz,none⟩) (q.toNat - l.toNat) (m.toNat - l.toNat))) w:=by
       have b1:=run_bound (P:=P) w (k:=k3) (y:=cap) (code:=.slice3Acap) (show 0 ≤ m by omega) (show m.toNat ≤ cap by omega)
       have b2:=run_bound (P:=P) w (k:=k2) (y:=m.toNat) (code:=.slice3B) (show 0 ≤ q by omega) (show q.toNat ≤ m.toNat by omega)
       have b3:=run_bound (P:=P) w (k:=k1) (y:=q.toNat) (code:=.slice3C) c2 (show l.toNat ≤ q.toNat by omega)
       have hne:¬ m.toNat = l.toNat:=by omega
       simp [execOp,ho,hax,Instr.sliceAt,Instr.slice,run_underlying hu,Instr.sliceBounds,e1,e2,e3,b1,b2,b3,run_sizeOf w (hty _ _ hz).1,hne,addr_add,← c1,Nat.add_assoc]
      have hno:¬ Owned r h t1.blk:=fun ⟨b',t',hb',hr2,he⟩=>by
       rcases H.exc b' b t' t1 hb' (by rw [hat];rfl) hr2 hr he with e | ⟨_,e⟩
       ·subst e;rw [hat] at hb';cases hb'
       ·rw [hat] at e;cases e
      have hlen:((cells.drop (off + l.toNat * sz)).take ((q.toNat - l.toNat) * sz)).length = (q.toNat - l.toNat) * sz:=by
       rw [List.length_take,List.length_drop];omega
      obtain ⟨a1,a2,_⟩:=H.addRO (.row ((cells.drop (off + l.toNat * sz)).take ((q.toNat - l.toNat) * sz)) false none) ⟨t1.blk,t1.off + off + l.toNat * sz,t1.lim,(q.toNat - l.toNat) * sz,0,no⟩ rfl hlt hno
       ⟨⟨hlen,by rw [hlen];show t1.off + off + l.toNat * sz + (q.toNat - l.toNat) * sz ≤ t1.lim;omega⟩,⟨fun j c hj=>by
         rw [List.getElem?_take] at hj
         split at hj
         ·rw [List.getElem?_drop] at hj
          obtain ⟨u,hu1,hu2⟩:=o3 _ c hj
          refine ⟨u,?_,hu2.mono (Ren.le_put H _)⟩
          rw [← hu1];congr 2
          show t1.off + off + l.toNat * sz + j = _
          omega
         ·(cases hj),fun h=>by cases h⟩⟩
      refine ⟨_,_,_,.inl hrun,a2,a1,?_⟩
      have:=VR.slice (r:=r.put (K0 + h.length) ⟨t1.blk,t1.off + off + l.toNat * sz,t1.lim,(q.toNat - l.toNat) * sz,0,no⟩) (K0 + h.length) 0 (q.toNat - l.toNat) sz (m.toNat - l.toNat) _ (Ren.put_self ..) (by omega)
       (by show t1.off + off + l.toNat * sz + 0 + (m.toNat - l.toNat) * sz ≤ t1.lim;omega) hsz (by omega) (by show (q.toNat - l.toNat) * sz ≤ 0 + (m.toNat - l.toNat) * sz;omega)
      simpa using this
     ·simp at c5;omega
    ·cases hv
   ·cases hv
  ·cases hv
 ·rename_i b o' l0 n sz y hx hy
  split at hv
  ·rename_i e hd
   split at hv
   ·rename_i z hz
    split at hv
    ·rename_i hsz
     rw [Nat.beq_eq] at hsz
     exact ops_cut3 ho hx (by rw [(hty t y hy).2,hd]) (hty _ _ hz).1 hsz hv
    ·cases hv
   ·cases hv
  ·cases hv
 ·cases hv
end entries
theorem opV_sound (hty:TyOk P ty) {o:Oper} {ρA:Operand→Value} {h h':Heap} {v:Value} (hv:opV P ty G o ρA h = some (v,h')):OpS P G GB o ρA h v h':=by
 unfold opV at hv
 split at hv
 all_goals first
  | unfold opAPick at hv
  | unfold opAAlloc at hv
  | unfold opABox at hv
  | unfold opALoad at hv
  | unfold opAStore at hv
  | unfold opANilcheck at hv
  | unfold opAFieldaddr at hv
  | unfold opAIndexaddr at hv
  | unfold opASlice at hv
  | unfold opAMakeslice at hv
  | unfold opAMakemap at hv
  | unfold opALookup at hv
  | unfold opAMapupdate at hv
  | unfold opARange at hv
  | unfold opANext at hv
  | unfold opAExtract at hv
  | unfold opABuild at hv
  | unfold opABuildslice at hv
  | unfold opBLen at hv
  | unfold opBApp at hv
  | unfold opBCap at hv
  | unfold opBCopy at hv
  | unfold opBClear at hv
  | unfold opAConvert at hv
  | skip
 all_goals try simp only [appR_eq,lenR_eq] at hv
 ·rename_i x ho
  simp only [Option.some.injEq,Prod.mk.injEq] at hv;obtain ⟨rfl,rfl⟩:=hv
  exact ops_move ho
 ·rename_i x ho
  simp only [Option.some.injEq,Prod.mk.injEq] at hv;obtain ⟨rfl,rfl⟩:=hv
  exact ops_assign ho
 ·rename_i c a b ho
  split at hv
  ·rename_i hc
   simp only [Option.some.injEq,Prod.mk.injEq] at hv;obtain ⟨rfl,rfl⟩:=hv
   simpa using ops_pick (P:=P) (G:=G) (GB:=GB) (h:=h) ho hc
  ·rename_i hc
   simp only [Option.some.injEq,Prod.mk.injEq] at hv;obtain ⟨rfl,rfl⟩:=hv
   simpa using ops_pick (P:=P) (G:=G) (GB:=GB) (h:=h) ho hc
  ·cases hv
 ·rename_i e ho
  split at hv
  ·rename_i x hx
   split at hv
   ·rename_i z hz
    split at hv
    ·rename_i hp
     simp only [Option.some.injEq] at hv
     have:=ops_alloc (P:=P) (G:=G) (GB:=GB) (h:=h) (ρA:=ρA) ho (hty e x hx).1 hz hp
     rw [hv] at this;exact this
    ·cases hv
   ·cases hv
  ·cases hv
 ·rename_i e x ho
  split at hv
  ·rename_i hok
   simp only [Option.some.injEq] at hv
   have:=ops_box (P:=P) (G:=G) (GB:=GB) (h:=h) (ρA:=ρA) ho hok
   rw [hv] at this;exact this
  ·cases hv
 ·rename_i t a ho
  split at hv
  ·rename_i b off x ha hx
   split at hv
   ·rename_i u hl
    simp only [Option.some.injEq,Prod.mk.injEq] at hv;obtain ⟨rfl,rfl⟩:=hv
    exact ops_load ho (hty t x hx).1 (hty t x hx).2 ha hl
   ·cases hv
  ·rename_i b c i x ha hx
   split at hv
   ·rename_i u hl
    simp only [Option.some.injEq,Prod.mk.injEq] at hv;obtain ⟨rfl,rfl⟩:=hv
    exact ops_loadE ho (hty t x hx).1 (hty t x hx).2 ha hl
   ·exact ops_loadN ho (hty t x hx).1 (hty t x hx).2 ha hv
  ·cases hv
 ·rename_i t a x ho
  split at hv
  ·rename_i b off y ha hy
   split at hv
   ·rename_i h2 hs
    simp only [Option.some.injEq,Prod.mk.injEq] at hv;obtain ⟨rfl,rfl⟩:=hv
    exact ops_store ho (hty t y hy).1 ha hs
   ·cases hv
  ·rename_i b c i y ha hy
   split at hv
   ·rename_i h2 hs
    simp only [Option.some.injEq,Prod.mk.injEq] at hv;obtain ⟨rfl,rfl⟩:=hv
    exact ops_storeE ho (hty t y hy).1 ha hs
   ·cases hv
  ·cases hv
 ·rename_i x ho
  split at hv
  ·rename_i a hx
   simp only [Option.some.injEq,Prod.mk.injEq] at hv;obtain ⟨rfl,rfl⟩:=hv
   exact ops_nilCheck_ptr ho hx
  ·rename_i f a b hx
   simp only [Option.some.injEq,Prod.mk.injEq] at hv;obtain ⟨rfl,rfl⟩:=hv
   exact ops_nilCheck_func ho hx
  ·rename_i l a b hx
   split at hv
   ·rename_i hxs
    simp only [Option.some.injEq,Prod.mk.injEq] at hv;obtain ⟨rfl,rfl⟩:=hv
    exact ops_nilCheck_yield ho hxs hx
   ·cases hv
  ·cases hv
 ·rename_i s x f ho
  split at hv
  ·rename_i b off y hx hy
   split at hv
   ·rename_i fields hd
    split at hv
    ·rename_i fd hf
     split at hv
     ·rename_i z hz
      split at hv
      ·cases hv
      ·rename_i hne
       simp only [Option.some.injEq,Prod.mk.injEq] at hv;obtain ⟨rfl,rfl⟩:=hv
       exact ops_fieldAddr (z:=z) ho hx (by rw [(hty s y hy).2,hd]) hf (hty _ _ hz).1 (fun e=>by rw [e] at hne;simp at hne)
     ·cases hv
    ·cases hv
   ·cases hv
  ·rename_i b c i y hx hy
   split at hv
   ·rename_i fields hd
    split at hv
    ·rename_i fd hf
     split at hv
     ·rename_i z hz
      split at hv
      ·cases hv
      ·rename_i hne
       simp only [Option.some.injEq,Prod.mk.injEq] at hv;obtain ⟨rfl,rfl⟩:=hv
       exact ops_fieldAddrE (z:=z) ho hx (by rw [(hty s y hy).2,hd]) hf (hty _ _ hz).1 (fun e=>by rw [e] at hne;simp at hne)
     ·cases hv
    ·cases hv
   ·cases hv
  ·cases hv
 ·rename_i t x i ho
  split at hv
  ·rename_i b off n sz k j y hx hi hy
   split at hv
   ·rename_i e hd
    split at hv
    ·rename_i z hz
     split at hv
     ·rename_i hc
      simp only [Bool.and_eq_true,Nat.beq_eq,decide_eq_true_eq] at hc
      obtain ⟨⟨h1,h2⟩,h3⟩:=hc
      simp only [Option.some.injEq,Prod.mk.injEq] at hv;obtain ⟨rfl,rfl⟩:=hv
      exact ops_indexAddr_slice ho hx hi (by rw [(hty t y hy).2,hd]) (hty _ _ hz).1 h1 h2 h3
     ·cases hv
    ·cases hv
   ·cases hv
  ·rename_i b off k j y hx hi hy
   split at hv
   ·rename_i len e hd
    split at hv
    ·rename_i z hz
     split at hv
     ·rename_i hc
      simp only [Bool.and_eq_true,decide_eq_true_eq] at hc
      simp only [Option.some.injEq,Prod.mk.injEq] at hv;obtain ⟨rfl,rfl⟩:=hv
      exact ops_indexAddr_array ho hx hi (by rw [(hty t y hy).2,hd]) (hty _ _ hz).1 hc.1 hc.2
     ·cases hv
    ·cases hv
   ·cases hv
  ·rename_i b off lo n sz k j y hx hi hy
   split at hv
   ·rename_i e hd
    split at hv
    ·rename_i z hz
     obtain ⟨hg,hv⟩:=cond_some hv
     simp only [Bool.and_eq_true,Nat.beq_eq,decide_eq_true_eq] at hg
     obtain ⟨rfl,rfl⟩:=Prod.mk.inj hv
     exact ops_indexAddr_list ho hx hi (by rw [(hty t y hy).2,hd]) (hty _ _ hz).1 hg.1 hg.2.1 hg.2.2
    ·cases hv
   ·cases hv
  ·rename_i b c ii k j y hx hi hy
   split at hv
   ·rename_i len e hd
    split at hv
    ·rename_i z hz
     split at hv
     ·rename_i hc
      simp only [Bool.and_eq_true,decide_eq_true_eq] at hc
      simp only [Option.some.injEq,Prod.mk.injEq] at hv;obtain ⟨rfl,rfl⟩:=hv
      exact ops_indexAddr_arrayE ho hx hi (by rw [(hty t y hy).2,hd]) (hty _ _ hz).1 hc.1 hc.2
     ·cases hv
    ·cases hv
   ·cases hv
  ·cases hv
 ·rename_i t x lo hi ho
  split at hv
  ·rename_i b off n sz y hx hy
   split at hv
   ·rename_i e hd
    split at hv
    ·rename_i z hz
     split at hv
     ·rename_i l r hl hr
      split at hv
      ·rename_i hc
       simp only [Bool.and_eq_true,Nat.beq_eq,Nat.ble_eq,Nat.blt_eq] at hc
       obtain ⟨⟨⟨h1,h2⟩,h3⟩,h4⟩:=hc
       have key:=ops_slice (P:=P) (G:=G) (GB:=GB) (h:=h) ho hx (by rw [(hty t y hy).2,hd]) (hty _ _ hz).1 h1 hl hr h3 h2
       split at hv
       ·rename_i hc2
        simp only [Bool.and_eq_true,Nat.beq_eq,Nat.blt_eq] at hc2
        simp only [Option.some.injEq,Prod.mk.injEq] at hv;obtain ⟨rfl,rfl⟩:=hv
        rw [if_pos hc2] at key;exact key
       ·rename_i hc2
        simp only [Option.some.injEq,Prod.mk.injEq] at hv;obtain ⟨rfl,rfl⟩:=hv
        rw [if_neg (fun e=>by rw [show (l.beq n && Nat.blt 0 l) = true from by simp only [Bool.and_eq_true,Nat.beq_eq,Nat.blt_eq];exact e] at hc2;cases hc2)] at key
        exact key
      ·cases hv
     ·cases hv
    ·cases hv
   ·cases hv
  ·rename_i b off l0 n sz y hx hy
   split at hv
   ·rename_i e hd
    split at hv
    ·rename_i z hz
     split at hv
     ·rename_i g u hb hc
      rw [Nat.beq_eq] at hb
      obtain ⟨hg,hv⟩:=cond_some hv
      obtain ⟨rfl,rfl⟩:=Prod.mk.inj hv
      exact ops_cutE ho hx (by rw [(hty t y hy).2,hd]) (hty _ _ hz).1 hb (cutQ_some hc hg) rfl
     ·cases hv
    ·cases hv
   ·cases hv
  ·rename_i s y hx hy
   exact ops_plain (fun cs b e=>by rw [ho] at e;cases e) hv
  ·rename_i y hx hy
   exact ops_plain (fun cs b e=>by rw [ho] at e;cases e) hv
  ·cases hv
 ·rename_i t x lo hi mx ho
  exact ops_slice3 hty ho hv
 ·rename_i t l c ho
  split at hv
  ·rename_i l' c' y hl hc hy
   split at hv
   ·rename_i e hd
    split at hv
    ·rename_i z hz
     split at hv
     ·exact ops_makeE ho hl hc (by rw [(hty t y hy).2,hd]) (hty _ _ hz).1 hv
     split at hv
     ·rename_i zv hzv
      split at hv
      ·rename_i hcc
       simp only [Bool.and_eq_true,Nat.beq_eq,decide_eq_true_eq,Nat.ble_eq,Nat.blt_eq] at hcc
       obtain ⟨⟨⟨⟨⟨⟨⟨h1,h2⟩,h3⟩,h4⟩,h5⟩,h6⟩,h7⟩,h8⟩:=hcc
       simp only [Option.some.injEq,Prod.mk.injEq] at hv;obtain ⟨rfl,rfl⟩:=hv
       exact ops_makeSlice ho hl hc (by rw [(hty t y hy).2,hd]) (hty _ _ hz).1 hzv h1 h2 h3 h4 h6 h7 h8
      ·cases hv
     ·cases hv
    ·cases hv
   ·cases hv
  ·cases hv
 ·rename_i f xs ys ho
  simp only [Option.some.injEq,Prod.mk.injEq] at hv;obtain ⟨rfl,rfl⟩:=hv
  exact ops_makeFunc ho
 ·rename_i t ho
  split at hv
  ·split at hv
   ·rename_i rr hmk
    simp only [Option.some.injEq] at hv
    subst hv
    unfold makeT at hmk
    simp only [appR_eq,lenR_eq] at hmk
    split at hmk
    ·split at hmk
     ·split at hmk
      ·split at hmk
       ·split at hmk
        ·simp only [Option.some.injEq,Prod.mk.injEq] at hmk;obtain ⟨rfl,rfl⟩:=hmk
         exact ops_makeT ho
        ·cases hmk
       ·cases hmk
      ·cases hmk
     ·cases hmk
    ·cases hmk
   ·simp only [Option.some.injEq,Prod.mk.injEq] at hv;obtain ⟨rfl,rfl⟩:=hv
    exact ops_makeMap ho
  ·simp only [Option.some.injEq,Prod.mk.injEq] at hv;obtain ⟨rfl,rfl⟩:=hv
   exact ops_makeMap ho
 ·rename_i t m key ho
  exact ops_entA hty ho hv
 ·rename_i m s x ho
  exact ops_entS ho hv
 ·rename_i t x i ok ho
  split at hv
  ·split at hv
   ·exact ops_lookP hty ho (by assumption) hv
   ·exact ops_lookA hty ho hv
  split at hv
  ·rename_i M hM
   unfold lookT at hv
   split at hv
   ·rename_i y hy
    split at hv
    ·rename_i k e hd
     split at hv
     ·rename_i kt et key hk he hkey
      split at hv
      ·rename_i z hz
       split at hv
       ·rename_i hc
        simp only [Bool.and_eq_true] at hc
        obtain ⟨⟨h1,h2⟩,h3⟩:=hc
        have key':=ops_lookT (P:=P) (G:=G) (GB:=GB) (h:=h) ho hM (by rw [(hty t y hy).2,hd]) (hty _ _ hk).2 (hty _ _ he).1 hz hkey h1 h2 h3
        split at hv <;> (simp only [Option.some.injEq,Prod.mk.injEq] at hv;obtain ⟨rfl,rfl⟩:=hv;simpa using key')
       ·cases hv
      ·cases hv
     ·cases hv
    ·cases hv
   ·cases hv
  split at hv
  ·rename_i b y hx hy
   split at hv
   ·rename_i k e hd
    split at hv
    ·rename_i kt et es hk he hm
     have hu:P.underlying t = some (.map k e):=by rw [(hty t y hy).2,hd]
     split at hv
     ·rename_i n c hfit hf
      have key:=ops_lookup (P:=P) (G:=G) (GB:=GB) (h:=h) ho hx hu (hty _ _ hk).2 hm hfit hf
      split at hv <;> (simp only [Option.some.injEq,Prod.mk.injEq] at hv;obtain ⟨rfl,rfl⟩:=hv;simpa using key)
     ·rename_i hfit hf
      split at hv
      ·rename_i z hz
       split at hv
       ·rename_i hp
        have key:=ops_lookup_none (P:=P) (G:=G) (GB:=GB) (h:=h) ho hx hu (hty _ _ hk).2 (hty _ _ he).1 hz hp hm hfit hf
        simp only [Option.some.injEq,Prod.mk.injEq] at hv;obtain ⟨rfl,rfl⟩:=hv;simpa using key
       ·rename_i hp
        have key:=ops_lookup_none (P:=P) (G:=G) (GB:=GB) (h:=h) ho hx hu (hty _ _ hk).2 (hty _ _ he).1 hz hp hm hfit hf
        simp only [Option.some.injEq,Prod.mk.injEq] at hv;obtain ⟨rfl,rfl⟩:=hv;simpa using key
       ·cases hv
      ·cases hv
     ·cases hv
    ·cases hv
   ·cases hv
  ·cases hv
 ·rename_i t m k x ho
  split at hv
  ·split at hv
   ·exact ops_updP hty ho (by assumption) hv
   ·exact ops_updA hty ho hv
  split at hv
  ·rename_i M hM
   unfold updT at hv
   split at hv
   ·rename_i b y hx hy
    split at hv
    ·rename_i kt e hd
     split at hv
     ·rename_i kt' key val hk hkey hval
      split at hv
      ·rename_i hc
       simp only [Bool.and_eq_true] at hc
       obtain ⟨⟨h1,h2⟩,h3⟩:=hc
       simp only [Option.some.injEq,Prod.mk.injEq] at hv;obtain ⟨rfl,rfl⟩:=hv
       exact ops_updT ho hM hx (by rw [(hty t y hy).2,hd]) (hty _ _ hk).2 hkey hval h1 h2 h3
      ·cases hv
     ·cases hv
    ·cases hv
   ·cases hv
  split at hv
  ·rename_i b y hx hy
   split at hv
   ·rename_i kt e hd
    split at hv
    ·rename_i kt' es hk hm
     have hu:P.underlying t = some (.map kt e):=by rw [(hty t y hy).2,hd]
     split at hv
     ·rename_i hfit hf
      split at hv
      ·rename_i hown
       simp only [Option.some.injEq,Prod.mk.injEq] at hv;obtain ⟨rfl,rfl⟩:=hv
       exact ops_mapUpdate ho hx hu (hty _ _ hk).2 hm hfit hf hown
      ·cases hv
     ·cases hv
    ·cases hv
   ·cases hv
  ·cases hv
 ·rename_i t x ho
  split at hv
  ·rename_i s y hx hy
   split at hv
   ·rename_i hd
    simp only [Option.some.injEq,Prod.mk.injEq] at hv;obtain ⟨rfl,rfl⟩:=hv
    exact ops_range ho (by rw [(hty t y hy).2,hd]) hx
   ·cases hv
  ·cases hv
 ·rename_i it ho
  split at hv
  ·rename_i b hi
   split at hv
   ·rename_i s pos hat
    split at hv
    ·rename_i hlt
     rw [Nat.blt_eq] at hlt
     simp only [Option.some.injEq,Prod.mk.injEq] at hv;obtain ⟨rfl,rfl⟩:=hv
     exact ops_next ho hi hat hlt
    ·rename_i hlt
     simp only [Option.some.injEq,Prod.mk.injEq] at hv;obtain ⟨rfl,rfl⟩:=hv
     exact ops_next_end ho hi hat (fun e=>by rw [← Nat.blt_eq,hlt] at e;cases e)
   ·cases hv
  ·cases hv
 ·rename_i t i ho
  split at hv
  ·rename_i vs ht
   split at hv
   ·rename_i u hu
    split at hv
    ·rename_i hok
     simp only [Option.some.injEq,Prod.mk.injEq] at hv;obtain ⟨rfl,rfl⟩:=hv
     exact ops_extract ho ht hu hok
    ·cases hv
   ·cases hv
  ·cases hv
 ·rename_i t parts ho
  split at hv
  ·rename_i cs hok hb
   simp only [Option.some.injEq,Prod.mk.injEq] at hv;obtain ⟨rfl,rfl⟩:=hv
   exact ops_build hty ho hok hb
  ·cases hv
 ·rename_i t len parts ho
  split at hv
  ·rename_i y hy
   split at hv
   ·rename_i e hd
    split at hv
    ·rename_i z hz
     split at hv
     ·rename_i hc
      simp only [Bool.and_eq_true,Nat.beq_eq,Nat.blt_eq] at hc
      obtain ⟨⟨⟨_,rfl⟩,h1⟩,h2⟩:=hc
      split at hv
      ·split at hv
       ·rename_i ks hkd
        split at hv
        ·rename_i hkl
         rw [Nat.beq_eq] at hkl
         simp only [Option.some.injEq,Prod.mk.injEq] at hv;obtain ⟨rfl,rfl⟩:=hv
         exact ops_empty ho (by rw [(hty t y hy).2,hd]) (hty _ _ hz).1 h2 (by simpa using h1) (kds_flat hkd) hkl
        ·cases hv
       ·cases hv
      ·cases hv
     split at hv
     ·rename_i zv hzv
      split at hv
      ·rename_i cs hc hf
       simp only [Bool.and_eq_true,Nat.beq_eq,Nat.ble_eq,Nat.blt_eq] at hc
       obtain ⟨⟨⟨⟨h1,h2⟩,h3⟩,h4⟩,h5⟩:=hc
       simp only [Option.some.injEq,Prod.mk.injEq] at hv;obtain ⟨rfl,rfl⟩:=hv
       exact ops_buildSlice ho (by rw [(hty t y hy).2,hd]) (hty _ _ hz).1 hzv h1 h2 h3 h4 h5 hf
      ·cases hv
     ·cases hv
    ·cases hv
   ·cases hv
  ·cases hv
 ·rename_i args ts ho
  split at hv
  ·rename_i x t ha hts
   rw [arr1 ha] at ho
   split at hv
   ·rename_i ad n c y hx hy
    split at hv
    ·rename_i e hd
     simp only [Option.some.injEq,Prod.mk.injEq] at hv;obtain ⟨rfl,rfl⟩:=hv
     exact ops_len_slice (t:=t) ho (by rw [arr1 hts];simp) (by rw [(hty t y hy).2,hd]) hx
    ·cases hv
   ·rename_i s y hx hy
    split at hv
    ·rename_i hd
     simp only [Option.some.injEq,Prod.mk.injEq] at hv;obtain ⟨rfl,rfl⟩:=hv
     exact ops_len_string (t:=t) ho (by rw [arr1 hts];simp) (by rw [(hty t y hy).2,hd]) hx
    ·cases hv
   ·cases hv
  ·cases hv
 ·rename_i args ts ho
  split at hv
  ·rename_i s x t t' ha hts
   rw [arr2 ha,arr2 hts] at ho
   split at hv
   ·rename_i y htt hy
    split at hv
    ·rename_i e hd
     split at hv
     ·rename_i z hz
      refine ops_app2 ho (by rw [(hty t y hy).2,hd]) (sameSl_some hty htt hy hd) fun o' ho'=>?_
      split at hv
      ·exact ops_appX ho' (by rw [(hty t y hy).2,hd]) (hty _ _ hz).1 hv
      ·exact ops_append ho' (by rw [(hty t y hy).2,hd]) (hty _ _ hz).1 hv
     ·cases hv
    ·cases hv
   ·rename_i y htt hy
    split at hv
    ·rename_i p hz
     obtain ⟨_,y2,e,y',k,z,ks,e1,e2,e3,e4,e5,e6,e7⟩:=appZX_some hz
     rw [← e7] at hv
     exact ops_appZE ho (by rw [(hty t y2 e1).2,e2]) (by rw [(hty t' y' e3).2,e4]) (hty _ _ e5).1 e6 hv
    split at hv
    ·rename_i e y' hd hy'
     split at hv
     ·rename_i k z hk hz
      exact ops_appendZ ho (by rw [(hty t y hy).2,hd]) (by rw [(hty t' y' hy').2,hk]) (hty _ _ hz).1 hv
     ·cases hv
    ·cases hv
   ·cases hv
  ·cases hv
 ·rename_i args ts ho
  split at hv
  ·rename_i x ha
   split at hv
   ·exact ops_plain (fun cs b e=>by rw [ho] at e;cases e) hv
   ·cases hv
  ·cases hv
 ·rename_i args ts ho
  split at hv
  ·rename_i d x t t2 rest ha hts
   rw [arr2 ha,← Array.toArray_toList (xs:=ts),hts] at ho
   split at hv
   ·rename_i y hy
    split at hv
    ·rename_i e hd
     split at hv
     ·rename_i z hz
      split at hv
      ·exact ops_copyE ho (by rw [(hty t y hy).2,hd]) (hty _ _ hz).1 hv
      ·exact ops_copy ho (by rw [(hty t y hy).2,hd]) (hty _ _ hz).1 hv
     ·cases hv
    ·cases hv
   ·cases hv
  ·cases hv
 ·rename_i args ts ho
  split at hv
  ·rename_i x t ha hts
   rw [arr1 ha,arr1 hts] at ho
   split at hv
   ·rename_i y hy
    split at hv
    ·rename_i e hd
     split at hv
     ·rename_i z hz
      split at hv
      ·exact ops_clearE ho (by rw [(hty t y hy).2,hd]) (hty _ _ hz).1 hv
      ·exact ops_clear ho (by rw [(hty t y hy).2,hd]) (hty _ _ hz).1 hv
     ·cases hv
    ·cases hv
   ·cases hv
  ·cases hv
 all_goals first
  | (rename_i op t x y i ho;exact ops_bin hty ho hv)
  | (rename_i t t' x ho;exact ops_convV hty ho hv)
  | (rename_i ho;exact ops_plain (fun cs b e=>by rw [ho] at e;cases e) hv)
  | cases hv
end
end Go.Am
namespace Go.Am
noncomputable section
open Go Go.RowKit
variable {P:Program} {ty:TypeId→Option ATy} {G:Gl} {GB:Nat}
def atR:List Nat→List Value→Nat→Option Value
 | r :: rs,v :: vs,i=>match Nat.beq i r with
   | true=>some v
   | false=>atR rs vs i
 | _,_,_=>none
def mkT (N:Nat) (rel:List Nat) (vals:List Value) (j:Nat→Value):List Value:=
 (List.range N).map fun i=>match atR rel vals i with
  | some v=>v
  | none=>j i
mutual
def imp (own:Bool):D→Heap→Value × Heap
 | .val v,h=>(v,h)
 | .agg cs,h=>match imps own cs h with
   | (vs,h')=>(.agg vs.toArray,h')
 | .tup cs,h=>match imps own cs h with
   | (vs,h')=>(.tuple vs.toArray,h')
 | .emp sz,h=>(.slice (some ⟨0,0,none⟩) 0 sz,h)
 | .sl n sz cs,h=>match imps own cs h with
   | (vs,h')=>(.slice (some ⟨K0 + h'.length,0,none⟩) n sz,h'++[.row vs own none])
 | .box cs,h=>match imps own cs h with
   | (vs,h')=>(.pointer (some ⟨K0 + h'.length,0,none⟩),h'++[.row vs own none])
 | .fn f xs ys,h=>match imps own xs h with
   | (vs,h1)=>match imps own ys h1 with
     | (us,h2)=>(.func (.func f) vs.toArray us.toArray,h2)
 | .vec ks l,h=>match own with
   | true=>(.slice (some ⟨K0 + h.length,1,some 0⟩) l.length ks.length,h++[.vec ks l true])
   | false=>(.slice (some ⟨K0 + h.length,0,some 0⟩) l.length ks.length,h++[.vec ks l false])
 | .osl n sz cs,h=>match imps own cs h with
   | (vs,h')=>(.slice (some ⟨K0 + h'.length,0,none⟩) n sz,h'++[.row vs true none])
 | .obox cs,h=>match imps own cs h with
   | (vs,h')=>(.pointer (some ⟨K0 + h'.length,0,none⟩),h'++[.row vs true none])
 | .ovec ks l,h=>(.slice (some ⟨K0 + h.length,1,some 0⟩) l.length ks.length,h++[.vec ks l true])
 | .opt ks l n,h=>(.slice (some ⟨K0 + h.length,2,some 0⟩) n ks.length,h++[.vec ks l true])
 | .map kk vk es,h=>(.map (some (K0 + h.length)),h++[.map (.ty kk vk es) own])
 | .omap kk vk es,h=>(.map (some (K0 + h.length)),h++[.map (.ty kk vk es) true])
 | .yl N lp rel cs,h=>match imps own cs h with
   | (vs,h')=>(.func (.yield (K0 + h'.length)) #[] #[],h'++[.loop { lp with tmps:=mkT N rel vs fun _=>unk }])
def imps (own:Bool):List D→Heap→List Value × Heap
 | [],h=>([],h)
 | d :: ds,h=>match imp own d h with
   | (v,h1)=>match imps own ds h1 with
     | (vs,h2)=>(v :: vs,h2)
end
def mp (f:Value→Option D):List Value→Option (List D)
 | []=>some []
 | v :: vs=>match f v with
   | some d=>match mp f vs with
     | some ds=>some (d :: ds)
     | none=>none
   | none=>none
def thr (f:Heap→Value→Option (D × Heap)):List Value→Heap→Option (List D × Heap)
 | [],h=>some ([],h)
 | v :: vs,h=>match f h v with
   | some (d,h1)=>match thr f vs h1 with
     | some (ds,h2)=>some (d :: ds,h2)
     | none=>none
   | none=>none
def rd:Nat→Heap→Value→Option D
 | 0,_,_=>none
 | n + 1,h,v=>match v with
   | .agg cs=>match mp (rd n h) cs.toList with
     | some ds=>some (.agg ds)
     | none=>none
   | .tuple cs=>match cs.toList.all okv,mp (rd n h) cs.toList with
     | true,some ds=>some (.tup ds)
     | _,_=>none
   | .slice (some ⟨b,o,none⟩) len sz=>match Nat.ble K0 b with
     | true=>match h.at b with
       | .row cells _ _=>match cut cells o (len * sz) with
         | some cs=>match mp (rd n h) cs with
           | some ds=>some (.sl len sz ds)
           | none=>none
         | none=>none
       | _=>none
     | false=>match b,o,len with
       | 0,0,0=>some (.emp sz)
       | _,_,_=>none
   | .slice (some ⟨b,o,some lo⟩) len sz=>match listN h (.slice (some ⟨b,o,some lo⟩) len sz) with
     | some L=>some (.vec L.ks L.l)
     | none=>none
   | .map (some b)=>match h.at b with
     | .map (.ty kk vk es) _=>some (.map kk vk es)
     | _=>none
   | .pointer (some ⟨b,0,none⟩)=>match Nat.ble K0 b with
     | true=>match h.at b with
       | .row cells _ _=>match mp (rd n h) cells with
         | some ds=>some (.box ds)
         | none=>none
       | _=>none
     | false=>none
   | .func (.func f) xs ys=>match mp (rd n h) xs.toList,mp (rd n h) ys.toList with
     | some xs,some ys=>some (.fn f xs ys)
     | _,_=>none
   | v=>match scal v with
     | true=>some (.val v)
     | false=>none
def rdO:Nat→Heap→Value→Option (D × Heap)
 | 0,_,_=>none
 | n + 1,h,v=>match v with
   | .agg cs=>match thr (rdO n) cs.toList h with
     | some (ds,h')=>some (.agg ds,h')
     | none=>none
   | .tuple cs=>match cs.toList.all okv,thr (rdO n) cs.toList h with
     | true,some (ds,h')=>some (.tup ds,h')
     | _,_=>none
   | .slice (some ⟨b,o,none⟩) len sz=>match h.at b with
     | .row cells true m=>match o,Nat.ble (len * sz) cells.length with
       | 0,true=>match thr (rdO n) (cells.take (len * sz)) ((h.kill m).kill (some b)) with
         | some (ds,h')=>some (.sl len sz ds,h')
         | none=>none
       | _,_=>none
     | _=>match b,o,len with
       | 0,0,0=>some (.emp sz,h)
       | _,_,_=>none
   | .slice (some ⟨b,1,some 0⟩) _ _=>match h.at b with
     | .vec ks l true=>some (.vec ks l,h.kill (some b))
     | _=>none
   | .slice (some ⟨b,2,some lo⟩) len _=>match h.at b with
     | .vec ks l true=>match len with
       | 0=>match lo,l with
         | 0,_ :: _=>some (.emp ks.length,h)
         | _,_=>none
       | k + 1=>some (.vec ks ((l.drop lo).take (k + 1)),h.kill (some b))
     | _=>none
   | .map (some b)=>match h.at b with
     | .map (.ty kk vk es) true=>some (.map kk vk es,h.kill (some b))
     | _=>none
   | v=>match scal v with
     | true=>some (.val v,h)
     | false=>none
theorem HR.newRO {r:Ren} {h:Heap} {w:World} (H:HR G GB r h w) (hno:∀ k,¬ Owned r h k) (vs:List Value) (t:Tgt) (hlt:t.blk < w.heap.size) (hobj:ObjR r w t (.row vs false none)) (hinn:∀ k,t.inn k→k < w.heap.size:=by exact fun _ h=>h.elim) :
  HR G GB (r.put (K0 + h.length) t) (h++[.row vs false none]) w∧(∀ k,¬ Owned (r.put (K0 + h.length) t) (h++[.row vs false none]) k):=by
 have hle:=Ren.le_put H t
 have noown:∀ b,(Heap.at (h++[.row vs false none]) b).owned = true→b ≠ K0 + h.length∧(h.at b).owned = true:=fun b hb=>by
  rw [at_snoc] at hb
  by_cases e:b = K0 + h.length
  ·simp [e,AObj.owned] at hb
  ·rw [if_neg e] at hb;exact ⟨e,hb⟩
 have noown':∀ b,(Heap.at (h++[.row vs false none]) b).owned ≠ true:=fun b hb=>by
  obtain ⟨h1,h2⟩:=noown b hb
  obtain ⟨t',h3,_,_⟩:=H.obj b (AObj.alive_of_owned h2)
  exact hno _ ⟨b,t',h2,h3,rfl⟩
 refine ⟨⟨fun b t' hb=>?_,fun b hb=>?_,fun b b' t1 t2 hb=>absurd hb (noown' b),H.glob,H.gb,fun b t1 hb=>absurd hb (noown' b),frz_snoc H (Nat.le_refl _) (fun k hk=>⟨hinn k hk,hno k,fun e=>by cases e⟩) fun e=>by cases e⟩,fun k ho=>let ⟨b,_,hb,_⟩:=ho;noown' b hb⟩
 ·by_cases e:b = K0 + h.length
  ·subst e;simp
  ·rw [Ren.put_other _ _ e] at hb
   have:=H.dom b t' hb;simp;omega
 ·by_cases e:b = K0 + h.length
  ·subst e
   refine ⟨t,Ren.put_self ..,hlt,?_⟩
   rw [at_snoc,if_pos rfl];exact ObjR.of_block hle rfl (fun _ _=>rfl) hobj
  ·rw [at_snoc,if_neg e] at hb ⊢
   obtain ⟨u,hu,hlt',hob⟩:=H.obj b hb
   exact ⟨u,by rw [Ren.put_other _ _ e];exact hu,hlt',ObjR.of_block hle rfl (fun _ _=>rfl) hob⟩
def VRs (r:Ren) (vs us:List Value):Prop:=vs.length = us.length∧∀ (j:Nat) (v:Value),vs[j]? = some v→∃ u,us[j]? = some u∧VR r v u
theorem VRs.mono {r r':Ren} (hr:Ren.le r r') {vs us:List Value} (h:VRs r vs us):VRs r' vs us:=⟨h.1,fun j v hj=>let ⟨u,a,b⟩:=h.2 j v hj;⟨u,a,b.mono hr⟩⟩
theorem VRs.cons {r:Ren} {v u:Value} {vs us:List Value} (h:VR r v u) (hs:VRs r vs us):VRs r (v :: vs) (u :: us):=⟨by simp [hs.1],fun j x hj=>by
 cases j with
 | zero=>simp at hj;subst hj;exact ⟨u,rfl,h⟩
 | succ j=>exact hs.2 j x (by simpa using hj)⟩
theorem VRs.nil (r:Ren):VRs r [] []:=⟨rfl,fun j v hj=>by simp at hj⟩
theorem VRs.append {r:Ren} {vs us vs' us':List Value} (h:VRs r vs us) (h':VRs r vs' us'):VRs r (vs++vs') (us++us'):=⟨by simp [h.1,h'.1],fun j x hj=>by
 rcases Nat.lt_or_ge j vs.length with hl | hg
 ·rw [List.getElem?_append_left hl] at hj
  rw [List.getElem?_append_left (by have:=h.1;omega)];exact h.2 j x hj
 ·rw [List.getElem?_append_right hg] at hj
  rw [List.getElem?_append_right (by have:=h.1;omega),← h.1];exact h'.2 _ x hj⟩
theorem VRs.agg {r:Ren} {vs us:List Value} (h:VRs r vs us):VR r (.agg vs.toArray) (.agg us.toArray):=.agg _ _ (by simp [h.1]) fun j h1 h2=>by
 obtain ⟨u,hu,hv⟩:=h.2 j vs[j] (by simp at h1;simp [h1])
 simp at h2;simp [h2] at hu;simpa [hu] using hv
theorem VRs.tup {r:Ren} {vs us:List Value} (h:VRs r vs us):VR r (.tuple vs.toArray) (.tuple us.toArray):=.tup _ _ (by simp [h.1]) fun j h1 h2=>by
 obtain ⟨u,hu,hv⟩:=h.2 j vs[j] (by simp at h1;simp [h1])
 simp at h2;simp [h2] at hu;simpa [hu] using hv
theorem VRs.fn {r:Ren} {f:FuncId} {vs us vs' us':List Value} (h:VRs r vs us) (h':VRs r vs' us'):VR r (.func (.func f) vs.toArray vs'.toArray) (.func (.func f) us.toArray us'.toArray):=
 .func f _ _ _ _ (by simp [h.1]) (by simp [h'.1]) (fun j h1 h2=>by
  obtain ⟨u,hu,hv⟩:=h.2 j vs[j] (by simp at h1;simp [h1])
  simp at h2;simp [h2] at hu;simpa [hu] using hv) (fun j h1 h2=>by
  obtain ⟨u,hu,hv⟩:=h'.2 j vs'[j] (by simp at h1;simp [h1])
  simp at h2;simp [h2] at hu;simpa [hu] using hv)
theorem VRs.of_arr {r:Ren} {xs xs':Array Value} (hx:xs.size = xs'.size) (h:∀ (j:Nat) (h:j < xs.size) (h':j < xs'.size),VR r xs[j] xs'[j]):VRs r xs.toList xs'.toList:=
 ⟨by simpa using hx,fun j v hj=>by
  obtain ⟨h1,rfl⟩:=List.getElem?_eq_some_iff.1 hj
  simp at h1
  exact ⟨xs'[j]'(by omega),by simp [show j < xs'.size by omega],by simpa using h j h1 (by omega)⟩⟩
def ImpOK (G:Gl) (GB:Nat) (w:World) (d:D) (u:Value):Prop:=
 ∀ h0 r0,HR G GB r0 h0 w→(∀ k,¬ Owned r0 h0 k) →
  ∃ r1,Ren.le r0 r1∧HR G GB r1 (imp false d h0).2 w∧VR r1 (imp false d h0).1 u∧(∀ k,¬ Owned r1 (imp false d h0).2 k)
def ImpsAt (G:Gl) (GB:Nat) (w:World) (ds:List D) (us:List Value):Prop:=
 ∀ h0 r0,HR G GB r0 h0 w→(∀ k,¬ Owned r0 h0 k) →
  ∃ r1,Ren.le r0 r1∧HR G GB r1 (imps false ds h0).2 w∧VRs r1 (imps false ds h0).1 us∧(∀ k,¬ Owned r1 (imps false ds h0).2 k)
theorem imps_at {w:World}:∀ (ds:List D) (us:List Value),ds.length = us.length→(∀ (j:Nat) (d:D) (u:Value),ds[j]? = some d→us[j]? = some u→ImpOK G GB w d u)→ImpsAt G GB w ds us
 | [],[],_,_=>fun h0 r0 H hno=>⟨r0,.refl _,by simpa [imps] using H,by simpa [imps] using VRs.nil r0,by simpa [imps] using hno⟩
 | [],_ :: _,h,_=>by simp at h
 | _ :: _,[],h,_=>by simp at h
 | d :: ds,u :: us,hl,hd=>fun h0 r0 H hno=>by
   obtain ⟨r1,le1,H1,v1,no1⟩:=hd 0 d u rfl rfl h0 r0 H hno
   obtain ⟨r2,le2,H2,v2,no2⟩:=imps_at ds us (by simpa using hl) (fun j d' u' hj hj'=>hd (j + 1) d' u' (by simpa using hj) (by simpa using hj')) _ r1 H1 no1
   exact ⟨r2,le1.trans le2,by simpa [imps] using H2,by simpa [imps] using VRs.cons (v1.mono le2) v2,by simpa [imps] using no2⟩
def ImpsOK (G:Gl) (GB:Nat) (w:World) (ds:List D) (us:List Value):Prop:=
 ds.length = us.length∧∀ (j:Nat) (d:D) (u:Value),ds[j]? = some d→us[j]? = some u→ImpOK G GB w d u
theorem imps_ok {w:World} (ds:List D) (us:List Value) (hl:ds.length = us.length) (hd:∀ (j:Nat) (d:D) (u:Value),ds[j]? = some d→us[j]? = some u→ImpOK G GB w d u):ImpsOK G GB w ds us:=⟨hl,hd⟩
theorem ImpsOK.at {w:World} {ds:List D} {us:List Value} (h:ImpsOK G GB w ds us):ImpsAt G GB w ds us:=imps_at ds us h.1 h.2
theorem mp_some {f:Value→Option D}:∀ {vs:List Value} {ds:List D},mp f vs = some ds→ds.length = vs.length∧∀ (j:Nat) (d:D),ds[j]? = some d→∃ v,vs[j]? = some v∧f v = some d
 | [],ds,h=>by simp [mp] at h;subst h;exact ⟨rfl,fun j d hj=>by simp at hj⟩
 | v :: vs,ds,h=>by
   simp only [mp] at h
   cases hf:f v with
   | none=>simp [hf] at h
   | some d=>
     cases hm:mp f vs with
     | none=>simp [hf,hm] at h
     | some ds'=>
       simp [hf,hm] at h
       subst h
       obtain ⟨h1,h2⟩:=mp_some hm
       refine ⟨by simp [h1],fun j d' hj=>?_⟩
       cases j with
       | zero=>simp at hj;subst hj;exact ⟨v,rfl,hf⟩
       | succ j=>simpa using h2 j d' (by simpa using hj)
theorem mp_ok {w:World} {r:Ren} {f:Value→Option D} (hf:∀ v d u,f v = some d→VR r v u→ImpOK G GB w d u) {vs us:List Value} {ds:List D} (h:mp f vs = some ds) (hv:VRs r vs us) :
  ImpsOK G GB w ds us:=by
 obtain ⟨h1,h2⟩:=mp_some h
 refine imps_ok ds us (by rw [h1,hv.1]) fun j d u hj hu=>?_
 obtain ⟨v,hvj,hfv⟩:=h2 j d hj
 obtain ⟨u',hu',hvr⟩:=hv.2 j v hvj
 rw [hu] at hu';cases hu'
 exact hf v d u hfv hvr
theorem row_ok {w:World} {r:Ren} {h:Heap} (H:HR G GB r h w) {b:Nat} {t:Tgt} {cells cs:List Value} {own:Bool} {m:Option Nat} (hat:h.at b = .row cells own m) (hr:r b = some t) (o:Nat)
  (hcs:∀ (j:Nat) (c:Value),cs[j]? = some c→cells[o + j]? = some c) (hfit:o + cs.length ≤ cells.length) {f:Value→Option D} (hf:∀ v d u,f v = some d→VR r v u→ImpOK G GB w d u) {ds:List D} (hm:mp f cs = some ds)
  (h0:Heap) (r0:Ren) (H0:HR G GB r0 h0 w) (hno:∀ k,¬ Owned r0 h0 k) :
  ∃ r1,Ren.le r0 r1∧HR G GB r1 ((imps false ds h0).2++[.row (imps false ds h0).1 false none]) w∧r1 (K0 + (imps false ds h0).2.length) = some ⟨t.blk,t.off + o,t.lim,cs.length,0,no⟩ ∧
   (∀ k,¬ Owned r1 ((imps false ds h0).2++[.row (imps false ds h0).1 false none]) k):=by
 obtain ⟨t',hr',hlt,hobj⟩:=H.obj b (by rw [hat];rfl)
 rw [hr] at hr';cases hr'
 rw [hat] at hobj
 obtain ⟨p1,p2,_⟩:=hobj
 obtain ⟨us,ul,uc,uv⟩:=reads_list (r:=r) (w:=w) (bb:=t.blk) (oo:=t.off + o) cs (fun j c hj=>by
  obtain ⟨x,hx,hvx⟩:=p2 _ _ (hcs j c hj)
  exact ⟨x,by rw [← hx];congr 2;omega,hvx⟩)
 obtain ⟨r1,le1,H1,v1,no1⟩:=(mp_ok hf hm ⟨ul.symm,uv⟩).at h0 r0 H0 hno
 obtain ⟨h1,_⟩:=mp_some hm
 obtain ⟨a1,a2⟩:=H1.newRO no1 (imps false ds h0).1 ⟨t.blk,t.off + o,t.lim,cs.length,0,no⟩ hlt ⟨⟨by rw [v1.1,ul],by rw [v1.1,ul];simp only;omega⟩,fun j c hj=>by
  obtain ⟨u,hu,hvu⟩:=v1.2 j c hj
  have:=uc j u hu
  rw [addr_add] at this
  exact ⟨u,this,hvu⟩,fun h=>by cases h⟩
 exact ⟨_,le1.trans (Ren.le_put H1 _),a1,Ren.put_self ..,a2⟩
theorem rd_ok {w:World} {r:Ren} {h:Heap} (H:HR G GB r h w):∀ (n:Nat) (v:Value) (d:D) (u:Value),rd n h v = some d→VR r v u→ImpOK G GB w d u:=by
 intro n
 induction n with
 | zero=>intro v d u hd;simp [rd] at hd
 | succ n ih=>
   intro v d u hd hv
   unfold rd at hd
   split at hd
   ·rename_i cs
    split at hd
    ·rename_i ds hm
     simp only [Option.some.injEq] at hd;subst hd
     have hvs:∃ xs',u = .agg xs'∧VRs r cs.toList xs'.toList:=by
      cases hv with
      | scal _ hs=>simp [Am.scal] at hs
      | agg _ xs' hx hj=>exact ⟨xs',rfl,VRs.of_arr hx hj⟩
     obtain ⟨xs',rfl,hvs⟩:=hvs
     intro h0 r0 H0 hno
     obtain ⟨r1,le1,H1,v1,no1⟩:=(mp_ok (fun v d u=>ih v d u) hm hvs).at h0 r0 H0 hno
     exact ⟨r1,le1,by simpa [imp] using H1,by simpa [imp] using v1.agg,by simpa [imp] using no1⟩
    ·cases hd
   ·rename_i cs
    split at hd
    ·rename_i ds hok hm
     simp only [Option.some.injEq] at hd;subst hd
     have hvs:∃ xs',u = .tuple xs'∧VRs r cs.toList xs'.toList:=by
      cases hv with
      | scal _ hs=>simp [Am.scal] at hs
      | top=>simp [okv] at hok
      | tup _ xs' hx hj=>exact ⟨xs',rfl,VRs.of_arr hx hj⟩
     obtain ⟨xs',rfl,hvs⟩:=hvs
     intro h0 r0 H0 hno
     obtain ⟨r1,le1,H1,v1,no1⟩:=(mp_ok (fun v d u=>ih v d u) hm hvs).at h0 r0 H0 hno
     exact ⟨r1,le1,by simpa [imp] using H1,by simpa [imp] using v1.tup,by simpa [imp] using no1⟩
    ·cases hd
   ·rename_i b o len sz
    split at hd
    ·rename_i hK
     rw [Nat.ble_eq] at hK
     split at hd
     ·rename_i cells own m hat
      split at hd
      ·rename_i cs hc
       split at hd
       ·rename_i ds hm
        simp only [Option.some.injEq] at hd;subst hd
        rcases hv.slice' with ⟨t,cap,hr,_,hz,hn,hl,rfl⟩ | ⟨rfl,_⟩
        ·intro h0 r0 H0 hno
         obtain ⟨r1,le1,H1,e1,no1⟩:=row_ok H hat hr o (fun j c hj=>(cut_get hc j c hj).2) (by have:=cut_some hc;have:=cut_len hc;omega) (fun v d u=>ih v d u) hm h0 r0 H0 hno
         refine ⟨r1,le1,by simpa [imp] using H1,?_,by simpa [imp] using no1⟩
         have hcl:=cut_len hc
         have hmul:len * sz ≤ cap * sz:=Nat.mul_le_mul_right _ hn
         have:=VR.slice (r:=r1) (K0 + (imps false ds h0).2.length) 0 len sz cap ⟨t.blk,t.off + o,t.lim,cs.length,0,no⟩ e1 hn (by simpa using hl.1) hz (by omega) (by simp only;omega)
         simpa [imp] using this
        ·exact absurd hK (by decide)
       ·cases hd
      ·cases hd
     ·cases hd
    ·split at hd
     ·simp only [Option.some.injEq] at hd;subst hd
      intro h0 r0 H0 hno
      refine ⟨r0,.refl _,by simpa [imp] using H0,?_,by simpa [imp] using hno⟩
      rcases hv.slice' with ⟨t,cap,hr,hK,_⟩ | ⟨_,_,_,hz,a,cap,rfl⟩
      ·exact absurd hK (by decide)
      ·simpa [imp] using VR.slice0 (r:=r0) a sz cap hz
     ·cases hd
   ·rename_i b o lo n sz
    split at hd
    ·rename_i L hL
     simp only [Option.some.injEq] at hd;subst hd
     obtain ⟨hfl,hpos,t,lo',⟨q1,q2,q3⟩,hlt,⟨hin,_⟩,hel⟩:=listN_el H hL hv
     obtain ⟨ks,l⟩:=L
     simp only at *
     intro h0 r0 H0 hno
     rcases q3 with ⟨h0l,hE,_⟩ | ⟨hn,q3,cap,⟨q4,_⟩,q5,rfl⟩
     ·obtain ⟨a1,a2,a3⟩:=H0.nothing hfl hpos l h0l false
      refine ⟨_,Ren.le_put H0 _,by simpa [imp] using a1,?_,by simpa [imp] using fun k ho=>hno k (a3 k ho)⟩
      have:=VR.vsl (r:=r0.put (K0 + h0.length) ⟨0,0,0,0,ks.length,no⟩) (K0 + h0.length) l.length ks.length _ u (Ren.put_self ..) (by omega) ⟨rfl,hpos,.inl ⟨h0l,hE,.of_len rfl⟩⟩ (by simp [h0l])
      simpa [imp] using this
     ·have hm:(lo' + cap) * ks.length = lo' * ks.length + cap * ks.length:=Nat.add_mul ..
      have hm2:l.length * ks.length ≤ cap * ks.length:=Nat.mul_le_mul_right _ q4
      obtain ⟨a1,a2,a3⟩:=H0.addRO (.vec ks l false) ⟨t.blk,t.off + lo' * ks.length,t.lim,l.length * ks.length,ks.length,t.inn⟩ rfl hlt (hno _) ⟨hfl,⟨rfl,hpos,rfl⟩,fun h=>by omega,fun _=>⟨by simp only;omega,fun i x hx=>(hel hn i x hx).congr fun j _=>by
       simp only [Nat.add_mul]
       congr 2;omega,fun h=>by cases h⟩⟩ (fun k hk=>⟨hin k hk,hno k⟩)
      refine ⟨_,Ren.le_put H0 _,by simpa [imp] using a1,?_,by simpa [imp] using fun k ho=>hno k (a3 k ho)⟩
      have:=VR.vsl (r:=r0.put (K0 + h0.length) ⟨t.blk,t.off + lo' * ks.length,t.lim,l.length * ks.length,ks.length,t.inn⟩) (K0 + h0.length) l.length ks.length _ (.slice (some ⟨t.blk,t.off + lo' * ks.length,none⟩) l.length cap) (Ren.put_self ..) (by omega)
       ⟨rfl,hpos,.inr ⟨hn,by simp,cap,⟨q4,by simp only [Nat.zero_add];exact hm2⟩,by simp only [Nat.zero_add];omega,by simp⟩⟩ rfl
      simpa [imp] using this
    ·cases hd
   ·rename_i b
    split at hd
    ·rename_i kk vk es own hat
     simp only [Option.some.injEq] at hd;subst hd
     obtain ⟨t,ents,clk,rfl,hr,hlt,hmp,hsz,hes⟩:=H.tmapAt hat hv
     have hscal:∀ (j:Nat) (k v:Value),(MapR.ty kk vk es).list[j]? = some (k,v)→plain k = true∧∃ e,ents[j]? = some e∧e.key = k∧∀ r',(∀ i t,r i = some t→r' i = some t)→VR r' v e.val:=fun j k v hj=>
      let ⟨a,e,b,c,d⟩:=hes j k v hj;⟨a,e,b,c,fun r' hr'=>d.mono hr'⟩
     intro h0 r0 H0 hno
     have hval:∀ (j:Nat) (k v:Value),(MapR.ty kk vk es).list[j]? = some (k,v)→∀ u,VR r v u→∀ r',VR r' v u:=fun j k v hj u hu r'=>by
      simp only [MapR.list,List.getElem?_map] at hj
      cases he:es[j]? with
      | none=>simp [he] at hj
      | some e0=>
        simp only [he,Option.map_some,Option.some.injEq,Prod.mk.injEq] at hj
        obtain ⟨_,rfl⟩:=hj
        exact tmap_val hu r'
     obtain ⟨a1,a2,a3⟩:=H0.addRO (.map (.ty kk vk es) false) ⟨t.blk,0,0,0,0,no⟩ rfl hlt (hno _) ⟨ents,clk,hmp,by simpa [MapR.list,MapR.Sz] using hsz,fun j k v hj=>by
      obtain ⟨b1,e,b2,b3,b4⟩:=hes j k v hj
      exact ⟨b1,e,b2,b3,hval j k v hj _ b4 _⟩⟩
     refine ⟨_,Ren.le_put H0 _,by simpa [imp] using a1,?_,by simpa [imp] using fun k ho=>hno k (a3 k ho)⟩
     have:=VR.map (r:=r0.put (K0 + h0.length) ⟨t.blk,0,0,0,0,no⟩) (K0 + h0.length) ⟨t.blk,0,0,0,0,no⟩ (Ren.put_self ..)
     simpa [imp] using this
    ·cases hd
   ·rename_i b
    split at hd
    ·rename_i hK
     rw [Nat.ble_eq] at hK
     split at hd
     ·rename_i cells own m hat
      split at hd
      ·rename_i ds hm
       simp only [Option.some.injEq] at hd;subst hd
       rcases hv.ptr' with ⟨t,hr,_,rfl⟩ | ⟨hlt,_⟩
       ·intro h0 r0 H0 hno
        obtain ⟨r1,le1,H1,e1,no1⟩:=row_ok H hat hr 0 (fun j c hj=>by simpa using hj) (by simp) (fun v d u=>ih v d u) hm h0 r0 H0 hno
        refine ⟨r1,le1,by simpa [imp] using H1,?_,by simpa [imp] using no1⟩
        have:=VR.ptr (r:=r1) (K0 + (imps false ds h0).2.length) 0 _ e1 (by omega)
        simpa [imp] using this
       ·omega
      ·cases hd
     ·cases hd
    ·cases hd
   ·rename_i f xs ys
    split at hd
    ·rename_i ds es h1 h2
     simp only [Option.some.injEq] at hd;subst hd
     have hvs:∃ xs' ys',u = .func (.func f) xs' ys'∧VRs r xs.toList xs'.toList∧VRs r ys.toList ys'.toList:=by
      cases hv with
      | scal _ hs=>
        simp [Am.scal] at hs
        obtain ⟨rfl,rfl⟩:=hs
        exact ⟨#[],#[],rfl,VRs.nil r,VRs.nil r⟩
      | func _ _ xs' _ ys' hx hy k1 k2=>exact ⟨xs',ys',rfl,VRs.of_arr hx k1,VRs.of_arr hy k2⟩
     obtain ⟨xs',ys',rfl,hvx,hvy⟩:=hvs
     intro h0 r0 H0 hno
     obtain ⟨r1,le1,H1,v1,no1⟩:=(mp_ok (fun v d u=>ih v d u) h1 hvx).at h0 r0 H0 hno
     obtain ⟨r2,le2,H2,v2,no2⟩:=(mp_ok (fun v d u=>ih v d u) h2 hvy).at _ r1 H1 no1
     exact ⟨r2,le1.trans le2,by simpa [imp] using H2,by simpa [imp] using (v1.mono le2).fn v2,by simpa [imp] using no2⟩
    ·cases hd
   ·split at hd
    ·rename_i hs
     simp only [Option.some.injEq] at hd;subst hd
     have:=hv.scal_eq hs
     subst this
     exact fun h0 r0 H0 hno=>⟨r0,.refl _,by simpa [imp] using H0,by simpa [imp] using VR.scal _ hs,by simpa [imp] using hno⟩
    ·cases hd
end
end Go.Am
namespace Go.Am
noncomputable section
open Go Go.RowKit
variable {P:Program} {ty:TypeId→Option ATy} {G:Gl} {GB:Nat}
theorem no_mine {r:Ren} {h:Heap} (hno:∀ k,¬ Owned r h k) (k:Nat):¬ Mine r h k:=fun ⟨b,t,hb,hr,_⟩=>hno t.blk ⟨b,t,hb,hr,rfl⟩
def Apart (r0:Ren) (h0:Heap) (r:Ren) (h:Heap):Prop:=∀ b t,(h0.at b).alive = true→r0 b = some t→¬ Owned r h t.blk∧((h0.at b).owned = true→¬ Mine r h t.blk)∧∀ k,t.inn k→¬ Owned r h k
theorem Apart.sub {r0 r:Ren} {h0 h h':Heap} (A:Apart r0 h0 r h) (s:Sub r h' h):Apart r0 h0 r h':=fun b t hb hr=>
 let ⟨x,y,z⟩:=A b t hb hr;⟨fun ho=>x (s.1 _ ho),fun hw ho=>y hw (s.2 _ ho),fun k hk ho=>z k hk (s.1 _ ho)⟩
def Newly (r0:Ren) (h0:Heap) (r1:Ren) (h1:Heap) (r:Ren) (h h':Heap):Prop:=
 ∀ b t,(h1.at b).alive = true→r1 b = some t→((h0.at b).alive = true∧(h0.at b).owned = (h1.at b).owned∧r0 b = some t) ∨ (Owned r h t.blk∧¬ Mine r h' t.blk∧∀ k,t.inn k→Mine r h k∧¬ Owned r h' k) ∨
  (t.blk = 0∧(h1.at b).owned = false∧∀ k,¬ t.inn k)
def OutOK (G:Gl) (GB:Nat) (w:World) (r:Ren) (h h':Heap) (d:D) (u:Value):Prop:=
 ∀ h0 r0,HR G GB r0 h0 w→Apart r0 h0 r h →
  ∃ r1,Ren.le r0 r1∧HR G GB r1 (imp true d h0).2 w∧VR r1 (imp true d h0).1 u∧Newly r0 h0 r1 (imp true d h0).2 r h h'∧(h0.length ≤ (imp true d h0).2.length∧∀ b t,r1 b = some t→r0 b = some t ∨ K0 + h0.length ≤ b)
def OutsOK (G:Gl) (GB:Nat) (w:World) (r:Ren) (h h':Heap) (ds:List D) (us:List Value):Prop:=
 ∀ h0 r0,HR G GB r0 h0 w→Apart r0 h0 r h →
  ∃ r1,Ren.le r0 r1∧HR G GB r1 (imps true ds h0).2 w∧VRs r1 (imps true ds h0).1 us∧Newly r0 h0 r1 (imps true ds h0).2 r h h'∧(h0.length ≤ (imps true ds h0).2.length∧∀ b t,r1 b = some t→r0 b = some t ∨ K0 + h0.length ≤ b)
theorem Newly.apart {r0 r1 r:Ren} {h0 h1 h h':Heap} (N:Newly r0 h0 r1 h1 r h h') (A:Apart r0 h0 r h) (sub:Sub r h' h) (hz:¬ Owned r h' 0):Apart r1 h1 r h':=fun b t hal hr=>by
 rcases N b t hal hr with ⟨a,e,c⟩ | ⟨_,c,d⟩ | ⟨c,d,e⟩
 ·obtain ⟨x,y,z⟩:=A.sub sub b t a c
  exact ⟨x,fun hw=>y (e.trans hw),z⟩
 ·exact ⟨fun ho=>c ho.mine,fun _=>c,fun k hk=>(d k hk).2⟩
 ·exact ⟨by rw [c];exact hz,fun hw=>(by rw [d] at hw;cases hw),fun k hk=>absurd hk (e k)⟩
theorem Newly.trans {r0 r1 r2 r:Ren} {h0 h1 h2 h h' h'':Heap} (N:Newly r0 h0 r1 h1 r h h') (M:Newly r1 h1 r2 h2 r h' h'') (s1:Sub r h' h) (s2:Sub r h'' h'):Newly r0 h0 r2 h2 r h h'':=fun b t hal hr=>by
 rcases M b t hal hr with ⟨a,e,c⟩ | ⟨a,c,d⟩ | ⟨a,c,d⟩
 ·rcases N b t a c with ⟨a',e',c'⟩ | ⟨a',c',d'⟩ | ⟨a',c',d'⟩
  ·exact .inl ⟨a',e'.trans e,c'⟩
  ·exact .inr (.inl ⟨a',fun ho=>c' (s2.2 _ ho),fun k hk=>⟨(d' k hk).1,fun ho=>(d' k hk).2 (s2.1 _ ho)⟩⟩)
  ·exact .inr (.inr ⟨a',e ▸ c',d'⟩)
 ·exact .inr (.inl ⟨s1.1 _ a,c,fun k hk=>⟨s1.2 _ (d k hk).1,(d k hk).2⟩⟩)
 ·exact .inr (.inr ⟨a,c,d⟩)
theorem Newly.refl (r0:Ren) (h0:Heap) (r:Ren) (h h':Heap):Newly r0 h0 r0 h0 r h h':=fun _ _ hal hr=>.inl ⟨hal,rfl,hr⟩
theorem HR.newOwn {r:Ren} {h:Heap} {w:World} (H:HR G GB r h w) (o:AObj) (t:Tgt) (hlt:t.blk < w.heap.size) (hap:∀ b t',(h.at b).alive = true→r b = some t'→t'.blk ≠ t.blk∧∀ k,t'.inn k→t.blk ≠ k) (hgb:GB ≤ t.blk)
  (hobj:ObjR r w t o) (hinn:∀ k,t.inn k→k < w.heap.size∧¬ Owned r h k∧t.blk ≠ k:=by exact fun _ h=>h.elim):HR G GB (r.put (K0 + h.length) t) (h++[o]) w:=by
 have hle:=Ren.le_put H t
 have old:∀ b,(Heap.at (h++[o]) b).alive = true→b ≠ K0 + h.length→(h.at b).alive = true∧(Heap.at (h++[o]) b) = h.at b:=fun b hb hne=>by
  rw [at_snoc,if_neg hne] at hb ⊢;exact ⟨hb,rfl⟩
 constructor
 ·intro b t' hb
  by_cases e:b = K0 + h.length
  ·subst e;simp
  ·rw [Ren.put_other _ _ e] at hb
   have:=H.dom b t' hb;simp;omega
 ·intro b hb
  by_cases e:b = K0 + h.length
  ·subst e
   refine ⟨t,Ren.put_self ..,hlt,?_⟩
   rw [at_snoc,if_pos rfl];exact ObjR.of_block hle rfl (fun _ _=>rfl) hobj
  ·obtain ⟨h1,h2⟩:=old b hb e
   obtain ⟨u,hu,hlt',hob⟩:=H.obj b h1
   exact ⟨u,by rw [Ren.put_other _ _ e];exact hu,hlt',by rw [h2];exact ObjR.of_block hle rfl (fun _ _=>rfl) hob⟩
 ·intro b b' u u' hb hb' hu hu' heq
  by_cases e:b = K0 + h.length
  ·by_cases e':b' = K0 + h.length
   ·exact .inl (e.trans e'.symm)
   ·obtain ⟨h1,_⟩:=old b' hb' e'
    rw [Ren.put_other _ _ e'] at hu'
    subst e;rw [Ren.put_self] at hu;cases hu
    exact absurd heq.symm (hap b' u' h1 hu').1
  ·obtain ⟨h1,h2⟩:=old b (AObj.alive_of_owned hb) e
   rw [Ren.put_other _ _ e] at hu
   by_cases e':b' = K0 + h.length
   ·subst e';rw [Ren.put_self] at hu';cases hu'
    exact absurd heq (hap b u h1 hu).1
   ·obtain ⟨h1',h2'⟩:=old b' hb' e'
    rw [Ren.put_other _ _ e'] at hu'
    rw [h2,h2']
    exact H.exc b b' _ _ (h2 ▸ hb) h1' hu hu' heq
 ·exact H.glob
 ·exact H.gb
 ·intro b u hb hu
  by_cases e:b = K0 + h.length
  ·subst e;rw [Ren.put_self] at hu;cases hu;exact hgb
  ·obtain ⟨_,h2⟩:=old b (AObj.alive_of_owned hb) e
   rw [Ren.put_other _ _ e] at hu
   exact H.own b u (h2 ▸ hb) hu
 ·exact frz_snoc H (Nat.le_refl _) (fun k hk=>let ⟨a,b,c⟩:=hinn k hk;⟨a,b,fun _=>c⟩) fun _ b u k ha hu hk=>(hap b u ha hu).2 k hk
theorem rdO_ok {w:World} {r:Ren}:∀ (n:Nat) (h:Heap) (v:Value) (d:D) (h':Heap) (u:Value),rdO n h v = some (d,h')→HR G GB r h w→VR r v u →
  HR G GB r h' w∧Sub r h' h∧OutOK G GB w r h h' d u:=by
 intro n
 induction n with
 | zero=>intro h v d h' u hd;simp [rdO] at hd
 | succ n ih=>
   have ihs:∀ (vs:List Value) (h:Heap) (ds:List D) (h':Heap) (us:List Value),thr (rdO n) vs h = some (ds,h')→HR G GB r h w→VRs r vs us →
     HR G GB r h' w∧Sub r h' h∧OutsOK G GB w r h h' ds us:=by
    intro vs
    induction vs with
    | nil=>
      intro h ds h' us hd H hv
      simp only [thr,Option.some.injEq,Prod.mk.injEq] at hd
      obtain ⟨rfl,rfl⟩:=hd
      have:us = []:=List.length_eq_zero_iff.1 (by simpa using hv.1.symm)
      subst this
      exact ⟨H,.refl r h,fun h0 r0 H0 _=>⟨r0,.refl _,by simpa [imps] using H0,by simpa [imps] using VRs.nil r0,by simpa [imps] using Newly.refl r0 h0 r h h,by simp [imps],fun _ _ h=>.inl h⟩⟩
    | cons v vs ihv=>
      intro h ds h' us hd H hv
      simp only [thr] at hd
      cases h1:rdO n h v with
      | none=>simp [h1] at hd
      | some x=>
        obtain ⟨d,hh⟩:=x
        simp only [h1] at hd
        cases h2:thr (rdO n) vs hh with
        | none=>simp [h2] at hd
        | some y=>
          obtain ⟨ds',hh'⟩:=y
          simp only [h2,Option.some.injEq,Prod.mk.injEq] at hd
          obtain ⟨rfl,rfl⟩:=hd
          cases us with
          | nil=>simp [VRs] at hv
          | cons u us=>
            obtain ⟨u',hu',hvu⟩:=hv.2 0 v rfl
            simp at hu';subst hu'
            have hvs:VRs r vs us:=⟨by simpa using hv.1,fun j x hj=>by simpa using hv.2 (j + 1) x (by simpa using hj)⟩
            obtain ⟨H1,s1,o1⟩:=ih h v d hh _ h1 H hvu
            obtain ⟨H2,s2,o2⟩:=ihv hh ds' hh' us h2 H1 hvs
            refine ⟨H2,s2.trans s1,fun h0 r0 H0 A=>?_⟩
            obtain ⟨r1,le1,K1,v1,n1,l1⟩:=o1 h0 r0 H0 A
            obtain ⟨r2,le2,K2,v2,n2,l2⟩:=o2 _ r1 K1 (n1.apart A s1 H1.zero.2)
            exact ⟨r2,le1.trans le2,by simpa [imps] using K2,by simpa [imps] using VRs.cons (v1.mono le2) v2,by simpa [imps] using n1.trans n2 s1 s2,by simpa [imps] using Nat.le_trans l1.1 l2.1,fun b t hb=>(l2.2 b t hb).elim (fun h=>l1.2 b t h) (fun h=>.inr (by have:=l1.1;omega))⟩
   intro h v d h' u hd H hv
   unfold rdO at hd
   split at hd
   ·rename_i cs
    split at hd
    ·rename_i ds hh hm
     simp only [Option.some.injEq,Prod.mk.injEq] at hd;obtain ⟨rfl,rfl⟩:=hd
     have hvs:∃ xs',u = .agg xs'∧VRs r cs.toList xs'.toList:=by
      cases hv with
      | scal _ hs=>simp [Am.scal] at hs
      | agg _ xs' hx hj=>exact ⟨xs',rfl,VRs.of_arr hx hj⟩
     obtain ⟨xs',rfl,hvs⟩:=hvs
     obtain ⟨H1,s1,o1⟩:=ihs _ h ds _ _ hm H hvs
     refine ⟨H1,s1,fun h0 r0 H0 A=>?_⟩
     obtain ⟨r1,le1,K1,v1,n1,l1⟩:=o1 h0 r0 H0 A
     exact ⟨r1,le1,by simpa [imp] using K1,by simpa [imp] using v1.agg,by simpa [imp] using n1,by simpa [imp] using l1⟩
    ·cases hd
   ·rename_i cs
    split at hd
    ·rename_i ds hh hok hm
     simp only [Option.some.injEq,Prod.mk.injEq] at hd;obtain ⟨rfl,rfl⟩:=hd
     have hvs:∃ xs',u = .tuple xs'∧VRs r cs.toList xs'.toList:=by
      cases hv with
      | scal _ hs=>simp [Am.scal] at hs
      | top=>simp [okv] at hok
      | tup _ xs' hx hj=>exact ⟨xs',rfl,VRs.of_arr hx hj⟩
     obtain ⟨xs',rfl,hvs⟩:=hvs
     obtain ⟨H1,s1,o1⟩:=ihs _ h ds _ _ hm H hvs
     refine ⟨H1,s1,fun h0 r0 H0 A=>?_⟩
     obtain ⟨r1,le1,K1,v1,n1,l1⟩:=o1 h0 r0 H0 A
     exact ⟨r1,le1,by simpa [imp] using K1,by simpa [imp] using v1.tup,by simpa [imp] using n1,by simpa [imp] using l1⟩
    ·cases hd
   ·rename_i b o len sz
    split at hd
    ·rename_i cells m hat
     split at hd
     ·rename_i hfit
      rw [Nat.ble_eq] at hfit
      split at hd
      ·rename_i ds hh hm
       simp only [Option.some.injEq,Prod.mk.injEq] at hd;obtain ⟨rfl,rfl⟩:=hd
       have hown:(h.at b).owned = true:=by rw [hat];rfl
       have hK:=at_lt (AObj.alive_of_owned hown)
       rcases hv.slice' with ⟨t,cap,hr,hk,hz,hn,hl,rfl⟩ | ⟨rfl,_⟩
       ·obtain ⟨t',hr',hlt,hobj⟩:=H.obj b (AObj.alive_of_owned hown)
        rw [hr] at hr';cases hr'
        rw [hat] at hobj
        obtain ⟨p1,p2,p3⟩:=hobj
        have p1b:=p1.2
        have p1a:=p1.1
        have Hk1:=(H.kill m).1
        have Hk2:=(Hk1.kill (some b)).1
        have sk1:=fun k hk=>(H.kill m).2.own k hk
        have hatk:∀ b',(((h.kill m).kill (some b)).at b').alive = true→b' ≠ b∧m ≠ some b'∧((h.kill m).kill (some b)).at b' = h.at b':=fun b' hb'=>by
         rw [at_kill,at_kill] at hb' ⊢
         split at hb'
         ·simp [AObj.alive] at hb'
         ·rename_i h1
          split at hb'
          ·simp [AObj.alive] at hb'
          ·rename_i h2
           rw [if_neg h1,if_neg h2]
           exact ⟨fun e=>h1 (by rw [e]),h2,rfl⟩
        have hnot:¬ Mine r ((h.kill m).kill (some b)) t.blk:=fun ⟨b',t',hb',hr',he⟩=>by
         obtain ⟨h1,h2,h3⟩:=hatk b' (AObj.alive_of_owned hb')
         rw [h3] at hb'
         rcases he with he | he
         ·rcases H.exc b b' t t' hown (AObj.alive_of_owned hb') hr hr' he.symm with e | ⟨e,_⟩
          ·exact h1 e.symm
          ·rw [hat] at e;exact h2 e
         ·exact (H.frz b' t' (AObj.alive_of_owned hb') hr' _ he).2 ⟨b,t,hown,hr,rfl⟩
        have sub:Sub r ((h.kill m).kill (some b)) h:=Sub.of fun b' hb'=>(hatk b' hb').2.2
        obtain ⟨us,ul,uc,uv⟩:=reads_list (r:=r) (w:=w) (bb:=t.blk) (oo:=t.off) (cells.take (len * sz)) (fun j c hj=>by
         have hjl:=(List.getElem?_eq_some_iff.1 hj).1
         simp at hjl
         rw [List.getElem?_take_of_lt (by omega)] at hj
         exact p2 j c hj)
        obtain ⟨H1,s1,o1⟩:=ihs _ _ ds _ us hm Hk2 ⟨ul.symm,uv⟩
        refine ⟨H1,s1.trans sub,fun h0 r0 H0 A=>?_⟩
        obtain ⟨r1,le1,K1,v1,n1,l1⟩:=o1 h0 r0 H0 (A.sub sub)
        have hap:∀ b' t',((imps true ds h0).2.at b').alive = true→r1 b' = some t'→t'.blk ≠ t.blk∧∀ k,t'.inn k→t.blk ≠ k:=fun b' t' hal hr'=>by
         rcases n1 b' t' hal hr' with ⟨a,_,c⟩ | ⟨a,_,d⟩ | ⟨c,_,d⟩
         ·obtain ⟨x,_,z⟩:=A b' t' a c
          exact ⟨fun he=>x ⟨b,t,hown,hr,he.symm⟩,fun k hk he=>z k hk ⟨b,t,hown,hr,he⟩⟩
         ·exact ⟨fun he=>hnot (he ▸ a.mine),fun k hk he=>hnot (he ▸ (d k hk).1)⟩
         ·exact ⟨fun he=>H.zero.2 ⟨b,t,hown,hr,he.symm.trans c⟩,fun k hk=>absurd hk (d k)⟩
        have hlen:(imps true ds h0).1.length = len * sz:=by rw [v1.1,ul];simp;omega
        have K2:=K1.newOwn (.row (imps true ds h0).1 true none) ⟨t.blk,t.off,t.lim,len * sz,0,no⟩ hlt hap (H.own b t hown hr) ⟨⟨hlen,by rw [hlen];simp only;omega⟩,fun j c hj=>by
         obtain ⟨u,hu,hvu⟩:=v1.2 j c hj
         have:=uc j u hu
         rw [addr_add] at this
         exact ⟨u,this,hvu⟩,fun _=>p3 rfl⟩
        refine ⟨_,le1.trans (Ren.le_put K1 _),by simpa [imp] using K2,?_,?_,by simp [imp];have:=l1.1;omega,fun b' t' hb'=>by
          by_cases e:b' = K0 + (imps true ds h0).2.length
          ·right;have:=l1.1;omega
          ·rw [Ren.put_other _ _ e] at hb';exact l1.2 b' t' hb'⟩
        ·have hmul:len * sz ≤ cap * sz:=Nat.mul_le_mul_right _ hn
         have:=VR.slice (r:=r1.put (K0 + (imps true ds h0).2.length) ⟨t.blk,t.off,t.lim,len * sz,0,no⟩) (K0 + (imps true ds h0).2.length) 0 len sz cap ⟨t.blk,t.off,t.lim,len * sz,0,no⟩ (Ren.put_self ..) hn (by simpa using hl.1) hz (by omega) (by simp only;omega)
         simpa [imp] using this
        ·intro b' t' hal hr'
         simp only [imp] at hal ⊢
         by_cases e:b' = K0 + (imps true ds h0).2.length
         ·subst e
          rw [Ren.put_self] at hr';cases hr'
          exact .inr (.inl ⟨⟨b,t,hown,hr,rfl⟩,fun ho=>hnot (s1.2 _ ho),fun _ h=>h.elim⟩)
         ·rw [at_snoc,if_neg e] at hal ⊢
          rw [Ren.put_other _ _ e] at hr'
          rcases n1 b' t' hal hr' with h3 | ⟨h3,h4,h5⟩ | h3
          ·exact .inl h3
          ·exact .inr (.inl ⟨sub.1 _ h3,h4,fun k hk=>⟨sub.2 _ (h5 k hk).1,(h5 k hk).2⟩⟩)
          ·exact .inr (.inr h3)
       ·exact absurd hK.1 (by decide)
      ·cases hd
     ·cases hd
    ·split at hd
     ·simp only [Option.some.injEq,Prod.mk.injEq] at hd;obtain ⟨rfl,rfl⟩:=hd
      rcases hv.slice' with ⟨t,cap,hr,hk,_⟩ | ⟨_,_,_,hz,a,cap,rfl⟩
      ·exact absurd hk (by decide)
      ·exact ⟨H,.refl r h,fun h0 r0 H0 _=>⟨r0,.refl _,by simpa [imp] using H0,by simpa [imp] using VR.slice0 (r:=r0) a sz cap hz,by simpa [imp] using Newly.refl r0 h0 r h h,by simp [imp],fun _ _ h=>.inl h⟩⟩
     ·cases hd
   ·rename_i b n sz
    split at hd
    ·rename_i ks l hat
     simp only [Option.some.injEq,Prod.mk.injEq] at hd;obtain ⟨rfl,rfl⟩:=hd
     obtain ⟨t,hr,hk,q1,q2,q3,q4⟩:=hv.as'
     obtain ⟨hlt,hfl,⟨o1,o2,o3⟩,o4,o5⟩:=H.vecAt hat hr
     have hsz:sz = ks.length:=by omega
     subst hsz
     have hNn:n = l.length:=by
      rw [q3] at o3
      exact Nat.eq_of_mul_eq_mul_right q2 o3
     subst hNn
     have Hk:=H.kill (some b)
     have hatk:∀ b',((h.kill (some b)).at b').alive = true→b' ≠ b∧(h.kill (some b)).at b' = h.at b':=fun b' hb'=>by
      rw [at_kill] at hb' ⊢
      split at hb'
      ·simp [AObj.alive] at hb'
      ·rename_i h1
       rw [if_neg h1]
       exact ⟨fun e=>h1 (by rw [e]),rfl⟩
     have sub:Sub r (h.kill (some b)) h:=Sub.of fun b' hb'=>(hatk b' hb').2
     refine ⟨Hk.1,sub,fun h0 r0 H0 A=>?_⟩
     have lens:∀ (o:AObj) (t':Tgt),h0.length ≤ (h0++[o]).length∧∀ (b':Nat) (x:Tgt),(r0.put (K0 + h0.length) t') b' = some x→r0 b' = some x ∨ K0 + h0.length ≤ b':=fun o t'=>⟨by simp,fun b' x hb'=>Ren.fresh_put r0 h0 t' b' x hb'⟩
     rcases Nat.eq_zero_or_pos l.length with hN | hN
     ·obtain ⟨a1,a2,a3⟩:=H0.nothing hfl q2 l hN true
      refine ⟨_,Ren.le_put H0 _,by simpa [imp] using a1,?_,?_,by simpa [imp] using lens (.vec ks l true) ⟨0,0,0,0,ks.length,no⟩⟩
      ·rcases q4 with ⟨_,q4⟩ | ⟨q4,_⟩
       ·simpa [imp] using VR.asl (K0 + h0.length) l.length ks.length _ u (Ren.put_self ..) (by omega) ⟨rfl,q2,by simp [hN],.inl ⟨hN,q4⟩⟩
       ·omega
      ·intro b' t' hal hr'
       simp only [imp] at hal ⊢
       by_cases e:b' = K0 + h0.length
       ·subst e
        rw [Ren.put_self] at hr';cases hr'
        exact .inr (.inr ⟨rfl,by rw [at_snoc,if_pos rfl];show (true && Nat.blt 0 l.length) = false;rw [hN];rfl,fun _ h=>h⟩)
       ·rw [at_snoc,if_neg e] at hal ⊢
        rw [Ren.put_other _ _ e] at hr'
        exact .inl ⟨hal,rfl,hr'⟩
     ·have hown:(h.at b).owned = true:=by rw [hat];simp [AObj.owned,Nat.blt_eq];omega
      have hnot:¬ Mine r (h.kill (some b)) t.blk:=fun ⟨b',t',hb',hr',he⟩=>by
       obtain ⟨h1,h3⟩:=hatk b' (AObj.alive_of_owned hb')
       rw [h3] at hb'
       rcases he with he | he
       ·rcases H.exc b b' t t' hown (AObj.alive_of_owned hb') hr hr' he.symm with e | ⟨e,_⟩
        ·exact h1 e.symm
        ·rw [hat] at e;cases e
       ·exact (H.frz b' t' (AObj.alive_of_owned hb') hr' _ he).2 ⟨b,t,hown,hr,rfl⟩
      have K2:=H0.newOwn (.vec ks l true) t hlt (fun b' t' hal hr'=>let ⟨x,_,z⟩:=A b' t' hal hr';⟨fun he=>x ⟨b,t,hown,hr,he.symm⟩,fun k hk he=>z k hk ⟨b,t,hown,hr,he⟩⟩) (H.own b t hown hr) ⟨hfl,⟨o1,o2,o3⟩,o4,o5⟩
       (fun k hk=>let ⟨x,y⟩:=H.frz b t (AObj.alive_of_owned hown) hr k hk;⟨x,fun ⟨b',t',hb',hr',he⟩=>(A b' t' (AObj.alive_of_owned hb') hr').2.1 hb' ⟨b,t,hown,hr,.inr (he ▸ hk)⟩,fun he=>y ⟨b,t,hown,hr,he⟩⟩)
      refine ⟨_,Ren.le_put H0 _,by simpa [imp] using K2,?_,?_,by simpa [imp] using lens (.vec ks l true) t⟩
      ·simpa [imp] using VR.asl (K0 + h0.length) l.length ks.length t u (Ren.put_self ..) (by omega) ⟨q1,q2,q3,q4⟩
      ·intro b' t' hal hr'
       simp only [imp] at hal ⊢
       by_cases e:b' = K0 + h0.length
       ·subst e
        rw [Ren.put_self] at hr';cases hr'
        exact .inr (.inl ⟨⟨b,_,hown,hr,rfl⟩,hnot,fun k hk=>⟨⟨b,_,hown,hr,.inr hk⟩,fun ho=>(H.frz b _ (AObj.alive_of_owned hown) hr k hk).2 (sub.1 _ ho)⟩⟩)
       ·rw [at_snoc,if_neg e] at hal ⊢
        rw [Ren.put_other _ _ e] at hr'
        exact .inl ⟨hal,rfl,hr'⟩
    ·cases hd
   ·rename_i b lo len sz
    split at hd
    ·rename_i ks l hat
     obtain ⟨t,hr,hk,hlt,hsz,hfl,hpos,hobj,hvs,hle,hq2⟩:=shows H hv hat
     obtain ⟨_,⟨o1,o2,o3⟩,o4,o5⟩:=id hobj
     obtain ⟨q1,q2,q3⟩:=hvs
     subst hsz
     split at hd
     ·split at hd
      ·simp only [Option.some.injEq,Prod.mk.injEq] at hd;obtain ⟨rfl,rfl⟩:=hd
       rcases q3 with ⟨_,_,hP⟩ | ⟨h0,_⟩
       ·obtain ⟨cap,rfl,_,_⟩:=hP (by rw [o3,List.length_cons,Nat.succ_mul];omega)
        exact ⟨H,.refl r h,fun h0 r0 H0 _=>⟨r0,.refl _,by simpa [imp] using H0,by simpa [imp] using VR.slice0 (r:=r0) _ ks.length cap hpos,by simpa [imp] using Newly.refl r0 h0 r h h,by simp [imp],fun _ _ h=>.inl h⟩⟩
       ·omega
      ·cases hd
     ·rename_i k
      simp only [Option.some.injEq,Prod.mk.injEq] at hd;obtain ⟨rfl,rfl⟩:=hd
      rcases q3 with ⟨h0,_⟩ | ⟨_,q3,cap,⟨q4,q5⟩,q6,rfl⟩
      ·omega
      have hle:=hle (by omega)
      have hN:((l.drop lo).take (k + 1)).length = k + 1:=by simp;omega
      have Hk:=H.kill (some b)
      have hatk:∀ b',((h.kill (some b)).at b').alive = true→b' ≠ b∧(h.kill (some b)).at b' = h.at b':=fun b' hb'=>by
       rw [at_kill] at hb' ⊢
       split at hb'
       ·simp [AObj.alive] at hb'
       ·rename_i h1
        rw [if_neg h1]
        exact ⟨fun e=>h1 (by rw [e]),rfl⟩
      have sub:Sub r (h.kill (some b)) h:=Sub.of fun b' hb'=>(hatk b' hb').2
      refine ⟨Hk.1,sub,fun h0 r0 H0 A=>?_⟩
      have lens:∀ (o:AObj) (t':Tgt),h0.length ≤ (h0++[o]).length∧∀ (b':Nat) (x:Tgt),(r0.put (K0 + h0.length) t') b' = some x→r0 b' = some x ∨ K0 + h0.length ≤ b':=fun o t'=>⟨by simp,fun b' x hb'=>Ren.fresh_put r0 h0 t' b' x hb'⟩
      have hown:(h.at b).owned = true:=by rw [hat];simp [AObj.owned,Nat.blt_eq];omega
      have hnot:¬ Mine r (h.kill (some b)) t.blk:=fun ⟨b',t',hb',hr',he⟩=>by
       obtain ⟨h1,h3⟩:=hatk b' (AObj.alive_of_owned hb')
       rw [h3] at hb'
       rcases he with he | he
       ·rcases H.exc b b' t t' hown (AObj.alive_of_owned hb') hr hr' he.symm with e | ⟨e,_⟩
        ·exact h1 e.symm
        ·rw [hat] at e;cases e
       ·exact (H.frz b' t' (AObj.alive_of_owned hb') hr' _ he).2 ⟨b,t,hown,hr,rfl⟩
      obtain ⟨p1,p2,p3⟩:=o5 (by omega)
      have hmul:(lo + (k + 1)) * ks.length = lo * ks.length + (k + 1) * ks.length:=Nat.add_mul ..
      have hmul2:(lo + cap) * ks.length = lo * ks.length + cap * ks.length:=Nat.add_mul ..
      have hcm:(k + 1) * ks.length ≤ cap * ks.length:=Nat.mul_le_mul_right _ q4
      have K2:=H0.newOwn (.vec ks ((l.drop lo).take (k + 1)) true) ⟨t.blk,t.off + lo * ks.length,t.lim,(k + 1) * ks.length,ks.length,t.inn⟩ hlt (fun b' t' hal hr'=>let ⟨x,_,z⟩:=A b' t' hal hr';⟨fun he=>x ⟨b,t,hown,hr,he.symm⟩,fun k hk he=>z k hk ⟨b,t,hown,hr,he⟩⟩) (H.own b t hown hr)
       ⟨hfl,⟨rfl,hpos,by rw [hN]⟩,fun h=>by omega,fun _=>⟨by rw [hN];simp only;omega,fun i x hx=>by
        have hi:=(List.getElem?_eq_some_iff.1 hx).1
        rw [hN] at hi
        rw [List.getElem?_take_of_lt hi,List.getElem?_drop] at hx
        refine (p2 (lo + i) x hx).congr fun j _=>?_
        have e9:t.off + (lo + i) * ks.length + j = t.off + lo * ks.length + i * ks.length + j:=by rw [Nat.add_mul lo i];omega
        rw [e9],fun _=>p3 rfl⟩⟩
       (fun k hk=>let ⟨x,y⟩:=H.frz b t (AObj.alive_of_owned hown) hr k hk;⟨x,fun ⟨b',t',hb',hr',he⟩=>(A b' t' (AObj.alive_of_owned hb') hr').2.1 hb' ⟨b,t,hown,hr,.inr (he ▸ hk)⟩,fun he=>y ⟨b,t,hown,hr,he⟩⟩)
      refine ⟨_,Ren.le_put H0 _,by simpa [imp] using K2,?_,?_,by simpa [imp] using lens (.vec ks ((l.drop lo).take (k + 1)) true) ⟨t.blk,t.off + lo * ks.length,t.lim,(k + 1) * ks.length,ks.length,t.inn⟩⟩
      ·have:=VR.asl (r:=r0.put (K0 + h0.length) ⟨t.blk,t.off + lo * ks.length,t.lim,(k + 1) * ks.length,ks.length,t.inn⟩) (K0 + h0.length) ((l.drop lo).take (k + 1)).length ks.length ⟨t.blk,t.off + lo * ks.length,t.lim,(k + 1) * ks.length,ks.length,t.inn⟩ (.slice (some ⟨t.blk,t.off + lo * ks.length,none⟩) (k + 1) cap) (Ren.put_self ..) (by omega)
        ⟨rfl,hpos,by rw [hN],.inr ⟨by rw [hN];omega,cap,by rw [hN];exact q4,by simp only;omega,by rw [hN]⟩⟩
       simpa [imp] using this
      ·intro b' t' hal hr'
       simp only [imp] at hal ⊢
       by_cases e:b' = K0 + h0.length
       ·subst e
        rw [Ren.put_self] at hr';cases hr'
        exact .inr (.inl ⟨⟨b,_,hown,hr,rfl⟩,hnot,fun k hk=>⟨⟨b,_,hown,hr,.inr hk⟩,fun ho=>(H.frz b _ (AObj.alive_of_owned hown) hr k hk).2 (sub.1 _ ho)⟩⟩)
       ·rw [at_snoc,if_neg e] at hal ⊢
        rw [Ren.put_other _ _ e] at hr'
        exact .inl ⟨hal,rfl,hr'⟩
    ·cases hd
   ·rename_i b
    split at hd
    ·rename_i kk vk es hat
     simp only [Option.some.injEq,Prod.mk.injEq] at hd;obtain ⟨rfl,rfl⟩:=hd
     obtain ⟨t,ents,clk,rfl,hr,hlt,hmp,hsz,hes⟩:=H.tmapAt hat hv
     have Hk:=H.kill (some b)
     have hown:(h.at b).owned = true:=by rw [hat];rfl
     have hatk:∀ b',((h.kill (some b)).at b').alive = true→b' ≠ b∧(h.kill (some b)).at b' = h.at b':=fun b' hb'=>by
      rw [at_kill] at hb' ⊢
      split at hb'
      ·simp [AObj.alive] at hb'
      ·rename_i h1
       rw [if_neg h1]
       exact ⟨fun e=>h1 (by rw [e]),rfl⟩
     have sub:Sub r (h.kill (some b)) h:=Sub.of fun b' hb'=>(hatk b' hb').2
     have hnot:¬ Mine r (h.kill (some b)) t.blk:=fun ⟨b',t',hb',hr',he⟩=>by
      obtain ⟨h1,h3⟩:=hatk b' (AObj.alive_of_owned hb')
      rw [h3] at hb'
      rcases he with he | he
      ·rcases H.exc b b' t t' hown (AObj.alive_of_owned hb') hr hr' he.symm with e | ⟨e,_⟩
       ·exact h1 e.symm
       ·rw [hat] at e;cases e
      ·exact (H.frz b' t' (AObj.alive_of_owned hb') hr' _ he).2 ⟨b,t,hown,hr,rfl⟩
     refine ⟨Hk.1,sub,fun h0 r0 H0 A=>?_⟩
     have K2:=H0.newOwn (.map (.ty kk vk es) true) ⟨t.blk,0,0,0,0,no⟩ hlt (fun b' t' hal hr'=>let ⟨x,_,z⟩:=A b' t' hal hr';⟨fun he=>x ⟨b,t,hown,hr,he.symm⟩,fun k hk he=>z k hk ⟨b,t,hown,hr,he⟩⟩) (H.own b t hown hr) ⟨ents,clk,hmp,by simpa [MapR.list,MapR.Sz] using hsz,fun j k v hj=>by
      obtain ⟨b1,e,b2,b3,b4⟩:=hes j k v hj
      refine ⟨b1,e,b2,b3,?_⟩
      simp only [MapR.list,List.getElem?_map] at hj
      cases he:es[j]? with
      | none=>simp [he] at hj
      | some e0=>
        simp only [he,Option.map_some,Option.some.injEq,Prod.mk.injEq] at hj
        obtain ⟨_,rfl⟩:=hj
        exact tmap_val b4 _⟩
     refine ⟨_,Ren.le_put H0 _,by simpa [imp] using K2,?_,?_,by simp [imp],fun b' x hb'=>Ren.fresh_put r0 h0 _ b' x hb'⟩
     ·have:=VR.map (r:=r0.put (K0 + h0.length) ⟨t.blk,0,0,0,0,no⟩) (K0 + h0.length) ⟨t.blk,0,0,0,0,no⟩ (Ren.put_self ..)
      simpa [imp] using this
     ·intro b' t' hal hr'
      simp only [imp] at hal ⊢
      by_cases e:b' = K0 + h0.length
      ·subst e
       rw [Ren.put_self] at hr';cases hr'
       exact .inr (.inl ⟨⟨b,t,hown,hr,rfl⟩,hnot,fun _ h=>h.elim⟩)
      ·rw [at_snoc,if_neg e] at hal ⊢
       rw [Ren.put_other _ _ e] at hr'
       exact .inl ⟨hal,rfl,hr'⟩
    ·cases hd
   ·split at hd
    ·rename_i hs
     simp only [Option.some.injEq,Prod.mk.injEq] at hd;obtain ⟨rfl,rfl⟩:=hd
     have:=hv.scal_eq hs
     subst this
     exact ⟨H,.refl r h,fun h0 r0 H0 _=>⟨r0,.refl _,by simpa [imp] using H0,by simpa [imp] using VR.scal _ hs,by simpa [imp] using Newly.refl r0 h0 r h h,by simp [imp],fun _ _ h=>.inl h⟩⟩
    ·cases hd
end
end Go.Am
