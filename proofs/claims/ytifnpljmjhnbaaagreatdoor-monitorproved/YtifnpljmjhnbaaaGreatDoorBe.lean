/-
 A part of the proof of the statement that the claim names: see the last file.
-/
import Derived.Test.YtifnpljmjhnbaaaGreatDoorB4
import Derived.Test.YtifnpljmjhnbaaaGreatDoorBd
namespace Go.Proofs.YtifnpljmjhnbaaaGreatDoor
open Go Go.Am
set_option maxRecDepth 100000
variable {w0:World}
noncomputable section
theorem sh4 {n:Nat} {h:Heap} (S:Sh 4 n h) {best:List Value} (hb:h.at (K0 + (6 + 4)) = .row best true none) {fd:Bool} (hf:boolOf (h.at (K0 + (8 + 4))) = fd) :
  ∀ b ∈ adF 4,h.at b = (hsF (vecOf evK (h.at K0)) 4 n (rowsR h 4 4) best (intOf (h.at (K0 + (7 + 4)))) fd (boolOf (h.at (K0 + (9 + 4)))) (vecOf intK (h.at (K0 + (11 + 4)))) []).at b:=by
 intro b hm
 simp only [adF,List.range',List.map_cons,List.map_nil,List.mem_cons,List.not_mem_nil,or_false] at hm
 subst hf
 rcases hm with rfl | rfl | rfl | rfl | rfl | rfl | rfl | rfl | rfl | rfl | rfl | rfl | rfl | rfl | rfl | rfl
 ·exact S.l
 ·exact S.lb
 ·exact (S.r 0 (by omega)).1
 ·exact (S.r 1 (by omega)).1
 ·exact (S.r 2 (by omega)).1
 ·exact (S.r 3 (by omega)).1
 ·exact S.a
 ·exact S.ab
 ·exact hb
 ·exact S.s
 ·exact S.f
 ·exact S.v
 ·exact S.b
 ·exact S.ml
 ·exact S.mb
 ·exact S.fb
theorem alive4 {L:List (Tup evK)} {n:Nat} {r0 r1 r2 r3:TLi} {best:List Value} {s2:Int} {fd sv:Bool} {M:TLi} {b:Nat} (h:((hsF L 4 n [r0,r1,r2,r3] best s2 fd sv M []).at b).alive = true):b ∈ adF 4:=by
 obtain ⟨k1,k2⟩:=at_lt h
 have k2:b < K0 + 18:=k2
 obtain ⟨j,rfl⟩:∃ j,b = K0 + j:=⟨b - K0,by omega⟩
 have hj:j < 18:=by omega
 clear k1 k2
 unfold adF
 match j,hj with
 | 0,_=>simp
 | 1,_=>cases h
 | 2,_=>simp
 | 3,_=>cases h
 | j + 4,hj=>
   refine List.mem_cons_of_mem _ (List.mem_cons_of_mem _ (List.mem_map.2 ⟨j + 4,?_,rfl⟩))
   rw [List.mem_range'_1]
   omega
theorem ok4 (L:List (Tup evK)) (n:Nat) (r0 r1 r2 r3:TLi) (v:Int) (s2:Int) (fd sv:Bool) (M:TLi):(hsF L 4 n [r0,r1,r2,r3] [iv v] s2 fd sv M []).all (okO (adF 4)) = true:=by rfl
theorem okA4 (L:List (Tup evK)) (n:Nat) (r0 r1 r2 r3:TLi) (s2:Int) (fd sv:Bool) (M:TLi):(hsF L 4 n [r0,r1,r2,r3] bA s2 fd sv M []).all (okO (adF 4)) = true:=by rfl
theorem al4 (L:List (Tup evK)) (n:Nat) (r0 r1 r2 r3:TLi) (best:List Value) (s2:Int) (fd sv:Bool) (M:TLi):∀ b ∈ adF 4,((hsF L 4 n [r0,r1,r2,r3] best s2 fd sv M []).at b).alive = true:=by
 intro b hm
 simp only [adF,List.range',List.map_cons,List.map_nil,List.mem_cons,List.not_mem_nil,or_false] at hm
 rcases hm with rfl | rfl | rfl | rfl | rfl | rfl | rfl | rfl | rfl | rfl | rfl | rfl | rfl | rfl | rfl | rfl <;> rfl
theorem argOk4 (i sum:Int) (u:Us):(argF 4 i sum u).all (okA (adF 4)) = true:=by
 have:(argF 4 i sum u).all (okA (adF 4)) = (okA (adF 4) (iv i) && (okA (adF 4) (iv sum) && (okA (adF 4) (usV u) && (capsF 4).all (okA (adF 4))))):=rfl
 rw [this]
 have hu:okA (adF 4) (usV u) = true:=by
  show (u.map Value.bool).toArray.toList.all scal = true
  rw [List.all_eq_true]
  intro x hx
  simp only [List.mem_map] at hx
  obtain ⟨b,_,rfl⟩:=hx
  rfl
 rw [hu];rfl
theorem behind4 {n:Nat} {h hs':Heap} (S:Sh 4 n h) {L:List (Tup evK)} {r0 r1 r2 r3:TLi} {st:S5} {b:Int} {x:Nat} (hL:vecOf evK (h.at K0) = L) (h0:vecOf intK (h.at (K0 + 4)) = r0) (h1:vecOf intK (h.at (K0 + 5)) = r1) (h2:vecOf intK (h.at (K0 + 6)) = r2) (h3:vecOf intK (h.at (K0 + 7)) = r3)
  (hE:hsF L 4 n [r0,r1,r2,r3] [iv st.2.1] st.2.2.2.1 true st.2.2.2.2 st.1 [] = (hs'.put (K0 + (6 + 4)) (.row [iv b] true none)).take (14 + 4)) (hbx:hs'.at (K0 + (6 + 4)) = .row [iv b,.slice (some ⟨x,1,some 0⟩) 4 1] true none) :
  b = st.2.1∧(∀ a ∈ adF 4,a ≠ K0 + (6 + 4)→hs'.at a = (hsF L 4 n [r0,r1,r2,r3] [iv st.2.1] st.2.2.2.1 true st.2.2.2.2 st.1 []).at a):=by
 obtain ⟨k1,k2⟩:=at_lt (h:=hs') (b:=K0 + (6 + 4)) (by rw [hbx];rfl)
 have key:∀ a,a < K0 + (14 + 4)→(hsF L 4 n [r0,r1,r2,r3] [iv st.2.1] st.2.2.2.1 true st.2.2.2.2 st.1 []).at a = if a = K0 + (6 + 4) then .row [iv b] true none else hs'.at a:=fun a ha=>by
  rw [hE,take_at ha,at_put k1 k2]
 constructor
 ·have:=key (K0 + (6 + 4)) (by omega)
  rw [if_pos rfl] at this
  have e:AObj.row [iv st.2.1] true none = .row [iv b] true none:=this
  simp only [AObj.row.injEq,List.cons.injEq,and_true] at e
  have e:iv st.2.1 = iv b:=e
  unfold iv at e
  simp only [Value.int.injEq,true_and] at e
  exact e.symm
 ·intro a ha hne
  rw [key a (adF_lt ha).2,if_neg hne]
theorem out_lay4 {n:Nat} {h:Heap} {st:S5} (S:Sh 4 n h):∀ b ∈ adF 4,b ≠ K0 + (6 + 4)→(outF 4 h st).at b = (hsF (vecOf evK (h.at K0)) 4 n (rowsR h 4 4) [iv st.2.1] st.2.2.2.1 true st.2.2.2.2 st.1 []).at b:=by
 intro a hm hne
 have hlt:=(adF_lt hm).2
 have hl:=S.len
 rw [outF_at hl,if_neg (by omega)]
 simp only [adF,List.range',List.map_cons,List.map_nil,List.mem_cons,List.not_mem_nil,or_false] at hm
 rcases hm with rfl | rfl | rfl | rfl | rfl | rfl | rfl | rfl | rfl | rfl | rfl | rfl | rfl | rfl | rfl | rfl
 all_goals repeat (first | rw [if_pos (by omega)] | rw [if_neg (by omega)])
 ·exact S.l
 ·exact S.lb
 ·exact (S.r 0 (by omega)).1
 ·exact (S.r 1 (by omega)).1
 ·exact (S.r 2 (by omega)).1
 ·exact (S.r 3 (by omega)).1
 ·exact S.a
 ·exact S.ab
 ·exact absurd rfl hne
 ·rfl
 ·rfl
 ·rfl
 ·exact S.b
 ·rfl
 ·exact S.mb
 ·exact S.fb
theorem caseA4 {Cc:Cfg} (ok:CfgOk Cc) (sp:SpecOK Cc) (hfn:Cc.fn 167 = some (fnOf Tryz.f167)) (back:∀ {argv hs v hs'},CallI Cc 167 argv hs v hs'→CallI (cfg w0) 167 argv hs v hs') {n:Nat} {i sum:Int} {u:Us} {h:Heap} (S:Sh 4 n h)
  (hb:h.at (K0 + (6 + 4)) = .row bA true none) (hf:boolOf (h.at (K0 + (8 + 4))) = false) {st:S5} (hst:st.2.2.1.length = 4)
  (hq:qF Cc 4 n i sum u (vecOf evK (h.at K0)) (rowsR h 4 4) bA (intOf (h.at (K0 + (7 + 4)))) false (boolOf (h.at (K0 + (9 + 4)))) (vecOf intK (h.at (K0 + (11 + 4)))) [] = finF (vecOf evK (h.at K0)) 4 n (rowsR h 4 4) st) :
  CallI (cfg w0) 167 (argF 4 i sum u) h (.tuple #[]) (outF 4 h st):=by
 have hl:=S.len
 have hsh:=sh4 S hb hf
 obtain ⟨v',hs',hI,hk⟩:=q_runK ok sp hfn hq
 obtain ⟨b,x,rfl,hbx,hx,hE,hxo⟩:=rdK_inv hk
 obtain ⟨rfl,slay⟩:=behind4 S rfl rfl rfl rfl rfl hE hbx
 have hal:∀ b,((hsF (vecOf evK (h.at K0)) 4 n (rowsR h 4 4) bA (intOf (h.at (K0 + (7 + 4)))) false (boolOf (h.at (K0 + (9 + 4)))) (vecOf intK (h.at (K0 + (11 + 4)))) []).at b).alive = true→b ∈ adF 4:=fun b hb=>alive4 hb
 refine CallI.lay (N:=14 + 4) (β:=6 + 4) (m:=4) (ad:=adF 4) (up:=id) (bb:=none) (v:=st.2.1) (x:=0) (X:=x) (B:=st.2.2.1) ⟨⟨fun b hb'=>?_,fun b hb'=>?_,fun _ _ _ _ e=>e,fun b hb'=>?_,fun b hb' r w t ho=>?_⟩,fun b hb'=>.inl ⟨hal b hb',rfl⟩,fun b hb'=>⟨al4 _ _ _ _ _ _ _ _ _ _ _ b hb',rfl⟩,fun b hb'=>adF_lt hb',mem_ad (by omega) (by omega),hl,outF_len _ _ _,
   by rw [outF_at hl,if_pos rfl],?_,out_lay4 S,fun a h1 h2 _=>out_oth hl h1 h2,fun a e=>(by cases e),hx,hxo,hbx,slay,fun b hb' _=>al4 _ _ _ _ _ _ _ _ _ _ _ b hb',ok4 _ _ _ _ _ _ _ _ _ _ _,by omega⟩ (argOk4 i sum u) (.inr rfl) (back hI)
 ·show (h.at b).alive = true
  rw [hsh b (hal b hb')];exact hb'
 ·show (h.at b).owned = true
  rw [hsh b (hal b (AObj.alive_of_owned hb'))];exact hb'
 ·show (h.at b).mate = none
  rw [hsh b (hal b hb')]
  exact okO_mate (okH_at (okA4 _ _ _ _ _ _ _ _ _ _) b)
 ·have ho:ObjR r w t (h.at b):=ho
  rw [hsh b (hal b hb')] at ho
  refine okO_objR (ad:=adF 4) (fun a ha=>?_) (okH_at (okA4 _ _ _ _ _ _ _ _ _ _) b) ho
  exact if_pos (al4 _ _ (vecOf intK (h.at (K0 + 4))) (vecOf intK (h.at (K0 + 5))) (vecOf intK (h.at (K0 + 6))) (vecOf intK (h.at (K0 + 7))) _ _ _ _ _ a ha)
 ·rw [outF_at hl]
  repeat (first | rw [if_pos (by omega)] | rw [if_neg (by omega)])
theorem hs_at4 {L:List (Tup evK)} {n:Nat} {r0 r1 r2 r3:TLi} {best best':List Value} {s2:Int} {fd sv:Bool} {M:TLi} {tl tl':Heap}:∀ b ∈ adF 4,b ≠ K0 + (6 + 4)→(hsF L 4 n [r0,r1,r2,r3] best s2 fd sv M tl).at b = (hsF L 4 n [r0,r1,r2,r3] best' s2 fd sv M tl').at b:=by
 intro b hm hne
 simp only [adF,List.range',List.map_cons,List.map_nil,List.mem_cons,List.not_mem_nil,or_false] at hm
 rcases hm with rfl | rfl | rfl | rfl | rfl | rfl | rfl | rfl | rfl | rfl | rfl | rfl | rfl | rfl | rfl | rfl
 case inr.inr.inr.inr.inr.inr.inr.inr.inl=>exact absurd rfl hne
 all_goals rfl
theorem alive4B {L:List (Tup evK)} {n:Nat} {r0 r1 r2 r3:TLi} {best:List Value} {s2:Int} {fd sv:Bool} {M B:TLi} {b:Nat} (h:((hsF L 4 n [r0,r1,r2,r3] best s2 fd sv M [.vec intK B true]).at b).alive = true):b ∈ adF 4 ∨ b = K0 + (14 + 4):=by
 obtain ⟨k1,k2⟩:=at_lt h
 have k2:b < K0 + 19:=k2
 obtain ⟨j,rfl⟩:∃ j,b = K0 + j:=⟨b - K0,by omega⟩
 have hj:j < 19:=by omega
 clear k1 k2
 match j,hj with
 | 0,_=>exact .inl (by simp [adF])
 | 1,_=>cases h
 | 2,_=>exact .inl (by simp [adF])
 | 3,_=>cases h
 | j + 4,hj=>
   by_cases e:j + 4 = 18
   ·right;omega
   ·exact .inl (mem_ad (by omega) (by omega))
theorem okB4 (L:List (Tup evK)) (n:Nat) (r0 r1 r2 r3:TLi) (v s2:Int) (fd sv:Bool) (M B:TLi):(hsF L 4 n [r0,r1,r2,r3] (bB 4 v (14 + 4)) s2 fd sv M [.vec intK B true]).all (okO ((K0 + (14 + 4)) :: adF 4)) = true:=by rfl
theorem alB4 (L:List (Tup evK)) (n:Nat) (r0 r1 r2 r3:TLi) (best:List Value) (s2:Int) (fd sv:Bool) (M B:TLi):∀ b ∈ adF 4,((hsF L 4 n [r0,r1,r2,r3] best s2 fd sv M [.vec intK B true]).at b).alive = true:=by
 intro b hm
 simp only [adF,List.range',List.map_cons,List.map_nil,List.mem_cons,List.not_mem_nil,or_false] at hm
 rcases hm with rfl | rfl | rfl | rfl | rfl | rfl | rfl | rfl | rfl | rfl | rfl | rfl | rfl | rfl | rfl | rfl <;> rfl
theorem Sh.put4 {n:Nat} {h:Heap} (S:Sh 4 n h) {bb:Nat} {o:AObj} (hb:K0 + (14 + 4) ≤ bb) (hl:bb < K0 + h.length):Sh 4 n (h.put bb o):=by
 have hat:∀ a,a < K0 + (14 + 4)→(h.put bb o).at a = h.at a:=fun a ha=>by rw [at_put (by omega) hl,if_neg (by omega)]
 refine ⟨?_,?_,fun k hk=>?_,?_,?_,?_,?_,?_,?_,?_,?_,?_⟩ <;> rw [hat _ (by omega)]
 ·exact S.l
 ·exact S.lb
 ·exact S.r k hk
 ·exact S.a
 ·exact S.ab
 ·exact S.s
 ·exact S.f
 ·exact S.v
 ·exact S.b
 ·exact S.ml
 ·exact S.mb
 ·exact S.fb
theorem caseB4 {Cc:Cfg} (ok:CfgOk Cc) (sp:SpecOK Cc) (hfn:Cc.fn 167 = some (fnOf Tryz.f167)) (back:∀ {argv hs v hs'},CallI Cc 167 argv hs v hs'→CallI (cfg w0) 167 argv hs v hs') {n:Nat} {i sum v:Int} {u:Us} {h:Heap} (S:Sh 4 n h) {bb:Nat} {B:TLi}
  (hb:h.at (K0 + (6 + 4)) = .row [iv v,.slice (some ⟨bb,1,some 0⟩) 4 1] true none) (hf:boolOf (h.at (K0 + (8 + 4))) = true) (hbb:K0 + (14 + 4) ≤ bb) (hB:h.at bb = .vec intK B true) (hBl:B.length = 4) {st:S5} (hst:st.2.2.1.length = 4)
  (hq:qF Cc 4 n i sum u (vecOf evK (h.at K0)) (rowsR h 4 4) (bB 4 v (14 + 4)) (intOf (h.at (K0 + (7 + 4)))) true (boolOf (h.at (K0 + (9 + 4)))) (vecOf intK (h.at (K0 + (11 + 4)))) [.vec intK B true] = finF (vecOf evK (h.at K0)) 4 n (rowsR h 4 4) st) :
  CallI (cfg w0) 167 (argF 4 i sum u) h (.tuple #[]) (outF 4 (h.put bb .dead) st):=by
 have hbl:=(at_lt (h:=h) (b:=bb) (by rw [hB];rfl)).2
 have hat:∀ a,a < K0 + (14 + 4)→(h.put bb .dead).at a = h.at a:=fun a ha=>by rw [at_put (by omega) hbl,if_neg (by omega)]
 have S2:Sh 4 n (h.put bb .dead):=S.put4 hbb hbl
 have hl:=S2.len
 have hlen:(h.put bb .dead).length = h.length:=put_length ..
 have hsh:=sh4 S hb hf
 obtain ⟨v',hs',hI,hk⟩:=q_runK ok sp hfn hq
 obtain ⟨b,x,rfl,hbx,hx,hE,hxo⟩:=rdK_inv hk
 obtain ⟨rfl,slay⟩:=behind4 S rfl rfl rfl rfl rfl hE hbx
 have hlay:=out_lay4 (st:=st) S2
 simp only [hat K0 (by omega),show rowsR (h.put bb .dead) 4 4 = rowsR h 4 4 from by
  show [vecOf intK ((h.put bb .dead).at (K0 + 4)),vecOf intK ((h.put bb .dead).at (K0 + 5)),vecOf intK ((h.put bb .dead).at (K0 + 6)),vecOf intK ((h.put bb .dead).at (K0 + 7))] = [vecOf intK (h.at (K0 + 4)),vecOf intK (h.at (K0 + 5)),vecOf intK (h.at (K0 + 6)),vecOf intK (h.at (K0 + 7))]
  rw [hat _ (by omega),hat _ (by omega),hat _ (by omega),hat _ (by omega)]] at hlay
 let up:Nat→Nat:=fun b=>if b = K0 + (14 + 4) then bb else b
 have upb:up (K0 + (14 + 4)) = bb:=if_pos rfl
 have upa:∀ b ∈ adF 4,up b = b:=fun b hb'=>if_neg (by have:=(adF_lt hb').2;omega)
 have hal:∀ b,((hsF (vecOf evK (h.at K0)) 4 n (rowsR h 4 4) (bB 4 v (14 + 4)) (intOf (h.at (K0 + (7 + 4)))) true (boolOf (h.at (K0 + (9 + 4)))) (vecOf intK (h.at (K0 + (11 + 4)))) [.vec intK B true]).at b).alive = true→b ∈ adF 4 ∨ b = K0 + (14 + 4):=fun b hb=>alive4B hb
 have same:∀ b ∈ adF 4,b ≠ K0 + (6 + 4)→h.at b = (hsF (vecOf evK (h.at K0)) 4 n (rowsR h 4 4) (bB 4 v (14 + 4)) (intOf (h.at (K0 + (7 + 4)))) true (boolOf (h.at (K0 + (9 + 4)))) (vecOf intK (h.at (K0 + (11 + 4)))) [.vec intK B true]).at b:=fun b hb' hne=>(hsh b hb').trans (hs_at4 b hb' hne)
 refine CallI.lay (N:=14 + 4) (β:=6 + 4) (m:=4) (ad:=adF 4) (up:=up) (bb:=some bb) (v:=st.2.1) (x:=0) (X:=x) (B:=st.2.2.1) (hE:=hsF (vecOf evK (h.at K0)) 4 n (rowsR h 4 4) [iv st.2.1] st.2.2.2.1 true st.2.2.2.2 st.1 []) ⟨⟨fun b hb'=>?_,fun b hb'=>?_,fun b b' h1 h2 e=>?_,fun b hb'=>?_,fun b hb' r w t ho=>?_⟩,fun b hb'=>?_,fun b hb'=>⟨alB4 _ _ _ _ _ _ _ _ _ _ _ _ b hb',upa b hb'⟩,fun b hb'=>adF_lt hb',mem_ad (by omega) (by omega),by rw [← hlen];exact hl,by rw [outF_len,hlen],
   by rw [outF_at hl,hlen,if_pos rfl],?_,hlay,fun a h1 h2 h3=>?_,fun a e=>?_,hx,hxo,hbx,slay,fun b hb' _=>al4 _ _ _ _ _ _ _ _ _ _ _ b hb',ok4 _ _ _ _ _ _ _ _ _ _ _,by omega⟩ (argOk4 i sum u) (.inr rfl) (back hI)
 ·rcases hal b hb' with k | rfl
  ·rw [upa b k]
   by_cases e:b = K0 + (6 + 4)
   ·rw [e,hb];rfl
   ·rw [same b k e];exact hb'
  ·rw [upb,hB];rfl
 ·rcases hal b (AObj.alive_of_owned hb') with k | rfl
  ·rw [upa b k]
   by_cases e:b = K0 + (6 + 4)
   ·rw [e,hb];rfl
   ·rw [same b k e];exact hb'
  ·rw [upb,hB]
   show (true && Nat.blt 0 B.length) = true
   rw [hBl];rfl
 ·rcases hal b h1 with k | rfl <;> rcases hal b' h2 with k' | rfl
  ·rw [upa b k,upa b' k'] at e;exact e
  ·rw [upa b k,upb] at e;have:=(adF_lt k).2;omega
  ·rw [upb,upa b' k'] at e;have:=(adF_lt k').2;omega
  ·rfl
 ·rcases hal b hb' with k | rfl
  ·rw [upa b k]
   by_cases e:b = K0 + (6 + 4)
   ·rw [e,hb];rfl
   ·rw [same b k e];exact okO_mate (okH_at (okB4 _ _ _ _ _ _ _ _ _ _ _ _) b)
  ·rw [upb,hB];rfl
 ·have smA:∀ a ∈ adF 4,sm' (hsF (vecOf evK (h.at K0)) 4 n (rowsR h 4 4) (bB 4 v (14 + 4)) (intOf (h.at (K0 + (7 + 4)))) true (boolOf (h.at (K0 + (9 + 4)))) (vecOf intK (h.at (K0 + (11 + 4)))) [.vec intK B true]) up r a = r a:=fun a ha=>by
   have:=upa a ha
   exact (if_pos (alB4 _ _ (vecOf intK (h.at (K0 + 4))) (vecOf intK (h.at (K0 + 5))) (vecOf intK (h.at (K0 + 6))) (vecOf intK (h.at (K0 + 7))) _ _ _ _ _ _ a ha)).trans (by rw [this])
  have smB:sm' (hsF (vecOf evK (h.at K0)) 4 n (rowsR h 4 4) (bB 4 v (14 + 4)) (intOf (h.at (K0 + (7 + 4)))) true (boolOf (h.at (K0 + (9 + 4)))) (vecOf intK (h.at (K0 + (11 + 4)))) [.vec intK B true]) up r (K0 + (14 + 4)) = r bb:=(if_pos rfl).trans (by rw [upb])
  rcases hal b hb' with k | rfl
  ·rw [upa b k] at ho
   by_cases e:b = K0 + (6 + 4)
   ·subst e
    rw [hb] at ho
    refine objR_row (cells':=bB 4 v (14 + 4)) ho rfl fun j c' hj=>?_
    match j,hj with
    | 0,hj=>cases hj;exact ⟨_,rfl,fun u hu=>by rw [hu.scal_eq rfl];exact .scal _ rfl⟩
    | 1,hj=>cases hj;exact ⟨_,rfl,fun u hu=>vr_asl smB (by omega) hu⟩
    | j + 2,hj=>simp [bB] at hj
   ·have e2:=hs_at4 (L:=vecOf evK (h.at K0)) (n:=n) (r0:=vecOf intK (h.at (K0 + 4))) (r1:=vecOf intK (h.at (K0 + 5))) (r2:=vecOf intK (h.at (K0 + 6))) (r3:=vecOf intK (h.at (K0 + 7))) (best:=bB 4 v (14 + 4)) (best':=bA) (s2:=intOf (h.at (K0 + (7 + 4)))) (fd:=true) (sv:=boolOf (h.at (K0 + (9 + 4)))) (M:=vecOf intK (h.at (K0 + (11 + 4)))) (tl:=[.vec intK B true]) (tl':=[]) b k e
    rw [same b k e] at ho
    refine okO_objR (ad:=adF 4) smA ?_ ho
    exact (congrArg (okO (adF 4)) e2).trans (okH_at (okA4 _ _ _ _ _ _ _ _ _ _) b)
  ·rw [upb,hB] at ho
   exact ho
 ·rcases hal b hb' with k | rfl
  ·exact .inl ⟨k,upa b k⟩
  ·exact .inr (by rw [upb])
 ·rw [outF_at hl,hlen]
  repeat (first | rw [if_pos (by omega)] | rw [if_neg (by omega)])
 ·rw [out_oth hl h1 (by rw [hlen];exact h2),at_put (by omega) hbl,if_neg (fun e=>h3 (by rw [e]))]
 ·cases e
  have:bb ∉ adF 4:=fun hm=>by have:=(adF_lt hm).2;omega
  rw [out_oth hl this (by rw [hlen];omega),at_put (by omega) hbl,if_pos rfl]
  rfl
theorem gdF4 {Cc:Cfg} (ok:CfgOk Cc) (sp:SpecOK Cc) (hfn:Cc.fn 167 = some (fnOf Tryz.f167)) (back:∀ {argv hs v hs'},CallI Cc 167 argv hs v hs'→CallI (cfg w0) 167 argv hs v hs') {n:Nat} {i:Int} {GA:GAf} {GB:GBf}
  (hA:∀ (L:List (Tup evK)) (r0 r1 r2 r3 M:TLi) (sum s2:Int) (sv:Bool) (u:Us),u.length = 8→r0.length = n→r1.length = n→r2.length = n→r3.length = n→M.length = 4 →
   qF Cc 4 n i sum u L [r0,r1,r2,r3] bA s2 false sv M [] = finF L 4 n [r0,r1,r2,r3] (GA [r0,r1,r2,r3] sum u M s2 sv)∧(GA [r0,r1,r2,r3] sum u M s2 sv).2.2.1.length = 4)
  (hB:∀ (L:List (Tup evK)) (r0 r1 r2 r3 M B:TLi) (sum s2 v:Int) (sv:Bool) (u:Us),u.length = 8→r0.length = n→r1.length = n→r2.length = n→r3.length = n→M.length = 4→B.length = 4 →
   qF Cc 4 n i sum u L [r0,r1,r2,r3] (bB 4 v (14 + 4)) s2 true sv M [.vec intK B true] = finF L 4 n [r0,r1,r2,r3] (GB [r0,r1,r2,r3] sum u (M,v,B,s2,sv))∧(GB [r0,r1,r2,r3] sum u (M,v,B,s2,sv)).2.2.1.length = 4) :
  GdH (cfg w0) (167,frF 4 n i GA GB):=fun argv h v h' hd=>by
 replace hd:(frF 4 n i GA GB argv h).run = some (v,h'):=hd
 unfold frF at hd
 split at hd
 ·rename_i j sum us caps
  obtain ⟨hg,hd1⟩:=br_runH hd
  clear hd
  obtain ⟨hM,hd2⟩:=br_runH hd1
  clear hd1
  simp only [Bool.and_eq_true] at hg
  obtain ⟨g1,g2,g3,g4,g5⟩:=hg
  have S:=sh_of g5
  have ej:j = i:=of_decide_eq_true g1
  subst ej
  have ec:=eqPs_eq g2
  subst ec
  have eu:=isBo_eq g3
  have hM:=Nat.eq_of_beq_eq_true hM
  have hargs:(Value.int .i64 j :: Value.int .i64 sum :: Value.agg us :: capsF 4) = argF 4 j sum (us.toList.map boV):=by
   unfold argF usV
   rw [← eu]
   rfl
  have hu8:(us.toList.map boV).length = 8:=by rw [List.length_map];exact Nat.eq_of_beq_eq_true g4
  rw [hargs]
  cases ha:(isBA (h.at (K0 + (6 + 4))) && !boolOf (h.at (K0 + (8 + 4)))) with
  | true=>
    rw [ha] at hd2
    cases hd2
    rw [Bool.and_eq_true,Bool.not_eq_true'] at ha
    obtain ⟨q1,q2⟩:=hA (vecOf evK (h.at K0)) (vecOf intK (h.at (K0 + 4))) (vecOf intK (h.at (K0 + 5))) (vecOf intK (h.at (K0 + 6))) (vecOf intK (h.at (K0 + 7))) (vecOf intK (h.at (K0 + (11 + 4)))) sum (intOf (h.at (K0 + (7 + 4)))) (boolOf (h.at (K0 + (9 + 4)))) (us.toList.map boV) hu8 (S.r 0 (by omega)).2 (S.r 1 (by omega)).2 (S.r 2 (by omega)).2 (S.r 3 (by omega)).2 hM
    exact caseA4 ok sp hfn back S (isBA_eq ha.1) ha.2 q2 q1
  | false=>
    rw [ha] at hd2
    obtain ⟨hg2,hd3⟩:=br_runH hd2
    clear hd2
    obtain ⟨hBl,hd4⟩:=br_runH hd3
    clear hd3
    cases hd4
    simp only [Bool.and_eq_true] at hg2
    obtain ⟨k1,k2,k3,k4⟩:=hg2
    have hBl:=Nat.eq_of_beq_eq_true hBl
    obtain ⟨q1,q2⟩:=hB (vecOf evK (h.at K0)) (vecOf intK (h.at (K0 + 4))) (vecOf intK (h.at (K0 + 5))) (vecOf intK (h.at (K0 + 6))) (vecOf intK (h.at (K0 + 7))) (vecOf intK (h.at (K0 + (11 + 4)))) (vecOf intK (h.at (bbX (h.at (K0 + (6 + 4)))))) sum (intOf (h.at (K0 + (7 + 4)))) (bbV (h.at (K0 + (6 + 4)))) (boolOf (h.at (K0 + (9 + 4)))) (us.toList.map boV) hu8 (S.r 0 (by omega)).2 (S.r 1 (by omega)).2 (S.r 2 (by omega)).2 (S.r 3 (by omega)).2 hM hBl
    exact caseB4 ok sp hfn back S (isBB_eq k1) k2 (Nat.le_of_ble_eq_true k3) (isVec_eq k4) hBl q2 q1
 ·cases hd
theorem fr4_4 (h0:Lib0 w0) (n:Nat):GdH (cfg w0) (167,frF 4 n 4 (sA 0 4) (sB 0 4)):=
 gdF4 (Cc:=(cfg w0).at [c166,c168]) (at_ok (cfg_ok w0) _) (at_sp h0 ⟨gd166 h0,gd168 h0,trivial⟩) rfl (fun h=>CallI.sy.1 h)
  (fun L r0 r1 r2 r3 M sum s2 sv u hu k0 k1 k2 k3 hM=>⟨u_eight (P:=fun u=>qF ((cfg w0).at [c166,c168]) 4 n 4 sum u L [r0,r1,r2,r3] bA s2 false sv M [] = finF L 4 n [r0,r1,r2,r3] (sA 0 4 [r0,r1,r2,r3] sum u M s2 sv)) (fun u0 u1 u2 u3 u4 u5 u6 u7=>(leaf4A n L r0 r1 r2 r3 M sum s2 sv u0 u1 u2 u3 u4 u5 u6 u7).trans (leafA_eq (by omega) (by omega) hM)) u hu,(sA_ok (m:=4) 0 4 sum u M s2 sv hM).2⟩)
  (fun L r0 r1 r2 r3 M B sum s2 v sv u hu k0 k1 k2 k3 hM hB=>⟨u_eight (P:=fun u=>qF ((cfg w0).at [c166,c168]) 4 n 4 sum u L [r0,r1,r2,r3] (bB 4 v (14 + 4)) s2 true sv M [.vec intK B true] = finF L 4 n [r0,r1,r2,r3] (sB 0 4 [r0,r1,r2,r3] sum u (M,v,B,s2,sv))) (fun u0 u1 u2 u3 u4 u5 u6 u7=>(leaf4B n L r0 r1 r2 r3 M B sum s2 v sv u0 u1 u2 u3 u4 u5 u6 u7).trans (leafB_eq (by omega) (by omega) ⟨hM,hB⟩)) u hu,(sB_ok (m:=4) 0 4 sum u (M,v,B,s2,sv) ⟨hM,hB⟩).2⟩)
theorem stp4 (h0:Lib0 w0) {n d i:Nat} (hn:GdH (cfg w0) (167,frF 4 n ((i + 1:Nat):Int) (sA d (i + 1)) (sB d (i + 1)))) (rA:RnA w0 4 n i) (rB:RnB w0 4 n i):GdH (cfg w0) (167,frF 4 n (i:Int) (sA (d + 1) i) (sB (d + 1) i)):=
 gdF4 (Cc:=((cgG w0 4 n (i + 1) (sA d (i + 1)) (sB d (i + 1))).at [c166,c168])) (at_ok (Cfg.onH_ok (cfg_ok w0) _) _) (at_sp (specs_onH h0 (hs:=[(167,frF 4 n ((i + 1:Nat):Int) (sA d (i + 1)) (sB d (i + 1)))]) ⟨hn,trivial⟩) (Gds.onH (C:=cfg w0) ⟨gd166 h0,gd168 h0,trivial⟩)) rfl (fun h=>CallI.sy.1 h)
  (fun L r0 r1 r2 r3 M sum s2 sv u hu k0 k1 k2 k3 hM=>⟨(rA _ _ L [r0,r1,r2,r3] M sum s2 sv u hu rfl (by simp [k0,k1,k2,k3])).trans (lpA_eq (sA_ok d (i + 1)) (sB_ok d (i + 1)) _ M s2 sv hM).1,(sA_ok (m:=4) (d + 1) i sum u M s2 sv hM).2⟩)
  (fun L r0 r1 r2 r3 M B sum s2 v sv u hu k0 k1 k2 k3 hM hB=>⟨(rB _ _ L [r0,r1,r2,r3] M B sum s2 v sv u hu rfl (by simp [k0,k1,k2,k3])).trans (lpB_eq (sB_ok d (i + 1)) _ _ ⟨hM,hB⟩).1,(sB_ok (m:=4) (d + 1) i sum u (M,v,B,s2,sv) ⟨hM,hB⟩).2⟩)
end
end Go.Proofs.YtifnpljmjhnbaaaGreatDoor
namespace Go.Proofs.YtifnpljmjhnbaaaGreatDoor
open Go Go.Am
set_option maxRecDepth 100000
variable {w0:World}
noncomputable section
theorem fr4_03 (h0:Lib0 w0):GdH (cfg w0) (167,frF 4 0 3 (sA 1 3) (sB 1 3)):=stp4 h0 (fr4_4 h0 0) run403A run403B
theorem fr4_02 (h0:Lib0 w0):GdH (cfg w0) (167,frF 4 0 2 (sA 2 2) (sB 2 2)):=stp4 h0 (fr4_03 h0) run402A run402B
theorem fr4_01 (h0:Lib0 w0):GdH (cfg w0) (167,frF 4 0 1 (sA 3 1) (sB 3 1)):=stp4 h0 (fr4_02 h0) run401A run401B
theorem fr4_00 (h0:Lib0 w0):GdH (cfg w0) (167,frF 4 0 0 (sA 4 0) (sB 4 0)):=stp4 h0 (fr4_01 h0) run400A run400B
theorem fr4_13 (h0:Lib0 w0):GdH (cfg w0) (167,frF 4 1 3 (sA 1 3) (sB 1 3)):=stp4 h0 (fr4_4 h0 1) run413A run413B
theorem fr4_12 (h0:Lib0 w0):GdH (cfg w0) (167,frF 4 1 2 (sA 2 2) (sB 2 2)):=stp4 h0 (fr4_13 h0) run412A run412B
theorem fr4_11 (h0:Lib0 w0):GdH (cfg w0) (167,frF 4 1 1 (sA 3 1) (sB 3 1)):=stp4 h0 (fr4_12 h0) run411A run411B
theorem fr4_10 (h0:Lib0 w0):GdH (cfg w0) (167,frF 4 1 0 (sA 4 0) (sB 4 0)):=stp4 h0 (fr4_11 h0) run410A run410B
theorem fr4_23 (h0:Lib0 w0):GdH (cfg w0) (167,frF 4 2 3 (sA 1 3) (sB 1 3)):=stp4 h0 (fr4_4 h0 2) run423A run423B
theorem fr4_22 (h0:Lib0 w0):GdH (cfg w0) (167,frF 4 2 2 (sA 2 2) (sB 2 2)):=stp4 h0 (fr4_23 h0) run422A run422B
theorem fr4_21 (h0:Lib0 w0):GdH (cfg w0) (167,frF 4 2 1 (sA 3 1) (sB 3 1)):=stp4 h0 (fr4_22 h0) run421A run421B
theorem fr4_20 (h0:Lib0 w0):GdH (cfg w0) (167,frF 4 2 0 (sA 4 0) (sB 4 0)):=stp4 h0 (fr4_21 h0) run420A run420B
theorem fr4_33 (h0:Lib0 w0):GdH (cfg w0) (167,frF 4 3 3 (sA 1 3) (sB 1 3)):=stp4 h0 (fr4_4 h0 3) run433A run433B
theorem fr4_32 (h0:Lib0 w0):GdH (cfg w0) (167,frF 4 3 2 (sA 2 2) (sB 2 2)):=stp4 h0 (fr4_33 h0) run432A run432B
theorem fr4_31 (h0:Lib0 w0):GdH (cfg w0) (167,frF 4 3 1 (sA 3 1) (sB 3 1)):=stp4 h0 (fr4_32 h0) run431A run431B
theorem fr4_30 (h0:Lib0 w0):GdH (cfg w0) (167,frF 4 3 0 (sA 4 0) (sB 4 0)):=stp4 h0 (fr4_31 h0) run430A run430B
theorem fr4_43 (h0:Lib0 w0):GdH (cfg w0) (167,frF 4 4 3 (sA 1 3) (sB 1 3)):=stp4 h0 (fr4_4 h0 4) run443A run443B
theorem fr4_42 (h0:Lib0 w0):GdH (cfg w0) (167,frF 4 4 2 (sA 2 2) (sB 2 2)):=stp4 h0 (fr4_43 h0) run442A run442B
theorem fr4_41 (h0:Lib0 w0):GdH (cfg w0) (167,frF 4 4 1 (sA 3 1) (sB 3 1)):=stp4 h0 (fr4_42 h0) run441A run441B
theorem fr4_40 (h0:Lib0 w0):GdH (cfg w0) (167,frF 4 4 0 (sA 4 0) (sB 4 0)):=stp4 h0 (fr4_41 h0) run440A run440B
end
end Go.Proofs.YtifnpljmjhnbaaaGreatDoor
