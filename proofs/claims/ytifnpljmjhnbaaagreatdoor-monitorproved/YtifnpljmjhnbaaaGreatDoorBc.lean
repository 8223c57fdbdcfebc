/-
 A part of the proof of the statement that the claim names: see the last file.
-/
import Derived.Test.YtifnpljmjhnbaaaGreatDoorB4
import Derived.Test.YtifnpljmjhnbaaaGreatDoorBb
namespace Go.Proofs.YtifnpljmjhnbaaaGreatDoor
open Go Go.Am
set_option maxRecDepth 100000
variable {w0:World}
noncomputable section
theorem sh3 {n:Nat} {h:Heap} (S:Sh 3 n h) {best:List Value} (hb:h.at (K0 + (6 + 3)) = .row best true none) {fd:Bool} (hf:boolOf (h.at (K0 + (8 + 3))) = fd) :
  ∀ b ∈ adF 3,h.at b = (hsF (vecOf evK (h.at K0)) 3 n (rowsR h 3 4) best (intOf (h.at (K0 + (7 + 3)))) fd (boolOf (h.at (K0 + (9 + 3)))) (vecOf intK (h.at (K0 + (11 + 3)))) []).at b:=by
 intro b hm
 simp only [adF,List.range',List.map_cons,List.map_nil,List.mem_cons,List.not_mem_nil,or_false] at hm
 subst hf
 rcases hm with rfl | rfl | rfl | rfl | rfl | rfl | rfl | rfl | rfl | rfl | rfl | rfl | rfl | rfl | rfl
 ·exact S.l
 ·exact S.lb
 ·exact (S.r 0 (by omega)).1
 ·exact (S.r 1 (by omega)).1
 ·exact (S.r 2 (by omega)).1
 ·exact S.a
 ·exact S.ab
 ·exact hb
 ·exact S.s
 ·exact S.f
 ·exact S.v
 ·exact S.b
 ·exact S.ml
 ·exact S.mb
 ·exact S.fb
theorem alive3 {L:List (Tup evK)} {n:Nat} {r0 r1 r2:TLi} {best:List Value} {s2:Int} {fd sv:Bool} {M:TLi} {b:Nat} (h:((hsF L 3 n [r0,r1,r2] best s2 fd sv M []).at b).alive = true):b ∈ adF 3:=by
 obtain ⟨k1,k2⟩:=at_lt h
 have k2:b < K0 + 17:=k2
 obtain ⟨j,rfl⟩:∃ j,b = K0 + j:=⟨b - K0,by omega⟩
 have hj:j < 17:=by omega
 clear k1 k2
 unfold adF
 match j,hj with
 | 0,_=>simp
 | 1,_=>cases h
 | 2,_=>simp
 | 3,_=>cases h
 | j + 4,hj=>
   refine List.mem_cons_of_mem _ (List.mem_cons_of_mem _ (List.mem_map.2 ⟨j + 4,?_,rfl⟩))
   rw [List.mem_range'_1]
   omega
theorem ok3 (L:List (Tup evK)) (n:Nat) (r0 r1 r2:TLi) (v:Int) (s2:Int) (fd sv:Bool) (M:TLi):(hsF L 3 n [r0,r1,r2] [iv v] s2 fd sv M []).all (okO (adF 3)) = true:=by rfl
theorem okA3 (L:List (Tup evK)) (n:Nat) (r0 r1 r2:TLi) (s2:Int) (fd sv:Bool) (M:TLi):(hsF L 3 n [r0,r1,r2] bA s2 fd sv M []).all (okO (adF 3)) = true:=by rfl
theorem al3 (L:List (Tup evK)) (n:Nat) (r0 r1 r2:TLi) (best:List Value) (s2:Int) (fd sv:Bool) (M:TLi):∀ b ∈ adF 3,((hsF L 3 n [r0,r1,r2] best s2 fd sv M []).at b).alive = true:=by
 intro b hm
 simp only [adF,List.range',List.map_cons,List.map_nil,List.mem_cons,List.not_mem_nil,or_false] at hm
 rcases hm with rfl | rfl | rfl | rfl | rfl | rfl | rfl | rfl | rfl | rfl | rfl | rfl | rfl | rfl | rfl <;> rfl
theorem argOk3 (i sum:Int) (u:Us):(argF 3 i sum u).all (okA (adF 3)) = true:=by
 have:(argF 3 i sum u).all (okA (adF 3)) = (okA (adF 3) (iv i) && (okA (adF 3) (iv sum) && (okA (adF 3) (usV u) && (capsF 3).all (okA (adF 3))))):=rfl
 rw [this]
 have hu:okA (adF 3) (usV u) = true:=by
  show (u.map Value.bool).toArray.toList.all scal = true
  rw [List.all_eq_true]
  intro x hx
  simp only [List.mem_map] at hx
  obtain ⟨b,_,rfl⟩:=hx
  rfl
 rw [hu];rfl
theorem behind3 {n:Nat} {h hs':Heap} (S:Sh 3 n h) {L:List (Tup evK)} {r0 r1 r2:TLi} {st:S5} {b:Int} {x:Nat} (hL:vecOf evK (h.at K0) = L) (h0:vecOf intK (h.at (K0 + 4)) = r0) (h1:vecOf intK (h.at (K0 + 5)) = r1) (h2:vecOf intK (h.at (K0 + 6)) = r2)
  (hE:hsF L 3 n [r0,r1,r2] [iv st.2.1] st.2.2.2.1 true st.2.2.2.2 st.1 [] = (hs'.put (K0 + (6 + 3)) (.row [iv b] true none)).take (14 + 3)) (hbx:hs'.at (K0 + (6 + 3)) = .row [iv b,.slice (some ⟨x,1,some 0⟩) 3 1] true none) :
  b = st.2.1∧(∀ a ∈ adF 3,a ≠ K0 + (6 + 3)→hs'.at a = (hsF L 3 n [r0,r1,r2] [iv st.2.1] st.2.2.2.1 true st.2.2.2.2 st.1 []).at a):=by
 obtain ⟨k1,k2⟩:=at_lt (h:=hs') (b:=K0 + (6 + 3)) (by rw [hbx];rfl)
 have key:∀ a,a < K0 + (14 + 3)→(hsF L 3 n [r0,r1,r2] [iv st.2.1] st.2.2.2.1 true st.2.2.2.2 st.1 []).at a = if a = K0 + (6 + 3) then .row [iv b] true none else hs'.at a:=fun a ha=>by
  rw [hE,take_at ha,at_put k1 k2]
 constructor
 ·have:=key (K0 + (6 + 3)) (by omega)
  rw [if_pos rfl] at this
  have e:AObj.row [iv st.2.1] true none = .row [iv b] true none:=this
  simp only [AObj.row.injEq,List.cons.injEq,and_true] at e
  have e:iv st.2.1 = iv b:=e
  unfold iv at e
  simp only [Value.int.injEq,true_and] at e
  exact e.symm
 ·intro a ha hne
  rw [key a (adF_lt ha).2,if_neg hne]
theorem out_lay3 {n:Nat} {h:Heap} {st:S5} (S:Sh 3 n h):∀ b ∈ adF 3,b ≠ K0 + (6 + 3)→(outF 3 h st).at b = (hsF (vecOf evK (h.at K0)) 3 n (rowsR h 3 4) [iv st.2.1] st.2.2.2.1 true st.2.2.2.2 st.1 []).at b:=by
 intro a hm hne
 have hlt:=(adF_lt hm).2
 have hl:=S.len
 rw [outF_at hl,if_neg (by omega)]
 simp only [adF,List.range',List.map_cons,List.map_nil,List.mem_cons,List.not_mem_nil,or_false] at hm
 rcases hm with rfl | rfl | rfl | rfl | rfl | rfl | rfl | rfl | rfl | rfl | rfl | rfl | rfl | rfl | rfl
 all_goals repeat (first | rw [if_pos (by omega)] | rw [if_neg (by omega)])
 ·exact S.l
 ·exact S.lb
 ·exact (S.r 0 (by omega)).1
 ·exact (S.r 1 (by omega)).1
 ·exact (S.r 2 (by omega)).1
 ·exact S.a
 ·exact S.ab
 ·exact absurd rfl hne
 ·rfl
 ·rfl
 ·rfl
 ·exact S.b
 ·rfl
 ·exact S.mb
 ·exact S.fb
theorem caseA3 {Cc:Cfg} (ok:CfgOk Cc) (sp:SpecOK Cc) (hfn:Cc.fn 167 = some (fnOf Tryz.f167)) (back:∀ {argv hs v hs'},CallI Cc 167 argv hs v hs'→CallI (cfg w0) 167 argv hs v hs') {n:Nat} {i sum:Int} {u:Us} {h:Heap} (S:Sh 3 n h)
  (hb:h.at (K0 + (6 + 3)) = .row bA true none) (hf:boolOf (h.at (K0 + (8 + 3))) = false) {st:S5} (hst:st.2.2.1.length = 3)
  (hq:qF Cc 3 n i sum u (vecOf evK (h.at K0)) (rowsR h 3 4) bA (intOf (h.at (K0 + (7 + 3)))) false (boolOf (h.at (K0 + (9 + 3)))) (vecOf intK (h.at (K0 + (11 + 3)))) [] = finF (vecOf evK (h.at K0)) 3 n (rowsR h 3 4) st) :
  CallI (cfg w0) 167 (argF 3 i sum u) h (.tuple #[]) (outF 3 h st):=by
 have hl:=S.len
 have hsh:=sh3 S hb hf
 obtain ⟨v',hs',hI,hk⟩:=q_runK ok sp hfn hq
 obtain ⟨b,x,rfl,hbx,hx,hE,hxo⟩:=rdK_inv hk
 obtain ⟨rfl,slay⟩:=behind3 S rfl rfl rfl rfl hE hbx
 have hal:∀ b,((hsF (vecOf evK (h.at K0)) 3 n (rowsR h 3 4) bA (intOf (h.at (K0 + (7 + 3)))) false (boolOf (h.at (K0 + (9 + 3)))) (vecOf intK (h.at (K0 + (11 + 3)))) []).at b).alive = true→b ∈ adF 3:=fun b hb=>alive3 hb
 refine CallI.lay (N:=14 + 3) (β:=6 + 3) (m:=3) (ad:=adF 3) (up:=id) (bb:=none) (v:=st.2.1) (x:=0) (X:=x) (B:=st.2.2.1) ⟨⟨fun b hb'=>?_,fun b hb'=>?_,fun _ _ _ _ e=>e,fun b hb'=>?_,fun b hb' r w t ho=>?_⟩,fun b hb'=>.inl ⟨hal b hb',rfl⟩,fun b hb'=>⟨al3 _ _ _ _ _ _ _ _ _ _ b hb',rfl⟩,fun b hb'=>adF_lt hb',mem_ad (by omega) (by omega),hl,outF_len _ _ _,
   by rw [outF_at hl,if_pos rfl],?_,out_lay3 S,fun a h1 h2 _=>out_oth hl h1 h2,fun a e=>(by cases e),hx,hxo,hbx,slay,fun b hb' _=>al3 _ _ _ _ _ _ _ _ _ _ b hb',ok3 _ _ _ _ _ _ _ _ _ _,by omega⟩ (argOk3 i sum u) (.inr rfl) (back hI)
 ·show (h.at b).alive = true
  rw [hsh b (hal b hb')];exact hb'
 ·show (h.at b).owned = true
  rw [hsh b (hal b (AObj.alive_of_owned hb'))];exact hb'
 ·show (h.at b).mate = none
  rw [hsh b (hal b hb')]
  exact okO_mate (okH_at (okA3 _ _ _ _ _ _ _ _ _) b)
 ·have ho:ObjR r w t (h.at b):=ho
  rw [hsh b (hal b hb')] at ho
  refine okO_objR (ad:=adF 3) (fun a ha=>?_) (okH_at (okA3 _ _ _ _ _ _ _ _ _) b) ho
  exact if_pos (al3 _ _ (vecOf intK (h.at (K0 + 4))) (vecOf intK (h.at (K0 + 5))) (vecOf intK (h.at (K0 + 6))) _ _ _ _ _ a ha)
 ·rw [outF_at hl]
  repeat (first | rw [if_pos (by omega)] | rw [if_neg (by omega)])
theorem hs_at3 {L:List (Tup evK)} {n:Nat} {r0 r1 r2:TLi} {best best':List Value} {s2:Int} {fd sv:Bool} {M:TLi} {tl tl':Heap}:∀ b ∈ adF 3,b ≠ K0 + (6 + 3)→(hsF L 3 n [r0,r1,r2] best s2 fd sv M tl).at b = (hsF L 3 n [r0,r1,r2] best' s2 fd sv M tl').at b:=by
 intro b hm hne
 simp only [adF,List.range',List.map_cons,List.map_nil,List.mem_cons,List.not_mem_nil,or_false] at hm
 rcases hm with rfl | rfl | rfl | rfl | rfl | rfl | rfl | rfl | rfl | rfl | rfl | rfl | rfl | rfl | rfl
 case inr.inr.inr.inr.inr.inr.inr.inl=>exact absurd rfl hne
 all_goals rfl
theorem alive3B {L:List (Tup evK)} {n:Nat} {r0 r1 r2:TLi} {best:List Value} {s2:Int} {fd sv:Bool} {M B:TLi} {b:Nat} (h:((hsF L 3 n [r0,r1,r2] best s2 fd sv M [.vec intK B true]).at b).alive = true):b ∈ adF 3 ∨ b = K0 + (14 + 3):=by
 obtain ⟨k1,k2⟩:=at_lt h
 have k2:b < K0 + 18:=k2
 obtain ⟨j,rfl⟩:∃ j,b = K0 + j:=⟨b - K0,by omega⟩
 have hj:j < 18:=by omega
 clear k1 k2
 match j,hj with
 | 0,_=>exact .inl (by simp [adF])
 | 1,_=>cases h
 | 2,_=>exact .inl (by simp [adF])
 | 3,_=>cases h
 | j + 4,hj=>
   by_cases e:j + 4 = 17
   ·right;omega
   ·exact .inl (mem_ad (by omega) (by omega))
theorem okB3 (L:List (Tup evK)) (n:Nat) (r0 r1 r2:TLi) (v s2:Int) (fd sv:Bool) (M B:TLi):(hsF L 3 n [r0,r1,r2] (bB 3 v (14 + 3)) s2 fd sv M [.vec intK B true]).all (okO ((K0 + (14 + 3)) :: adF 3)) = true:=by rfl
theorem alB3 (L:List (Tup evK)) (n:Nat) (r0 r1 r2:TLi) (best:List Value) (s2:Int) (fd sv:Bool) (M B:TLi):∀ b ∈ adF 3,((hsF L 3 n [r0,r1,r2] best s2 fd sv M [.vec intK B true]).at b).alive = true:=by
 intro b hm
 simp only [adF,List.range',List.map_cons,List.map_nil,List.mem_cons,List.not_mem_nil,or_false] at hm
 rcases hm with rfl | rfl | rfl | rfl | rfl | rfl | rfl | rfl | rfl | rfl | rfl | rfl | rfl | rfl | rfl <;> rfl
theorem Sh.put3 {n:Nat} {h:Heap} (S:Sh 3 n h) {bb:Nat} {o:AObj} (hb:K0 + (14 + 3) ≤ bb) (hl:bb < K0 + h.length):Sh 3 n (h.put bb o):=by
 have hat:∀ a,a < K0 + (14 + 3)→(h.put bb o).at a = h.at a:=fun a ha=>by rw [at_put (by omega) hl,if_neg (by omega)]
 refine ⟨?_,?_,fun k hk=>?_,?_,?_,?_,?_,?_,?_,?_,?_,?_⟩ <;> rw [hat _ (by omega)]
 ·exact S.l
 ·exact S.lb
 ·exact S.r k hk
 ·exact S.a
 ·exact S.ab
 ·exact S.s
 ·exact S.f
 ·exact S.v
 ·exact S.b
 ·exact S.ml
 ·exact S.mb
 ·exact S.fb
theorem caseB3 {Cc:Cfg} (ok:CfgOk Cc) (sp:SpecOK Cc) (hfn:Cc.fn 167 = some (fnOf Tryz.f167)) (back:∀ {argv hs v hs'},CallI Cc 167 argv hs v hs'→CallI (cfg w0) 167 argv hs v hs') {n:Nat} {i sum v:Int} {u:Us} {h:Heap} (S:Sh 3 n h) {bb:Nat} {B:TLi}
  (hb:h.at (K0 + (6 + 3)) = .row [iv v,.slice (some ⟨bb,1,some 0⟩) 3 1] true none) (hf:boolOf (h.at (K0 + (8 + 3))) = true) (hbb:K0 + (14 + 3) ≤ bb) (hB:h.at bb = .vec intK B true) (hBl:B.length = 3) {st:S5} (hst:st.2.2.1.length = 3)
  (hq:qF Cc 3 n i sum u (vecOf evK (h.at K0)) (rowsR h 3 4) (bB 3 v (14 + 3)) (intOf (h.at (K0 + (7 + 3)))) true (boolOf (h.at (K0 + (9 + 3)))) (vecOf intK (h.at (K0 + (11 + 3)))) [.vec intK B true] = finF (vecOf evK (h.at K0)) 3 n (rowsR h 3 4) st) :
  CallI (cfg w0) 167 (argF 3 i sum u) h (.tuple #[]) (outF 3 (h.put bb .dead) st):=by
 have hbl:=(at_lt (h:=h) (b:=bb) (by rw [hB];rfl)).2
 have hat:∀ a,a < K0 + (14 + 3)→(h.put bb .dead).at a = h.at a:=fun a ha=>by rw [at_put (by omega) hbl,if_neg (by omega)]
 have S2:Sh 3 n (h.put bb .dead):=S.put3 hbb hbl
 have hl:=S2.len
 have hlen:(h.put bb .dead).length = h.length:=put_length ..
 have hsh:=sh3 S hb hf
 obtain ⟨v',hs',hI,hk⟩:=q_runK ok sp hfn hq
 obtain ⟨b,x,rfl,hbx,hx,hE,hxo⟩:=rdK_inv hk
 obtain ⟨rfl,slay⟩:=behind3 S rfl rfl rfl rfl hE hbx
 have hlay:=out_lay3 (st:=st) S2
 simp only [hat K0 (by omega),show rowsR (h.put bb .dead) 3 4 = rowsR h 3 4 from by
  show [vecOf intK ((h.put bb .dead).at (K0 + 4)),vecOf intK ((h.put bb .dead).at (K0 + 5)),vecOf intK ((h.put bb .dead).at (K0 + 6))] = [vecOf intK (h.at (K0 + 4)),vecOf intK (h.at (K0 + 5)),vecOf intK (h.at (K0 + 6))]
  rw [hat _ (by omega),hat _ (by omega),hat _ (by omega)]] at hlay
 let up:Nat→Nat:=fun b=>if b = K0 + (14 + 3) then bb else b
 have upb:up (K0 + (14 + 3)) = bb:=if_pos rfl
 have upa:∀ b ∈ adF 3,up b = b:=fun b hb'=>if_neg (by have:=(adF_lt hb').2;omega)
 have hal:∀ b,((hsF (vecOf evK (h.at K0)) 3 n (rowsR h 3 4) (bB 3 v (14 + 3)) (intOf (h.at (K0 + (7 + 3)))) true (boolOf (h.at (K0 + (9 + 3)))) (vecOf intK (h.at (K0 + (11 + 3)))) [.vec intK B true]).at b).alive = true→b ∈ adF 3 ∨ b = K0 + (14 + 3):=fun b hb=>alive3B hb
 have same:∀ b ∈ adF 3,b ≠ K0 + (6 + 3)→h.at b = (hsF (vecOf evK (h.at K0)) 3 n (rowsR h 3 4) (bB 3 v (14 + 3)) (intOf (h.at (K0 + (7 + 3)))) true (boolOf (h.at (K0 + (9 + 3)))) (vecOf intK (h.at (K0 + (11 + 3)))) [.vec intK B true]).at b:=fun b hb' hne=>(hsh b hb').trans (hs_at3 b hb' hne)
 refine CallI.lay (N:=14 + 3) (β:=6 + 3) (m:=3) (ad:=adF 3) (up:=up) (bb:=some bb) (v:=st.2.1) (x:=0) (X:=x) (B:=st.2.2.1) (hE:=hsF (vecOf evK (h.at K0)) 3 n (rowsR h 3 4) [iv st.2.1] st.2.2.2.1 true st.2.2.2.2 st.1 []) ⟨⟨fun b hb'=>?_,fun b hb'=>?_,fun b b' h1 h2 e=>?_,fun b hb'=>?_,fun b hb' r w t ho=>?_⟩,fun b hb'=>?_,fun b hb'=>⟨alB3 _ _ _ _ _ _ _ _ _ _ _ b hb',upa b hb'⟩,fun b hb'=>adF_lt hb',mem_ad (by omega) (by omega),by rw [← hlen];exact hl,by rw [outF_len,hlen],
   by rw [outF_at hl,hlen,if_pos rfl],?_,hlay,fun a h1 h2 h3=>?_,fun a e=>?_,hx,hxo,hbx,slay,fun b hb' _=>al3 _ _ _ _ _ _ _ _ _ _ b hb',ok3 _ _ _ _ _ _ _ _ _ _,by omega⟩ (argOk3 i sum u) (.inr rfl) (back hI)
 ·rcases hal b hb' with k | rfl
  ·rw [upa b k]
   by_cases e:b = K0 + (6 + 3)
   ·rw [e,hb];rfl
   ·rw [same b k e];exact hb'
  ·rw [upb,hB];rfl
 ·rcases hal b (AObj.alive_of_owned hb') with k | rfl
  ·rw [upa b k]
   by_cases e:b = K0 + (6 + 3)
   ·rw [e,hb];rfl
   ·rw [same b k e];exact hb'
  ·rw [upb,hB]
   show (true && Nat.blt 0 B.length) = true
   rw [hBl];rfl
 ·rcases hal b h1 with k | rfl <;> rcases hal b' h2 with k' | rfl
  ·rw [upa b k,upa b' k'] at e;exact e
  ·rw [upa b k,upb] at e;have:=(adF_lt k).2;omega
  ·rw [upb,upa b' k'] at e;have:=(adF_lt k').2;omega
  ·rfl
 ·rcases hal b hb' with k | rfl
  ·rw [upa b k]
   by_cases e:b = K0 + (6 + 3)
   ·rw [e,hb];rfl
   ·rw [same b k e];exact okO_mate (okH_at (okB3 _ _ _ _ _ _ _ _ _ _ _) b)
  ·rw [upb,hB];rfl
 ·have smA:∀ a ∈ adF 3,sm' (hsF (vecOf evK (h.at K0)) 3 n (rowsR h 3 4) (bB 3 v (14 + 3)) (intOf (h.at (K0 + (7 + 3)))) true (boolOf (h.at (K0 + (9 + 3)))) (vecOf intK (h.at (K0 + (11 + 3)))) [.vec intK B true]) up r a = r a:=fun a ha=>by
   have:=upa a ha
   exact (if_pos (alB3 _ _ (vecOf intK (h.at (K0 + 4))) (vecOf intK (h.at (K0 + 5))) (vecOf intK (h.at (K0 + 6))) _ _ _ _ _ _ a ha)).trans (by rw [this])
  have smB:sm' (hsF (vecOf evK (h.at K0)) 3 n (rowsR h 3 4) (bB 3 v (14 + 3)) (intOf (h.at (K0 + (7 + 3)))) true (boolOf (h.at (K0 + (9 + 3)))) (vecOf intK (h.at (K0 + (11 + 3)))) [.vec intK B true]) up r (K0 + (14 + 3)) = r bb:=(if_pos rfl).trans (by rw [upb])
  rcases hal b hb' with k | rfl
  ·rw [upa b k] at ho
   by_cases e:b = K0 + (6 + 3)
   ·subst e
    rw [hb] at ho
    refine objR_row (cells':=bB 3 v (14 + 3)) ho rfl fun j c' hj=>?_
    match j,hj with
    | 0,hj=>cases hj;exact ⟨_,rfl,fun u hu=>by rw [hu.scal_eq rfl];exact .scal _ rfl⟩
    | 1,hj=>cases hj;exact ⟨_,rfl,fun u hu=>vr_asl smB (by omega) hu⟩
    | j + 2,hj=>simp [bB] at hj
   ·have e2:=hs_at3 (L:=vecOf evK (h.at K0)) (n:=n) (r0:=vecOf intK (h.at (K0 + 4))) (r1:=vecOf intK (h.at (K0 + 5))) (r2:=vecOf intK (h.at (K0 + 6))) (best:=bB 3 v (14 + 3)) (best':=bA) (s2:=intOf (h.at (K0 + (7 + 3)))) (fd:=true) (sv:=boolOf (h.at (K0 + (9 + 3)))) (M:=vecOf intK (h.at (K0 + (11 + 3)))) (tl:=[.vec intK B true]) (tl':=[]) b k e
    rw [same b k e] at ho
    refine okO_objR (ad:=adF 3) smA ?_ ho
    exact (congrArg (okO (adF 3)) e2).trans (okH_at (okA3 _ _ _ _ _ _ _ _ _) b)
  ·rw [upb,hB] at ho
   exact ho
 ·rcases hal b hb' with k | rfl
  ·exact .inl ⟨k,upa b k⟩
  ·exact .inr (by rw [upb])
 ·rw [outF_at hl,hlen]
  repeat (first | rw [if_pos (by omega)] | rw [if_neg (by omega)])
 ·rw [out_oth hl h1 (by rw [hlen];exact h2),at_put (by omega) hbl,if_neg (fun e=>h3 (by rw [e]))]
 ·cases e
  have:bb ∉ adF 3:=fun hm=>by have:=(adF_lt hm).2;omega
  rw [out_oth hl this (by rw [hlen];omega),at_put (by omega) hbl,if_pos rfl]
  rfl
theorem gdF3 {Cc:Cfg} (ok:CfgOk Cc) (sp:SpecOK Cc) (hfn:Cc.fn 167 = some (fnOf Tryz.f167)) (back:∀ {argv hs v hs'},CallI Cc 167 argv hs v hs'→CallI (cfg w0) 167 argv hs v hs') {n:Nat} {i:Int} {GA:GAf} {GB:GBf}
  (hA:∀ (L:List (Tup evK)) (r0 r1 r2 M:TLi) (sum s2:Int) (sv:Bool) (u:Us),u.length = 8→r0.length = n→r1.length = n→r2.length = n→M.length = 3 →
   qF Cc 3 n i sum u L [r0,r1,r2] bA s2 false sv M [] = finF L 3 n [r0,r1,r2] (GA [r0,r1,r2] sum u M s2 sv)∧(GA [r0,r1,r2] sum u M s2 sv).2.2.1.length = 3)
  (hB:∀ (L:List (Tup evK)) (r0 r1 r2 M B:TLi) (sum s2 v:Int) (sv:Bool) (u:Us),u.length = 8→r0.length = n→r1.length = n→r2.length = n→M.length = 3→B.length = 3 →
   qF Cc 3 n i sum u L [r0,r1,r2] (bB 3 v (14 + 3)) s2 true sv M [.vec intK B true] = finF L 3 n [r0,r1,r2] (GB [r0,r1,r2] sum u (M,v,B,s2,sv))∧(GB [r0,r1,r2] sum u (M,v,B,s2,sv)).2.2.1.length = 3) :
  GdH (cfg w0) (167,frF 3 n i GA GB):=fun argv h v h' hd=>by
 replace hd:(frF 3 n i GA GB argv h).run = some (v,h'):=hd
 unfold frF at hd
 split at hd
 ·rename_i j sum us caps
  obtain ⟨hg,hd1⟩:=br_runH hd
  clear hd
  obtain ⟨hM,hd2⟩:=br_runH hd1
  clear hd1
  simp only [Bool.and_eq_true] at hg
  obtain ⟨g1,g2,g3,g4,g5⟩:=hg
  have S:=sh_of g5
  have ej:j = i:=of_decide_eq_true g1
  subst ej
  have ec:=eqPs_eq g2
  subst ec
  have eu:=isBo_eq g3
  have hM:=Nat.eq_of_beq_eq_true hM
  have hargs:(Value.int .i64 j :: Value.int .i64 sum :: Value.agg us :: capsF 3) = argF 3 j sum (us.toList.map boV):=by
   unfold argF usV
   rw [← eu]
   rfl
  have hu8:(us.toList.map boV).length = 8:=by rw [List.length_map];exact Nat.eq_of_beq_eq_true g4
  rw [hargs]
  cases ha:(isBA (h.at (K0 + (6 + 3))) && !boolOf (h.at (K0 + (8 + 3)))) with
  | true=>
    rw [ha] at hd2
    cases hd2
    rw [Bool.and_eq_true,Bool.not_eq_true'] at ha
    obtain ⟨q1,q2⟩:=hA (vecOf evK (h.at K0)) (vecOf intK (h.at (K0 + 4))) (vecOf intK (h.at (K0 + 5))) (vecOf intK (h.at (K0 + 6))) (vecOf intK (h.at (K0 + (11 + 3)))) sum (intOf (h.at (K0 + (7 + 3)))) (boolOf (h.at (K0 + (9 + 3)))) (us.toList.map boV) hu8 (S.r 0 (by omega)).2 (S.r 1 (by omega)).2 (S.r 2 (by omega)).2 hM
    exact caseA3 ok sp hfn back S (isBA_eq ha.1) ha.2 q2 q1
  | false=>
    rw [ha] at hd2
    obtain ⟨hg2,hd3⟩:=br_runH hd2
    clear hd2
    obtain ⟨hBl,hd4⟩:=br_runH hd3
    clear hd3
    cases hd4
    simp only [Bool.and_eq_true] at hg2
    obtain ⟨k1,k2,k3,k4⟩:=hg2
    have hBl:=Nat.eq_of_beq_eq_true hBl
    obtain ⟨q1,q2⟩:=hB (vecOf evK (h.at K0)) (vecOf intK (h.at (K0 + 4))) (vecOf intK (h.at (K0 + 5))) (vecOf intK (h.at (K0 + 6))) (vecOf intK (h.at (K0 + (11 + 3)))) (vecOf intK (h.at (bbX (h.at (K0 + (6 + 3)))))) sum (intOf (h.at (K0 + (7 + 3)))) (bbV (h.at (K0 + (6 + 3)))) (boolOf (h.at (K0 + (9 + 3)))) (us.toList.map boV) hu8 (S.r 0 (by omega)).2 (S.r 1 (by omega)).2 (S.r 2 (by omega)).2 hM hBl
    exact caseB3 ok sp hfn back S (isBB_eq k1) k2 (Nat.le_of_ble_eq_true k3) (isVec_eq k4) hBl q2 q1
 ·cases hd
theorem fr3_3 (h0:Lib0 w0) (n:Nat):GdH (cfg w0) (167,frF 3 n 3 (sA 0 3) (sB 0 3)):=
 gdF3 (Cc:=(cfg w0).at [c166,c168]) (at_ok (cfg_ok w0) _) (at_sp h0 ⟨gd166 h0,gd168 h0,trivial⟩) rfl (fun h=>CallI.sy.1 h)
  (fun L r0 r1 r2 M sum s2 sv u hu k0 k1 k2 hM=>⟨u_eight (P:=fun u=>qF ((cfg w0).at [c166,c168]) 3 n 3 sum u L [r0,r1,r2] bA s2 false sv M [] = finF L 3 n [r0,r1,r2] (sA 0 3 [r0,r1,r2] sum u M s2 sv)) (fun u0 u1 u2 u3 u4 u5 u6 u7=>(leaf3A n L r0 r1 r2 M sum s2 sv u0 u1 u2 u3 u4 u5 u6 u7).trans (leafA_eq (by omega) (by omega) hM)) u hu,(sA_ok (m:=3) 0 3 sum u M s2 sv hM).2⟩)
  (fun L r0 r1 r2 M B sum s2 v sv u hu k0 k1 k2 hM hB=>⟨u_eight (P:=fun u=>qF ((cfg w0).at [c166,c168]) 3 n 3 sum u L [r0,r1,r2] (bB 3 v (14 + 3)) s2 true sv M [.vec intK B true] = finF L 3 n [r0,r1,r2] (sB 0 3 [r0,r1,r2] sum u (M,v,B,s2,sv))) (fun u0 u1 u2 u3 u4 u5 u6 u7=>(leaf3B n L r0 r1 r2 M B sum s2 v sv u0 u1 u2 u3 u4 u5 u6 u7).trans (leafB_eq (by omega) (by omega) ⟨hM,hB⟩)) u hu,(sB_ok (m:=3) 0 3 sum u (M,v,B,s2,sv) ⟨hM,hB⟩).2⟩)
theorem stp3 (h0:Lib0 w0) {n d i:Nat} (hn:GdH (cfg w0) (167,frF 3 n ((i + 1:Nat):Int) (sA d (i + 1)) (sB d (i + 1)))) (rA:RnA w0 3 n i) (rB:RnB w0 3 n i):GdH (cfg w0) (167,frF 3 n (i:Int) (sA (d + 1) i) (sB (d + 1) i)):=
 gdF3 (Cc:=((cgG w0 3 n (i + 1) (sA d (i + 1)) (sB d (i + 1))).at [c166,c168])) (at_ok (Cfg.onH_ok (cfg_ok w0) _) _) (at_sp (specs_onH h0 (hs:=[(167,frF 3 n ((i + 1:Nat):Int) (sA d (i + 1)) (sB d (i + 1)))]) ⟨hn,trivial⟩) (Gds.onH (C:=cfg w0) ⟨gd166 h0,gd168 h0,trivial⟩)) rfl (fun h=>CallI.sy.1 h)
  (fun L r0 r1 r2 M sum s2 sv u hu k0 k1 k2 hM=>⟨(rA _ _ L [r0,r1,r2] M sum s2 sv u hu rfl (by simp [k0,k1,k2])).trans (lpA_eq (sA_ok d (i + 1)) (sB_ok d (i + 1)) _ M s2 sv hM).1,(sA_ok (m:=3) (d + 1) i sum u M s2 sv hM).2⟩)
  (fun L r0 r1 r2 M B sum s2 v sv u hu k0 k1 k2 hM hB=>⟨(rB _ _ L [r0,r1,r2] M B sum s2 v sv u hu rfl (by simp [k0,k1,k2])).trans (lpB_eq (sB_ok d (i + 1)) _ _ ⟨hM,hB⟩).1,(sB_ok (m:=3) (d + 1) i sum u (M,v,B,s2,sv) ⟨hM,hB⟩).2⟩)
end
end Go.Proofs.YtifnpljmjhnbaaaGreatDoor
namespace Go.Proofs.YtifnpljmjhnbaaaGreatDoor
open Go Go.Am
set_option maxRecDepth 100000
variable {w0:World}
noncomputable section
theorem fr3_02 (h0:Lib0 w0):GdH (cfg w0) (167,frF 3 0 2 (sA 1 2) (sB 1 2)):=stp3 h0 (fr3_3 h0 0) run302A run302B
theorem fr3_01 (h0:Lib0 w0):GdH (cfg w0) (167,frF 3 0 1 (sA 2 1) (sB 2 1)):=stp3 h0 (fr3_02 h0) run301A run301B
theorem fr3_00 (h0:Lib0 w0):GdH (cfg w0) (167,frF 3 0 0 (sA 3 0) (sB 3 0)):=stp3 h0 (fr3_01 h0) run300A run300B
theorem fr3_12 (h0:Lib0 w0):GdH (cfg w0) (167,frF 3 1 2 (sA 1 2) (sB 1 2)):=stp3 h0 (fr3_3 h0 1) run312A run312B
theorem fr3_11 (h0:Lib0 w0):GdH (cfg w0) (167,frF 3 1 1 (sA 2 1) (sB 2 1)):=stp3 h0 (fr3_12 h0) run311A run311B
theorem fr3_10 (h0:Lib0 w0):GdH (cfg w0) (167,frF 3 1 0 (sA 3 0) (sB 3 0)):=stp3 h0 (fr3_11 h0) run310A run310B
theorem fr3_22 (h0:Lib0 w0):GdH (cfg w0) (167,frF 3 2 2 (sA 1 2) (sB 1 2)):=stp3 h0 (fr3_3 h0 2) run322A run322B
theorem fr3_21 (h0:Lib0 w0):GdH (cfg w0) (167,frF 3 2 1 (sA 2 1) (sB 2 1)):=stp3 h0 (fr3_22 h0) run321A run321B
theorem fr3_20 (h0:Lib0 w0):GdH (cfg w0) (167,frF 3 2 0 (sA 3 0) (sB 3 0)):=stp3 h0 (fr3_21 h0) run320A run320B
theorem fr3_32 (h0:Lib0 w0):GdH (cfg w0) (167,frF 3 3 2 (sA 1 2) (sB 1 2)):=stp3 h0 (fr3_3 h0 3) run332A run332B
theorem fr3_31 (h0:Lib0 w0):GdH (cfg w0) (167,frF 3 3 1 (sA 2 1) (sB 2 1)):=stp3 h0 (fr3_32 h0) run331A run331B
theorem fr3_30 (h0:Lib0 w0):GdH (cfg w0) (167,frF 3 3 0 (sA 3 0) (sB 3 0)):=stp3 h0 (fr3_31 h0) run330A run330B
theorem fr3_42 (h0:Lib0 w0):GdH (cfg w0) (167,frF 3 4 2 (sA 1 2) (sB 1 2)):=stp3 h0 (fr3_3 h0 4) run342A run342B
theorem fr3_41 (h0:Lib0 w0):GdH (cfg w0) (167,frF 3 4 1 (sA 2 1) (sB 2 1)):=stp3 h0 (fr3_42 h0) run341A run341B
theorem fr3_40 (h0:Lib0 w0):GdH (cfg w0) (167,frF 3 4 0 (sA 3 0) (sB 3 0)):=stp3 h0 (fr3_41 h0) run340A run340B
end
end Go.Proofs.YtifnpljmjhnbaaaGreatDoor
