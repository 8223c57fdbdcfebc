/-
 A part of the proof of the statement that the claim names: see the last file.
-/
import Derived.Test.YtifnpljmjhnbaaaGreatDoorB2
import Derived.Test.YtifnpljmjhnbaaaGreatDoorB3
namespace Go.Proofs.YtifnpljmjhnbaaaGreatDoor
open Go Go.Am
set_option maxRecDepth 100000
variable {w0:World}
noncomputable section
theorem outF_len (m:Nat) (h:Heap) (s:S5):(outF m h s).length = h.length + 1:=by
 unfold outF
 rw [List.length_append,put_length,put_length,put_length,put_length,put_length];rfl
theorem outF_at {m:Nat} {h:Heap} {s:S5} (hl:14 + m ≤ h.length) (a:Nat):(outF m h s).at a =
  if a = K0 + h.length then .vec intK s.2.2.1 true else if a = K0 + (9 + m) then .row [.bool s.2.2.2.2] true none else if a = K0 + (8 + m) then .row [.bool true] true none else
  if a = K0 + (7 + m) then .row [iv s.2.2.2.1] true none else if a = K0 + (6 + m) then .row [iv s.2.1,.slice (some ⟨K0 + h.length,1,some 0⟩) m 1] true none else if a = K0 + (11 + m) then .vec intK s.1 true else h.at a:=by
 unfold outF
 rw [at_snoc]
 simp only [put_length]
 by_cases e:a = K0 + h.length
 ·rw [if_pos e,if_pos e]
 ·rw [if_neg e,if_neg e,at_put (by omega) (by simp only [put_length];omega),at_put (by omega) (by simp only [put_length];omega),at_put (by omega) (by simp only [put_length];omega),at_put (by omega) (by simp only [put_length];omega),at_put (by omega) (by omega)]
theorem rows_ok {n:Nat} {h:Heap}:∀ {m j:Nat},rowsOk n h m j = true→∀ k,k < m→h.at (K0 + (j + k)) = .vec intK (vecOf intK (h.at (K0 + (j + k)))) true∧(vecOf intK (h.at (K0 + (j + k)))).length = n
 | 0,_,_,k,hk=>by omega
 | m + 1,j,hr,k,hk=>by
   have hr:(isVec intK true (h.at (K0 + j)) && (Nat.beq (vecOf intK (h.at (K0 + j))).length n && rowsOk n h m (j + 1))) = true:=hr
   rw [Bool.and_eq_true,Bool.and_eq_true,Nat.beq_eq] at hr
   obtain ⟨h1,h2,h3⟩:=hr
   cases k with
   | zero=>exact ⟨isVec_eq h1,h2⟩
   | succ k=>
     have:=rows_ok h3 k (by omega)
     rw [show j + 1 + k = j + (k + 1) by omega] at this
     exact this
structure Sh (m n:Nat) (h:Heap):Prop where
 l:h.at K0 = .vec evK (vecOf evK (h.at K0)) false
 lb:h.at (K0 + 2) = .row [.slice (some ⟨K0,0,some 0⟩) m 6] true none
 r:∀ k,k < m→h.at (K0 + (4 + k)) = .vec intK (vecOf intK (h.at (K0 + (4 + k)))) true∧(vecOf intK (h.at (K0 + (4 + k)))).length = n
 a:h.at (K0 + (4 + m)) = .row (rowsC' n m 4) true none
 ab:h.at (K0 + (5 + m)) = .row [.slice (some ⟨K0 + (4 + m),0,none⟩) m 1] true none
 s:h.at (K0 + (7 + m)) = .row [iv (intOf (h.at (K0 + (7 + m))))] true none
 f:h.at (K0 + (8 + m)) = .row [.bool (boolOf (h.at (K0 + (8 + m))))] true none
 v:h.at (K0 + (9 + m)) = .row [.bool (boolOf (h.at (K0 + (9 + m))))] true none
 b:h.at (K0 + (10 + m)) = .row [fn0 166] true none
 ml:h.at (K0 + (11 + m)) = .vec intK (vecOf intK (h.at (K0 + (11 + m)))) true
 mb:h.at (K0 + (12 + m)) = .row [sl1 (11 + m) m] true none
 fb:h.at (K0 + (13 + m)) = .row [cloF m] true none
theorem sh_of {m n:Nat} {h:Heap} (H:shF m n h = true):Sh m n h:=by
 unfold shF at H
 simp only [Bool.and_eq_true] at H
 obtain ⟨h1,h2,h3,h4,h5,h6,h7,h8,h9,h10,h11,h12⟩:=H
 exact ⟨isVec_eq h1,isRow_eq h2,rows_ok h3,isRow_eq h4,isRow_eq h5,isInt_eq h6,isBoo_eq h7,isBoo_eq h8,isRow_eq h9,isVec_eq h10,isRow_eq h11,isRow_eq h12⟩
theorem Sh.len {m n:Nat} {h:Heap} (S:Sh m n h):14 + m ≤ h.length:=by
 have:(h.at (K0 + (13 + m))).alive = true:=by rw [S.fb];rfl
 have:=(at_lt this).2
 omega
def adF (m:Nat):List Nat:=K0 :: (K0 + 2) :: (List.range' 4 (10 + m)).map (K0 + ·)
theorem sh2 {n:Nat} {h:Heap} (S:Sh 2 n h) {best:List Value} (hb:h.at (K0 + (6 + 2)) = .row best true none) {fd:Bool} (hf:boolOf (h.at (K0 + (8 + 2))) = fd) :
  ∀ b ∈ adF 2,h.at b = (hsF (vecOf evK (h.at K0)) 2 n (rowsR h 2 4) best (intOf (h.at (K0 + (7 + 2)))) fd (boolOf (h.at (K0 + (9 + 2)))) (vecOf intK (h.at (K0 + (11 + 2)))) []).at b:=by
 intro b hm
 simp only [adF,List.range',List.map_cons,List.map_nil,List.mem_cons,List.not_mem_nil,or_false] at hm
 subst hf
 rcases hm with rfl | rfl | rfl | rfl | rfl | rfl | rfl | rfl | rfl | rfl | rfl | rfl | rfl | rfl
 ·exact S.l
 ·exact S.lb
 ·exact (S.r 0 (by omega)).1
 ·exact (S.r 1 (by omega)).1
 ·exact S.a
 ·exact S.ab
 ·exact hb
 ·exact S.s
 ·exact S.f
 ·exact S.v
 ·exact S.b
 ·exact S.ml
 ·exact S.mb
 ·exact S.fb
end
end Go.Proofs.YtifnpljmjhnbaaaGreatDoor
namespace Go.Proofs.YtifnpljmjhnbaaaGreatDoor
open Go Go.Am
set_option maxRecDepth 100000
variable {w0:World}
noncomputable section
theorem take_at {h:Heap} {N b:Nat} (hb:b < K0 + N):Heap.at (h.take N) b = h.at b:=by
 by_cases k:K0 ≤ b
 ·rw [at_ge k,at_ge k,List.getD_eq_getElem?_getD,List.getD_eq_getElem?_getD,List.getElem?_take,if_pos (by omega)]
 ·rw [at_small k,at_small k]
theorem rdK_inv {m:Nat} {v v0:Value} {h hE:Heap} {o:AObj} (hr:rdK m v h = some (v0,hE,o)) :
  ∃ b x,v = v0∧h.at (K0 + (6 + m)) = .row [iv b,.slice (some ⟨x,1,some 0⟩) m 1] true none∧K0 + (14 + m) ≤ x∧hE = (h.put (K0 + (6 + m)) (.row [iv b] true none)).take (14 + m)∧h.at x = o:=by
 unfold rdK at hr
 split at hr
 ·rename_i b x n hb
  cases hc:(Nat.ble (K0 + (14 + m)) x && Nat.beq n m) with
  | false=>rw [hc] at hr;cases hr
  | true=>
    rw [hc] at hr
    rw [Bool.and_eq_true,Nat.ble_eq,Nat.beq_eq] at hc
    obtain ⟨h1,rfl⟩:=hc
    cases hr
    exact ⟨b,x,rfl,hb,h1,rfl,rfl⟩
 ·cases hr
theorem alive2 {L:List (Tup evK)} {n:Nat} {r0 r1:TLi} {best:List Value} {s2:Int} {fd sv:Bool} {M:TLi} {b:Nat} (h:((hsF L 2 n [r0,r1] best s2 fd sv M []).at b).alive = true):b ∈ adF 2:=by
 obtain ⟨k1,k2⟩:=at_lt h
 have k2:b < K0 + 16:=k2
 obtain ⟨j,rfl⟩:∃ j,b = K0 + j:=⟨b - K0,by omega⟩
 have hj:j < 16:=by omega
 clear k1 k2
 unfold adF
 match j,hj with
 | 0,_=>simp
 | 1,_=>cases h
 | 2,_=>simp
 | 3,_=>cases h
 | j + 4,hj=>
   refine List.mem_cons_of_mem _ (List.mem_cons_of_mem _ (List.mem_map.2 ⟨j + 4,?_,rfl⟩))
   rw [List.mem_range'_1]
   omega
theorem adF_lt {m b:Nat} (h:b ∈ adF m):K0 ≤ b∧b < K0 + (14 + m):=by
 unfold adF at h
 simp only [List.mem_cons,List.mem_map,List.mem_range'_1] at h
 rcases h with rfl | rfl | ⟨j,hj,rfl⟩ <;> omega
theorem ok2 (L:List (Tup evK)) (n:Nat) (r0 r1:TLi) (v:Int) (s2:Int) (fd sv:Bool) (M:TLi):(hsF L 2 n [r0,r1] [iv v] s2 fd sv M []).all (okO (adF 2)) = true:=by rfl
theorem okA2 (L:List (Tup evK)) (n:Nat) (r0 r1:TLi) (s2:Int) (fd sv:Bool) (M:TLi):(hsF L 2 n [r0,r1] bA s2 fd sv M []).all (okO (adF 2)) = true:=by rfl
theorem al2 (L:List (Tup evK)) (n:Nat) (r0 r1:TLi) (best:List Value) (s2:Int) (fd sv:Bool) (M:TLi):∀ b ∈ adF 2,((hsF L 2 n [r0,r1] best s2 fd sv M []).at b).alive = true:=by
 intro b hm
 simp only [adF,List.range',List.map_cons,List.map_nil,List.mem_cons,List.not_mem_nil,or_false] at hm
 rcases hm with rfl | rfl | rfl | rfl | rfl | rfl | rfl | rfl | rfl | rfl | rfl | rfl | rfl | rfl <;> rfl
theorem argOk2 (i sum:Int) (u:Us):(argF 2 i sum u).all (okA (adF 2)) = true:=by
 have:(argF 2 i sum u).all (okA (adF 2)) = (okA (adF 2) (iv i) && (okA (adF 2) (iv sum) && (okA (adF 2) (usV u) && (capsF 2).all (okA (adF 2))))):=rfl
 rw [this]
 have hu:okA (adF 2) (usV u) = true:=by
  show (u.map Value.bool).toArray.toList.all scal = true
  rw [List.all_eq_true]
  intro x hx
  simp only [List.mem_map] at hx
  obtain ⟨b,_,rfl⟩:=hx
  rfl
 rw [hu];rfl
theorem behind2 {n:Nat} {h hs':Heap} (S:Sh 2 n h) {L:List (Tup evK)} {r0 r1:TLi} {st:S5} {b:Int} {x:Nat} (hL:vecOf evK (h.at K0) = L) (h0:vecOf intK (h.at (K0 + 4)) = r0) (h1:vecOf intK (h.at (K0 + 5)) = r1)
  (hE:hsF L 2 n [r0,r1] [iv st.2.1] st.2.2.2.1 true st.2.2.2.2 st.1 [] = (hs'.put (K0 + (6 + 2)) (.row [iv b] true none)).take (14 + 2)) (hbx:hs'.at (K0 + (6 + 2)) = .row [iv b,.slice (some ⟨x,1,some 0⟩) 2 1] true none) :
  b = st.2.1∧(∀ a ∈ adF 2,a ≠ K0 + (6 + 2)→hs'.at a = (hsF L 2 n [r0,r1] [iv st.2.1] st.2.2.2.1 true st.2.2.2.2 st.1 []).at a):=by
 obtain ⟨k1,k2⟩:=at_lt (h:=hs') (b:=K0 + (6 + 2)) (by rw [hbx];rfl)
 have key:∀ a,a < K0 + (14 + 2)→(hsF L 2 n [r0,r1] [iv st.2.1] st.2.2.2.1 true st.2.2.2.2 st.1 []).at a = if a = K0 + (6 + 2) then .row [iv b] true none else hs'.at a:=fun a ha=>by
  rw [hE,take_at ha,at_put k1 k2]
 constructor
 ·have:=key (K0 + (6 + 2)) (by omega)
  rw [if_pos rfl] at this
  have e:AObj.row [iv st.2.1] true none = .row [iv b] true none:=this
  simp only [AObj.row.injEq,List.cons.injEq,and_true] at e
  have e:iv st.2.1 = iv b:=e
  unfold iv at e
  simp only [Value.int.injEq,true_and] at e
  exact e.symm
 ·intro a ha hne
  rw [key a (adF_lt ha).2,if_neg hne]
end
end Go.Proofs.YtifnpljmjhnbaaaGreatDoor
namespace Go.Proofs.YtifnpljmjhnbaaaGreatDoor
open Go Go.Am
set_option maxRecDepth 100000
variable {w0:World}
noncomputable section
theorem mem_ad {m j:Nat} (h1:4 ≤ j) (h2:j < 14 + m):K0 + j ∈ adF m:=by
 unfold adF
 refine List.mem_cons_of_mem _ (List.mem_cons_of_mem _ (List.mem_map.2 ⟨j,?_,rfl⟩))
 rw [List.mem_range'_1]
 omega
theorem out_oth {m:Nat} {h:Heap} {st:S5} (hl:14 + m ≤ h.length) {a:Nat} (h1:a ∉ adF m) (h2:a ≠ K0 + h.length):(outF m h st).at a = h.at a:=by
 have key:∀ j,4 ≤ j→j < 14 + m→a ≠ K0 + j:=fun j k1 k2 e=>h1 (e ▸ mem_ad k1 k2)
 rw [outF_at hl,if_neg h2,if_neg (key _ (by omega) (by omega)),if_neg (key _ (by omega) (by omega)),if_neg (key _ (by omega) (by omega)),if_neg (key _ (by omega) (by omega)),if_neg (key _ (by omega) (by omega))]
theorem out_lay2 {n:Nat} {h:Heap} {st:S5} (S:Sh 2 n h):∀ b ∈ adF 2,b ≠ K0 + (6 + 2)→(outF 2 h st).at b = (hsF (vecOf evK (h.at K0)) 2 n (rowsR h 2 4) [iv st.2.1] st.2.2.2.1 true st.2.2.2.2 st.1 []).at b:=by
 intro a hm hne
 have hlt:=(adF_lt hm).2
 have hl:=S.len
 rw [outF_at hl,if_neg (by omega)]
 simp only [adF,List.range',List.map_cons,List.map_nil,List.mem_cons,List.not_mem_nil,or_false] at hm
 rcases hm with rfl | rfl | rfl | rfl | rfl | rfl | rfl | rfl | rfl | rfl | rfl | rfl | rfl | rfl
 all_goals repeat (first | rw [if_pos (by omega)] | rw [if_neg (by omega)])
 ·exact S.l
 ·exact S.lb
 ·exact (S.r 0 (by omega)).1
 ·exact (S.r 1 (by omega)).1
 ·exact S.a
 ·exact S.ab
 ·exact absurd rfl hne
 ·rfl
 ·rfl
 ·rfl
 ·exact S.b
 ·rfl
 ·exact S.mb
 ·exact S.fb
theorem caseA2 {Cc:Cfg} (ok:CfgOk Cc) (sp:SpecOK Cc) (hfn:Cc.fn 167 = some (fnOf Tryz.f167)) (back:∀ {argv hs v hs'},CallI Cc 167 argv hs v hs'→CallI (cfg w0) 167 argv hs v hs') {n:Nat} {i sum:Int} {u:Us} {h:Heap} (S:Sh 2 n h)
  (hb:h.at (K0 + (6 + 2)) = .row bA true none) (hf:boolOf (h.at (K0 + (8 + 2))) = false) {st:S5} (hst:st.2.2.1.length = 2)
  (hq:qF Cc 2 n i sum u (vecOf evK (h.at K0)) (rowsR h 2 4) bA (intOf (h.at (K0 + (7 + 2)))) false (boolOf (h.at (K0 + (9 + 2)))) (vecOf intK (h.at (K0 + (11 + 2)))) [] = finF (vecOf evK (h.at K0)) 2 n (rowsR h 2 4) st) :
  CallI (cfg w0) 167 (argF 2 i sum u) h (.tuple #[]) (outF 2 h st):=by
 have hl:=S.len
 have hsh:=sh2 S hb hf
 obtain ⟨v',hs',hI,hk⟩:=q_runK ok sp hfn hq
 obtain ⟨b,x,rfl,hbx,hx,hE,hxo⟩:=rdK_inv hk
 obtain ⟨rfl,slay⟩:=behind2 S rfl rfl rfl hE hbx
 have hal:∀ b,((hsF (vecOf evK (h.at K0)) 2 n (rowsR h 2 4) bA (intOf (h.at (K0 + (7 + 2)))) false (boolOf (h.at (K0 + (9 + 2)))) (vecOf intK (h.at (K0 + (11 + 2)))) []).at b).alive = true→b ∈ adF 2:=fun b hb=>alive2 hb
 refine CallI.lay (N:=14 + 2) (β:=6 + 2) (m:=2) (ad:=adF 2) (up:=id) (bb:=none) (v:=st.2.1) (x:=0) (X:=x) (B:=st.2.2.1) ⟨⟨fun b hb'=>?_,fun b hb'=>?_,fun _ _ _ _ e=>e,fun b hb'=>?_,fun b hb' r w t ho=>?_⟩,fun b hb'=>.inl ⟨hal b hb',rfl⟩,fun b hb'=>⟨al2 _ _ _ _ _ _ _ _ _ b hb',rfl⟩,fun b hb'=>adF_lt hb',mem_ad (by omega) (by omega),hl,outF_len _ _ _,
   by rw [outF_at hl,if_pos rfl],?_,out_lay2 S,fun a h1 h2 _=>out_oth hl h1 h2,fun a e=>(by cases e),hx,hxo,hbx,slay,fun b hb' _=>al2 _ _ _ _ _ _ _ _ _ b hb',ok2 _ _ _ _ _ _ _ _ _,by omega⟩ (argOk2 i sum u) (.inr rfl) (back hI)
 ·show (h.at b).alive = true
  rw [hsh b (hal b hb')];exact hb'
 ·show (h.at b).owned = true
  rw [hsh b (hal b (AObj.alive_of_owned hb'))];exact hb'
 ·show (h.at b).mate = none
  rw [hsh b (hal b hb')]
  exact okO_mate (okH_at (okA2 _ _ _ _ _ _ _ _) b)
 ·have ho:ObjR r w t (h.at b):=ho
  rw [hsh b (hal b hb')] at ho
  refine okO_objR (ad:=adF 2) (fun a ha=>?_) (okH_at (okA2 _ _ _ _ _ _ _ _) b) ho
  exact if_pos (al2 _ _ (vecOf intK (h.at (K0 + 4))) (vecOf intK (h.at (K0 + 5))) _ _ _ _ _ a ha)
 ·rw [outF_at hl]
  repeat (first | rw [if_pos (by omega)] | rw [if_neg (by omega)])
end
end Go.Proofs.YtifnpljmjhnbaaaGreatDoor
namespace Go.Proofs.YtifnpljmjhnbaaaGreatDoor
open Go Go.Am
set_option maxRecDepth 100000
variable {w0:World}
noncomputable section
theorem hs_at2 {L:List (Tup evK)} {n:Nat} {r0 r1:TLi} {best best':List Value} {s2:Int} {fd sv:Bool} {M:TLi} {tl tl':Heap}:∀ b ∈ adF 2,b ≠ K0 + (6 + 2)→(hsF L 2 n [r0,r1] best s2 fd sv M tl).at b = (hsF L 2 n [r0,r1] best' s2 fd sv M tl').at b:=by
 intro b hm hne
 simp only [adF,List.range',List.map_cons,List.map_nil,List.mem_cons,List.not_mem_nil,or_false] at hm
 rcases hm with rfl | rfl | rfl | rfl | rfl | rfl | rfl | rfl | rfl | rfl | rfl | rfl | rfl | rfl
 case inr.inr.inr.inr.inr.inr.inl=>exact absurd rfl hne
 all_goals rfl
theorem alive2B {L:List (Tup evK)} {n:Nat} {r0 r1:TLi} {best:List Value} {s2:Int} {fd sv:Bool} {M B:TLi} {b:Nat} (h:((hsF L 2 n [r0,r1] best s2 fd sv M [.vec intK B true]).at b).alive = true):b ∈ adF 2 ∨ b = K0 + (14 + 2):=by
 obtain ⟨k1,k2⟩:=at_lt h
 have k2:b < K0 + 17:=k2
 obtain ⟨j,rfl⟩:∃ j,b = K0 + j:=⟨b - K0,by omega⟩
 have hj:j < 17:=by omega
 clear k1 k2
 match j,hj with
 | 0,_=>exact .inl (by simp [adF])
 | 1,_=>cases h
 | 2,_=>exact .inl (by simp [adF])
 | 3,_=>cases h
 | j + 4,hj=>
   by_cases e:j + 4 = 16
   ·right;omega
   ·exact .inl (mem_ad (by omega) (by omega))
theorem okB2 (L:List (Tup evK)) (n:Nat) (r0 r1:TLi) (v s2:Int) (fd sv:Bool) (M B:TLi):(hsF L 2 n [r0,r1] (bB 2 v (14 + 2)) s2 fd sv M [.vec intK B true]).all (okO ((K0 + (14 + 2)) :: adF 2)) = true:=by rfl
theorem alB2 (L:List (Tup evK)) (n:Nat) (r0 r1:TLi) (best:List Value) (s2:Int) (fd sv:Bool) (M B:TLi):∀ b ∈ adF 2,((hsF L 2 n [r0,r1] best s2 fd sv M [.vec intK B true]).at b).alive = true:=by
 intro b hm
 simp only [adF,List.range',List.map_cons,List.map_nil,List.mem_cons,List.not_mem_nil,or_false] at hm
 rcases hm with rfl | rfl | rfl | rfl | rfl | rfl | rfl | rfl | rfl | rfl | rfl | rfl | rfl | rfl <;> rfl
theorem Sh.put2 {n:Nat} {h:Heap} (S:Sh 2 n h) {bb:Nat} {o:AObj} (hb:K0 + (14 + 2) ≤ bb) (hl:bb < K0 + h.length):Sh 2 n (h.put bb o):=by
 have hat:∀ a,a < K0 + (14 + 2)→(h.put bb o).at a = h.at a:=fun a ha=>by rw [at_put (by omega) hl,if_neg (by omega)]
 refine ⟨?_,?_,fun k hk=>?_,?_,?_,?_,?_,?_,?_,?_,?_,?_⟩ <;> rw [hat _ (by omega)]
 ·exact S.l
 ·exact S.lb
 ·exact S.r k hk
 ·exact S.a
 ·exact S.ab
 ·exact S.s
 ·exact S.f
 ·exact S.v
 ·exact S.b
 ·exact S.ml
 ·exact S.mb
 ·exact S.fb
theorem caseB2 {Cc:Cfg} (ok:CfgOk Cc) (sp:SpecOK Cc) (hfn:Cc.fn 167 = some (fnOf Tryz.f167)) (back:∀ {argv hs v hs'},CallI Cc 167 argv hs v hs'→CallI (cfg w0) 167 argv hs v hs') {n:Nat} {i sum v:Int} {u:Us} {h:Heap} (S:Sh 2 n h) {bb:Nat} {B:TLi}
  (hb:h.at (K0 + (6 + 2)) = .row [iv v,.slice (some ⟨bb,1,some 0⟩) 2 1] true none) (hf:boolOf (h.at (K0 + (8 + 2))) = true) (hbb:K0 + (14 + 2) ≤ bb) (hB:h.at bb = .vec intK B true) (hBl:B.length = 2) {st:S5} (hst:st.2.2.1.length = 2)
  (hq:qF Cc 2 n i sum u (vecOf evK (h.at K0)) (rowsR h 2 4) (bB 2 v (14 + 2)) (intOf (h.at (K0 + (7 + 2)))) true (boolOf (h.at (K0 + (9 + 2)))) (vecOf intK (h.at (K0 + (11 + 2)))) [.vec intK B true] = finF (vecOf evK (h.at K0)) 2 n (rowsR h 2 4) st) :
  CallI (cfg w0) 167 (argF 2 i sum u) h (.tuple #[]) (outF 2 (h.put bb .dead) st):=by
 have hbl:=(at_lt (h:=h) (b:=bb) (by rw [hB];rfl)).2
 have hat:∀ a,a < K0 + (14 + 2)→(h.put bb .dead).at a = h.at a:=fun a ha=>by rw [at_put (by omega) hbl,if_neg (by omega)]
 have S2:Sh 2 n (h.put bb .dead):=S.put2 hbb hbl
 have hl:=S2.len
 have hlen:(h.put bb .dead).length = h.length:=put_length ..
 have hsh:=sh2 S hb hf
 obtain ⟨v',hs',hI,hk⟩:=q_runK ok sp hfn hq
 obtain ⟨b,x,rfl,hbx,hx,hE,hxo⟩:=rdK_inv hk
 obtain ⟨rfl,slay⟩:=behind2 S rfl rfl rfl hE hbx
 have hlay:=out_lay2 (st:=st) S2
 simp only [hat K0 (by omega),show rowsR (h.put bb .dead) 2 4 = rowsR h 2 4 from by
  show [vecOf intK ((h.put bb .dead).at (K0 + 4)),vecOf intK ((h.put bb .dead).at (K0 + 5))] = [vecOf intK (h.at (K0 + 4)),vecOf intK (h.at (K0 + 5))]
  rw [hat _ (by omega),hat _ (by omega)]] at hlay
 let up:Nat→Nat:=fun b=>if b = K0 + (14 + 2) then bb else b
 have upb:up (K0 + (14 + 2)) = bb:=if_pos rfl
 have upa:∀ b ∈ adF 2,up b = b:=fun b hb'=>if_neg (by have:=(adF_lt hb').2;omega)
 have hal:∀ b,((hsF (vecOf evK (h.at K0)) 2 n (rowsR h 2 4) (bB 2 v (14 + 2)) (intOf (h.at (K0 + (7 + 2)))) true (boolOf (h.at (K0 + (9 + 2)))) (vecOf intK (h.at (K0 + (11 + 2)))) [.vec intK B true]).at b).alive = true→b ∈ adF 2 ∨ b = K0 + (14 + 2):=fun b hb=>alive2B hb
 have same:∀ b ∈ adF 2,b ≠ K0 + (6 + 2)→h.at b = (hsF (vecOf evK (h.at K0)) 2 n (rowsR h 2 4) (bB 2 v (14 + 2)) (intOf (h.at (K0 + (7 + 2)))) true (boolOf (h.at (K0 + (9 + 2)))) (vecOf intK (h.at (K0 + (11 + 2)))) [.vec intK B true]).at b:=fun b hb' hne=>(hsh b hb').trans (hs_at2 b hb' hne)
 refine CallI.lay (N:=14 + 2) (β:=6 + 2) (m:=2) (ad:=adF 2) (up:=up) (bb:=some bb) (v:=st.2.1) (x:=0) (X:=x) (B:=st.2.2.1) (hE:=hsF (vecOf evK (h.at K0)) 2 n (rowsR h 2 4) [iv st.2.1] st.2.2.2.1 true st.2.2.2.2 st.1 []) ⟨⟨fun b hb'=>?_,fun b hb'=>?_,fun b b' h1 h2 e=>?_,fun b hb'=>?_,fun b hb' r w t ho=>?_⟩,fun b hb'=>?_,fun b hb'=>⟨alB2 _ _ _ _ _ _ _ _ _ _ b hb',upa b hb'⟩,fun b hb'=>adF_lt hb',mem_ad (by omega) (by omega),by rw [← hlen];exact hl,by rw [outF_len,hlen],
   by rw [outF_at hl,hlen,if_pos rfl],?_,hlay,fun a h1 h2 h3=>?_,fun a e=>?_,hx,hxo,hbx,slay,fun b hb' _=>al2 _ _ _ _ _ _ _ _ _ b hb',ok2 _ _ _ _ _ _ _ _ _,by omega⟩ (argOk2 i sum u) (.inr rfl) (back hI)
 ·rcases hal b hb' with k | rfl
  ·rw [upa b k]
   by_cases e:b = K0 + (6 + 2)
   ·rw [e,hb];rfl
   ·rw [same b k e];exact hb'
  ·rw [upb,hB];rfl
 ·rcases hal b (AObj.alive_of_owned hb') with k | rfl
  ·rw [upa b k]
   by_cases e:b = K0 + (6 + 2)
   ·rw [e,hb];rfl
   ·rw [same b k e];exact hb'
  ·rw [upb,hB]
   show (true && Nat.blt 0 B.length) = true
   rw [hBl];rfl
 ·rcases hal b h1 with k | rfl <;> rcases hal b' h2 with k' | rfl
  ·rw [upa b k,upa b' k'] at e;exact e
  ·rw [upa b k,upb] at e;have:=(adF_lt k).2;omega
  ·rw [upb,upa b' k'] at e;have:=(adF_lt k').2;omega
  ·rfl
 ·rcases hal b hb' with k | rfl
  ·rw [upa b k]
   by_cases e:b = K0 + (6 + 2)
   ·rw [e,hb];rfl
   ·rw [same b k e];exact okO_mate (okH_at (okB2 _ _ _ _ _ _ _ _ _ _) b)
  ·rw [upb,hB];rfl
 ·have smA:∀ a ∈ adF 2,sm' (hsF (vecOf evK (h.at K0)) 2 n (rowsR h 2 4) (bB 2 v (14 + 2)) (intOf (h.at (K0 + (7 + 2)))) true (boolOf (h.at (K0 + (9 + 2)))) (vecOf intK (h.at (K0 + (11 + 2)))) [.vec intK B true]) up r a = r a:=fun a ha=>by
   have:=upa a ha
   exact (if_pos (alB2 _ _ (vecOf intK (h.at (K0 + 4))) (vecOf intK (h.at (K0 + 5))) _ _ _ _ _ _ a ha)).trans (by rw [this])
  have smB:sm' (hsF (vecOf evK (h.at K0)) 2 n (rowsR h 2 4) (bB 2 v (14 + 2)) (intOf (h.at (K0 + (7 + 2)))) true (boolOf (h.at (K0 + (9 + 2)))) (vecOf intK (h.at (K0 + (11 + 2)))) [.vec intK B true]) up r (K0 + (14 + 2)) = r bb:=(if_pos rfl).trans (by rw [upb])
  rcases hal b hb' with k | rfl
  ·rw [upa b k] at ho
   by_cases e:b = K0 + (6 + 2)
   ·subst e
    rw [hb] at ho
    refine objR_row (cells':=bB 2 v (14 + 2)) ho rfl fun j c' hj=>?_
    match j,hj with
    | 0,hj=>cases hj;exact ⟨_,rfl,fun u hu=>by rw [hu.scal_eq rfl];exact .scal _ rfl⟩
    | 1,hj=>cases hj;exact ⟨_,rfl,fun u hu=>vr_asl smB (by omega) hu⟩
    | j + 2,hj=>simp [bB] at hj
   ·have e2:=hs_at2 (L:=vecOf evK (h.at K0)) (n:=n) (r0:=vecOf intK (h.at (K0 + 4))) (r1:=vecOf intK (h.at (K0 + 5))) (best:=bB 2 v (14 + 2)) (best':=bA) (s2:=intOf (h.at (K0 + (7 + 2)))) (fd:=true) (sv:=boolOf (h.at (K0 + (9 + 2)))) (M:=vecOf intK (h.at (K0 + (11 + 2)))) (tl:=[.vec intK B true]) (tl':=[]) b k e
    rw [same b k e] at ho
    refine okO_objR (ad:=adF 2) smA ?_ ho
    exact (congrArg (okO (adF 2)) e2).trans (okH_at (okA2 _ _ _ _ _ _ _ _) b)
  ·rw [upb,hB] at ho
   exact ho
 ·rcases hal b hb' with k | rfl
  ·exact .inl ⟨k,upa b k⟩
  ·exact .inr (by rw [upb])
 ·rw [outF_at hl,hlen]
  repeat (first | rw [if_pos (by omega)] | rw [if_neg (by omega)])
 ·rw [out_oth hl h1 (by rw [hlen];exact h2),at_put (by omega) hbl,if_neg (fun e=>h3 (by rw [e]))]
 ·cases e
  have:bb ∉ adF 2:=fun hm=>by have:=(adF_lt hm).2;omega
  rw [out_oth hl this (by rw [hlen];omega),at_put (by omega) hbl,if_pos rfl]
  rfl
end
end Go.Proofs.YtifnpljmjhnbaaaGreatDoor
namespace Go.Proofs.YtifnpljmjhnbaaaGreatDoor
open Go Go.Am
set_option maxRecDepth 100000
variable {w0:World}
noncomputable section
theorem br_runH {α:Type} {b:Bool} {x:FT α} {d:α} (h:(FT.br b x .bad).run = some d):b = true∧x.run = some d:=by
 cases b with
 | true=>exact ⟨rfl,h⟩
 | false=>cases h
theorem gdF2 {Cc:Cfg} (ok:CfgOk Cc) (sp:SpecOK Cc) (hfn:Cc.fn 167 = some (fnOf Tryz.f167)) (back:∀ {argv hs v hs'},CallI Cc 167 argv hs v hs'→CallI (cfg w0) 167 argv hs v hs') {n:Nat} {i:Int} {GA:GAf} {GB:GBf}
  (hA:∀ (L:List (Tup evK)) (r0 r1 M:TLi) (sum s2:Int) (sv:Bool) (u:Us),u.length = 8→r0.length = n→r1.length = n→M.length = 2 →
   qF Cc 2 n i sum u L [r0,r1] bA s2 false sv M [] = finF L 2 n [r0,r1] (GA [r0,r1] sum u M s2 sv)∧(GA [r0,r1] sum u M s2 sv).2.2.1.length = 2)
  (hB:∀ (L:List (Tup evK)) (r0 r1 M B:TLi) (sum s2 v:Int) (sv:Bool) (u:Us),u.length = 8→r0.length = n→r1.length = n→M.length = 2→B.length = 2 →
   qF Cc 2 n i sum u L [r0,r1] (bB 2 v (14 + 2)) s2 true sv M [.vec intK B true] = finF L 2 n [r0,r1] (GB [r0,r1] sum u (M,v,B,s2,sv))∧(GB [r0,r1] sum u (M,v,B,s2,sv)).2.2.1.length = 2) :
  GdH (cfg w0) (167,frF 2 n i GA GB):=fun argv h v h' hd=>by
 replace hd:(frF 2 n i GA GB argv h).run = some (v,h'):=hd
 unfold frF at hd
 split at hd
 ·rename_i j sum us caps
  obtain ⟨hg,hd1⟩:=br_runH hd
  clear hd
  obtain ⟨hM,hd2⟩:=br_runH hd1
  clear hd1
  simp only [Bool.and_eq_true] at hg
  obtain ⟨g1,g2,g3,g4,g5⟩:=hg
  have S:=sh_of g5
  have ej:j = i:=of_decide_eq_true g1
  subst ej
  have ec:=eqPs_eq g2
  subst ec
  have eu:=isBo_eq g3
  have hM:=Nat.eq_of_beq_eq_true hM
  have hargs:(Value.int .i64 j :: Value.int .i64 sum :: Value.agg us :: capsF 2) = argF 2 j sum (us.toList.map boV):=by
   unfold argF usV
   rw [← eu]
   rfl
  have hu8:(us.toList.map boV).length = 8:=by rw [List.length_map];exact Nat.eq_of_beq_eq_true g4
  rw [hargs]
  cases ha:(isBA (h.at (K0 + (6 + 2))) && !boolOf (h.at (K0 + (8 + 2)))) with
  | true=>
    rw [ha] at hd2
    cases hd2
    rw [Bool.and_eq_true,Bool.not_eq_true'] at ha
    obtain ⟨q1,q2⟩:=hA (vecOf evK (h.at K0)) (vecOf intK (h.at (K0 + 4))) (vecOf intK (h.at (K0 + 5))) (vecOf intK (h.at (K0 + (11 + 2)))) sum (intOf (h.at (K0 + (7 + 2)))) (boolOf (h.at (K0 + (9 + 2)))) (us.toList.map boV) hu8 (S.r 0 (by omega)).2 (S.r 1 (by omega)).2 hM
    exact caseA2 ok sp hfn back S (isBA_eq ha.1) ha.2 q2 q1
  | false=>
    rw [ha] at hd2
    obtain ⟨hg2,hd3⟩:=br_runH hd2
    clear hd2
    obtain ⟨hBl,hd4⟩:=br_runH hd3
    clear hd3
    cases hd4
    simp only [Bool.and_eq_true] at hg2
    obtain ⟨k1,k2,k3,k4⟩:=hg2
    have hBl:=Nat.eq_of_beq_eq_true hBl
    obtain ⟨q1,q2⟩:=hB (vecOf evK (h.at K0)) (vecOf intK (h.at (K0 + 4))) (vecOf intK (h.at (K0 + 5))) (vecOf intK (h.at (K0 + (11 + 2)))) (vecOf intK (h.at (bbX (h.at (K0 + (6 + 2)))))) sum (intOf (h.at (K0 + (7 + 2)))) (bbV (h.at (K0 + (6 + 2)))) (boolOf (h.at (K0 + (9 + 2)))) (us.toList.map boV) hu8 (S.r 0 (by omega)).2 (S.r 1 (by omega)).2 hM hBl
    exact caseB2 ok sp hfn back S (isBB_eq k1) k2 (Nat.le_of_ble_eq_true k3) (isVec_eq k4) hBl q2 q1
 ·cases hd
end
end Go.Proofs.YtifnpljmjhnbaaaGreatDoor
namespace Go.Proofs.YtifnpljmjhnbaaaGreatDoor
open Go Go.Am
set_option maxRecDepth 100000
variable {w0:World}
noncomputable section
section
variable (i:Nat) (GA:GAf) (GB:GBf) (rows:List TLi) (sum:Int) (u:Us)
def lpPB:List (Nat × Tup intK)→S5→S5
 | [],st=>GB rows sum u (stM i st.1 (-1),st.2)
 | (k,v) :: r,st=>bif i1 v == -1 then lpPB r st else bif u.getD k false then lpPB r st else lpPB r (GB rows (IntKind.i64.wrap (sum + i1 v)) (u.set k true) (stM i st.1 k,st.2))
def lpPA:List (Nat × Tup intK)→TLi→Int→Bool→S5
 | [],M,s2,sv=>GA rows sum u (stM i M (-1)) s2 sv
 | (k,v) :: r,M,s2,sv=>bif i1 v == -1 then lpPA r M s2 sv else bif u.getD k false then lpPA r M s2 sv else lpPB i GB rows sum u r (GA rows (IntKind.i64.wrap (sum + i1 v)) (u.set k true) (stM i M k) s2 sv)
end
def okL (m:Nat) (st:S5):Prop:=st.1.length = m∧st.2.2.1.length = m
theorem stM_len (i:Nat) (M:TLi) (k:Int):(stM i M k).length = M.length:=List.length_set ..
theorem beq_t {a b:Nat} (h:a = b):Nat.beq a b = true:=by rw [Nat.beq_eq];exact h
variable {m i:Nat} {GA:GAf} {GB:GBf} {rows:List TLi} {sum:Int} {u:Us} {fin:S5→Option R7}
theorem lpB_eq (hGB:∀ (sum:Int) (u:Us) (st:S5),okL m st→okL m (GB rows sum u st)):∀ (l:List (Nat × Tup intK)) (st:S5),okL m st→lpB m i GB rows sum u (endB m i GB rows sum u fin) l st = fin (lpPB i GB rows sum u l st)∧okL m (lpPB i GB rows sum u l st)
 | [],st,h=>by
   have h1:okL m (stM i st.1 (-1),st.2):=⟨by rw [stM_len];exact h.1,h.2⟩
   refine ⟨?_,hGB _ _ _ h1⟩
   unfold lpB endB gR lpPB
   rw [beq_t h1.1,beq_t h1.2];rfl
 | (k,v) :: r,st,h=>by
   have h1:okL m (stM i st.1 k,st.2):=⟨by rw [stM_len];exact h.1,h.2⟩
   unfold lpB lpPB
   cases (i1 v == -1) with
   | true=>exact lpB_eq hGB r st h
   | false=>
     cases u.getD k false with
     | true=>exact lpB_eq hGB r st h
     | false=>
       simp only [cond_false]
       unfold gR
       rw [beq_t h1.1,beq_t h1.2]
       exact lpB_eq hGB r _ (hGB _ _ _ h1)
theorem lpA_eq (hGA:∀ (sum:Int) (u:Us) (M:TLi) (s2:Int) (sv:Bool),M.length = m→okL m (GA rows sum u M s2 sv)) (hGB:∀ (sum:Int) (u:Us) (st:S5),okL m st→okL m (GB rows sum u st)) :
  ∀ (l:List (Nat × Tup intK)) (M:TLi) (s2:Int) (sv:Bool),M.length = m→lpA m i GA GB rows sum u (endA m i GA rows sum u fin) (endB m i GB rows sum u fin) l M s2 sv = fin (lpPA i GA GB rows sum u l M s2 sv)∧okL m (lpPA i GA GB rows sum u l M s2 sv)
 | [],M,s2,sv,h=>by
   have h1:(stM i M (-1)).length = m:=by rw [stM_len];exact h
   refine ⟨?_,hGA _ _ _ _ _ h1⟩
   unfold lpA endA gR lpPA
   rw [beq_t h1];rfl
 | (k,v) :: r,M,s2,sv,h=>by
   have h1:(stM i M k).length = m:=by rw [stM_len];exact h
   unfold lpA lpPA
   cases (i1 v == -1) with
   | true=>exact lpA_eq hGA hGB r M s2 sv h
   | false=>
     cases u.getD k false with
     | true=>exact lpA_eq hGA hGB r M s2 sv h
     | false=>
       simp only [cond_false]
       unfold gR
       rw [beq_t h1]
       exact lpB_eq hGB r _ (hGA _ _ _ _ _ h1)
def endPB (sum:Int) (st:S5):S5:=bif decide (cmpV sum st.1 st.2.1 st.2.2.1 < 0) then (st.1,sum,st.1,mxI st.2.1 st.2.2.2.1,true) else (st.1,st.2.1,st.2.2.1,mxI sum st.2.2.2.1,true)
def sB:Nat→Nat→GBf
 | 0,_=>fun _ sum _ st=>endPB sum st
 | d + 1,i=>fun rows sum u st=>lpPB i (sB d (i + 1)) rows sum u (enum 0 (rows.getD i [])) st
def sA:Nat→Nat→GAf
 | 0,_=>fun _ sum _ M s2 sv=>(M,sum,M,s2,sv)
 | d + 1,i=>fun rows sum u M s2 sv=>lpPA i (sA d (i + 1)) (sB d (i + 1)) rows sum u (enum 0 (rows.getD i [])) M s2 sv
theorem sB_ok {m:Nat} {rows:List TLi}:∀ (d i:Nat) (sum:Int) (u:Us) (st:S5),okL m st→okL m (sB d i rows sum u st)
 | 0,i,sum,u,st,h=>by
   show okL m (endPB sum st)
   unfold endPB
   cases decide (cmpV sum st.1 st.2.1 st.2.2.1 < 0) with
   | true=>exact ⟨h.1,h.1⟩
   | false=>exact h
 | d + 1,i,sum,u,st,h=>(lpB_eq (fin:=fun _=>none) (sB_ok d (i + 1)) _ st h).2
theorem sA_ok {m:Nat} {rows:List TLi}:∀ (d i:Nat) (sum:Int) (u:Us) (M:TLi) (s2:Int) (sv:Bool),M.length = m→okL m (sA d i rows sum u M s2 sv)
 | 0,i,sum,u,M,s2,sv,h=>⟨h,h⟩
 | d + 1,i,sum,u,M,s2,sv,h=>(lpA_eq (fin:=fun _=>none) (sA_ok d (i + 1)) (sB_ok d (i + 1)) _ M s2 sv h).2
end
end Go.Proofs.YtifnpljmjhnbaaaGreatDoor
namespace Go.Proofs.YtifnpljmjhnbaaaGreatDoor
open Go Go.Am
set_option maxRecDepth 100000
variable {w0:World}
noncomputable section
theorem leafA_eq {m:Nat} (hm:0 < m) (hm4:m ≤ 4) {sum:Int} {fin:S5→Option R7} {M:TLi} {s2:Int} {sv:Bool} (h:M.length = m):leafA m sum fin M s2 sv = fin (M,sum,M,s2,sv):=by
 have h1:Nat.blt 0 M.length = true:=by rw [Nat.blt_eq];omega
 have h2:sm M = true:=(Nat.ble_eq ..).mpr (by omega)
 unfold leafA gR
 rw [h1,h2,beq_t h];rfl
theorem leafB_eq {m:Nat} (hm:0 < m) (hm4:m ≤ 4) {sum:Int} {fin:S5→Option R7} {st:S5} (h:okL m st):leafB m sum fin st = fin (endPB sum st):=by
 obtain ⟨ha,hb⟩:=h
 have h1:Nat.blt 0 st.1.length = true:=by rw [Nat.blt_eq];omega
 have h2:sm st.1 = true:=(Nat.ble_eq ..).mpr (by omega)
 have h3:sm st.2.2.1 = true:=(Nat.ble_eq ..).mpr (by omega)
 unfold leafB gR endPB
 rw [h1,h2,h3,beq_t ha]
 cases decide (cmpV sum st.1 st.2.1 st.2.2.1 < 0) <;> rfl
theorem fr2_2 (h0:Lib0 w0) (n:Nat):GdH (cfg w0) (167,frF 2 n 2 (sA 0 2) (sB 0 2)):=
 gdF2 (Cc:=(cfg w0).at [c166,c168]) (at_ok (cfg_ok w0) _) (at_sp h0 ⟨gd166 h0,gd168 h0,trivial⟩) rfl (fun h=>CallI.sy.1 h)
  (fun L r0 r1 M sum s2 sv u hu h1 h2 hM=>⟨u_eight (P:=fun u=>qF ((cfg w0).at [c166,c168]) 2 n 2 sum u L [r0,r1] bA s2 false sv M [] = finF L 2 n [r0,r1] (sA 0 2 [r0,r1] sum u M s2 sv)) (fun u0 u1 u2 u3 u4 u5 u6 u7=>(leaf2A n L r0 r1 M sum s2 sv u0 u1 u2 u3 u4 u5 u6 u7).trans (leafA_eq (by omega) (by omega) hM)) u hu,(sA_ok (m:=2) 0 2 sum u M s2 sv hM).2⟩)
  (fun L r0 r1 M B sum s2 v sv u hu h1 h2 hM hB=>⟨u_eight (P:=fun u=>qF ((cfg w0).at [c166,c168]) 2 n 2 sum u L [r0,r1] (bB 2 v (14 + 2)) s2 true sv M [.vec intK B true] = finF L 2 n [r0,r1] (sB 0 2 [r0,r1] sum u (M,v,B,s2,sv))) (fun u0 u1 u2 u3 u4 u5 u6 u7=>(leaf2B n L r0 r1 M B sum s2 v sv u0 u1 u2 u3 u4 u5 u6 u7).trans (leafB_eq (by omega) (by omega) ⟨hM,hB⟩)) u hu,(sB_ok (m:=2) 0 2 sum u (M,v,B,s2,sv) ⟨hM,hB⟩).2⟩)
theorem stp2 (h0:Lib0 w0) {n d i:Nat} (hn:GdH (cfg w0) (167,frF 2 n ((i + 1:Nat):Int) (sA d (i + 1)) (sB d (i + 1)))) (rA:RnA w0 2 n i) (rB:RnB w0 2 n i):GdH (cfg w0) (167,frF 2 n (i:Int) (sA (d + 1) i) (sB (d + 1) i)):=
 gdF2 (Cc:=((cgG w0 2 n (i + 1) (sA d (i + 1)) (sB d (i + 1))).at [c166,c168])) (at_ok (Cfg.onH_ok (cfg_ok w0) _) _) (at_sp (specs_onH h0 (hs:=[(167,frF 2 n ((i + 1:Nat):Int) (sA d (i + 1)) (sB d (i + 1)))]) ⟨hn,trivial⟩) (Gds.onH (C:=cfg w0) ⟨gd166 h0,gd168 h0,trivial⟩)) rfl (fun h=>CallI.sy.1 h)
  (fun L r0 r1 M sum s2 sv u hu h1 h2 hM=>⟨(rA _ _ L [r0,r1] M sum s2 sv u hu rfl (by simp [h1,h2])).trans (lpA_eq (sA_ok d (i + 1)) (sB_ok d (i + 1)) _ M s2 sv hM).1,(sA_ok (m:=2) (d + 1) i sum u M s2 sv hM).2⟩)
  (fun L r0 r1 M B sum s2 v sv u hu h1 h2 hM hB=>⟨(rB _ _ L [r0,r1] M B sum s2 v sv u hu rfl (by simp [h1,h2])).trans (lpB_eq (sB_ok d (i + 1)) _ _ ⟨hM,hB⟩).1,(sB_ok (m:=2) (d + 1) i sum u (M,v,B,s2,sv) ⟨hM,hB⟩).2⟩)
end
end Go.Proofs.YtifnpljmjhnbaaaGreatDoor
