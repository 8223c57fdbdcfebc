/-
 A part of the proof of the statement that the claim names: see the last file.
-/
import Derived.Test.YtifnpljmjhnbaaaGreatDoorD2
import Derived.Test.YtifnpljmjhnbaaaGreatDoorS5
namespace Go.Proofs.YtifnpljmjhnbaaaGreatDoor
open Go Go.Am
set_option maxRecDepth 100000
variable {w0:World}
noncomputable section
theorem chkEv_one {l:List (Tup evK)} (h:chkEv l = 0):∀ e ∈ l,chkEv [e] = 0:=by
 intro e he
 obtain ⟨j,hj,rfl⟩:=List.getElem_of_mem he
 have hl:=ev_len h
 unfold chkEv at h
 rw [decide_eq_false (by omega)] at h
 have hz:=chkI_zero l _ 0 h j (by omega) (by omega)
 have hn:nth l j = l[j]:=by simp [nth,hj]
 unfold errI at hz
 obtain ⟨h1,hz⟩:=first_zero hz
 cases ho:ovl l j with
 | true=>rw [ho] at hz;cases hz
 | false=>
   rw [ho] at hz
   have hz:r5 (nth l j) = 0:=hz
   rw [hn] at h1 hz
   show (bif errI [l[j]] 0 != 0 then errI [l[j]] 0 else 0) = 0
   have e0:errI [l[j]] 0 = 0:=by
    unfold errI
    show (bif spanE l[j] != 0 then spanE l[j] else bif ovl [l[j]] 0 then 15 else r5 l[j]) = 0
    rw [h1,show ovl [l[j]] 0 = false from rfl]
    exact hz
   rw [e0];rfl
theorem chkFrom_one:∀ (p:List (Tup paK)) (seen:List ByteArray),chkFrom seen p = 0→∀ q ∈ p,chkFrom [] [q] = 0
 | [],_,_,q,hq=>by cases hq
 | w :: ws,seen,h,q,hq=>by
   unfold chkFrom at h
   obtain ⟨h1,h2⟩:=first_zero h
   rcases List.mem_cons.1 hq with rfl | hq
   ·have e:chkE [] q = 0:=by
     unfold chkE at h1 ⊢
     obtain ⟨h3,h4⟩:=first_zero h1
     rw [h3]
     cases ha:(seen.any fun s=>pn q == s) with
     | true=>rw [ha] at h4;cases h4
     | false=>rw [ha] at h4;exact h4
    unfold chkFrom
    rw [e];rfl
   ·exact chkFrom_one ws _ h2 q hq
theorem chkPa_one {p:List (Tup paK)} (h:chkPa p = 0):∀ q ∈ p,chkPa [q] = 0:=by
 have hl:=pa_len h
 unfold chkPa at h
 rw [decide_eq_false (by omega)] at h
 intro q hq
 exact chkFrom_one p [] h q hq
theorem val_vld {l:List (Tup evK)} {p:List (Tup paK)} {s:Int} (h:allZ l p s = 0) {e:Tup evK} {q:Tup paK} (he:e ∈ l) (hq:q ∈ p):val55 e q s = val58 e q s:=by
 have hne:(allZ l p s != 0) = false:=by rw [h];rfl
 obtain ⟨a,b,c⟩:=allZ_ok hne
 exact val_eq (allZ_of (chkEv_one a e he) (chkPa_one b q hq) c)
theorem fold_inv {α:Type} {h:Nat→α→α} {I:Nat→α→Prop} {a0:α}:∀ n:Nat,I 0 a0→(∀ j a,j < n→I j a→I (j + 1) (h j a))→I n ((List.range' 0 n).foldl (fun a j=>h j a) a0)
 | 0,h0,_=>h0
 | n + 1,h0,hs=>by
   rw [List.range'_1_concat,List.foldl_append]
   have:=hs n _ (by omega) (fold_inv n h0 fun j a hj=>hs j a (by omega))
   simpa using this
theorem cM_all {p:List (Tup paK)} {s:Int}:∀ (es:List (Tup evK)) (suf pre:TLi) (sum o:Int),suf.length = es.length→cM p s (es.zip suf) pre sum = (o,0)→∀ j:Nat,j < es.length→eM p s (nth es j) (i1 (nth suf j)) (pre++suf.take j) = 0
 | [],suf,pre,sum,o,hl,h,j,hj=>by simp at hj
 | e :: es,[],pre,sum,o,hl,h,j,hj=>by simp at hl
 | e :: es,y :: suf,pre,sum,o,hl,h,j,hj=>by
   rw [List.zip_cons_cons] at h
   obtain ⟨h1,h2⟩:=cM_step.1 h
   cases j with
   | zero=>simpa [nth] using h1
   | succ j=>
     have:=cM_all es suf (pre++[y]) _ o (by simpa using hl) h2 j (by simpa using hj)
     simpa [nth] using this
theorem unkL_mem:∀ (rs:List TLi) (i0 u:Int),u ∈ unkL rs i0→∃ n:Nat,u = i0 + n∧n < rs.length∧(rs.getD n []).any isV = false
 | [],i0,u,h=>by cases h
 | r :: rs,i0,u,h=>by
   unfold unkL at h
   cases hr:r.any isV with
   | true=>
     rw [hr] at h
     obtain ⟨n,h1,h2,h3⟩:=unkL_mem rs (i0 + 1) u h
     exact ⟨n + 1,by omega,by simp;omega,by simpa using h3⟩
   | false=>
     rw [hr] at h
     rcases List.mem_cons.1 h with h | h
     ·exact ⟨0,by omega,by simp,by simpa using hr⟩
     ·obtain ⟨n,h1,h2,h3⟩:=unkL_mem rs (i0 + 1) u h
      exact ⟨n + 1,by omega,by simp;omega,by simpa using h3⟩
theorem unk_not {l:List (Tup evK)} {p:List (Tup paK)} {s:Int} (G:Vld l p s) (hz:allZ l p s = 0) {j k:Nat} (hj:j < l.length) (hk:k < p.length) (hv:(val58 (nth l j) (nth p k) s).2 = 0):((unk l p s).1.any fun x=>i1 x == (j:Int)) = false:=by
 have hne:(allZ l p s != 0) = false:=by rw [hz];rfl
 unfold unk
 rw [hne,List.any_eq_false]
 intro x hx
 simp only [cond_false,List.mem_map] at hx
 obtain ⟨u,hu,rfl⟩:=hx
 obtain ⟨n,h1,h2,h3⟩:=unkL_mem _ _ _ hu
 show ¬ ((u == (j:Int)) = true)
 rw [beq_iff_eq]
 intro e
 have hn:n = j:=by omega
 subst hn
 have hoe:nth l n ∈ l:=by rw [show nth l n = l[n] by simp [nth,hj]];exact List.getElem_mem _
 have hop:=nth_in hk
 obtain ⟨v1,_,_,_⟩:=v58 (G.e _ hoe) (G.p _ hop) G.s hv
 have hrow:(l.map fun e=>vaL e p s).getD n [] = vaL (nth l n) p s:=by
  simp [List.getD_eq_getElem?_getD,hj,nth]
 rw [hrow,List.any_eq_false] at h3
 refine h3 (vaE (nth l n) s (nth p k)) (List.mem_map.2 ⟨nth p k,hop,rfl⟩) ?_
 show (valN (nth l n) (nth p k) s != -1) = true
 unfold bne
 rw [valN_none G.s,v1];rfl
def sA12 (B:TLi) (j:Nat) (m:Sm):Sm:=putM (kk:=ik) (vk:=.bool) (i1 (nth B j)) true m
theorem takeB_any {B:TLi} {j:Nat} (hj:j < B.length) (k:Int):((B.take (j + 1)).any fun y=>i1 y == k) = ((B.take j).any (fun y=>i1 y == k) || (i1 (nth B j) == k)):=by
 rw [List.take_add_one,List.getElem?_eq_getElem hj,List.any_append,show nth B j = B[j] by simp [nth,hj]]
 simp
theorem ld12a_ok (h0:Lib0 w0) {l:List (Tup evK)} {p:List (Tup paK)} (x:Gv) {B:TLi} (v sec e4:Int) {o:Int} (G:Vld l p x.s) (hz:allZ l p x.s = 0) (hl:B.length = l.length) (hm:cM p x.s (l.zip B) [] 0 = (o,0)) (cs_ok:Gds (cfg w0) cs12) :
  ∃ a,LdT ((cfg w0).at cs12) (ldP 0 N12 rel12a .normal (st12a l p x B (unk l p x.s).1 v sec e4 a)) (.loop (Am.lpB 0 (fnOf Tryz.f12).body)) (st12a l p x B (unk l p x.s).1 v sec e4 (0,[])):=by
 have hl4:=G.l4
 have hU:sm (unk l p x.s).1 = true:=(Nat.ble_eq ..).mpr (by
  have:=unk_len l p x.s (show l.length ≤ 100000 by omega)
  rw [Nat.ble_eq] at this
  exact this)
 have hE:=cM_all l B [] 0 o hl hm
 have hx:=rgRun_fold (id:=0) (step:=fun j (m:Sm)=>(X.normal,sA12 B j m)) (h:=fun j m=>sA12 B j m) B.length 0 [] fun _ _ _ _=>rfl
 refine ⟨_,ldT_rg (at_ok (cfg_ok w0) cs12) (at_sp h0 cs_ok) (N:=N12) (rel:=rel12a) (B:=Am.lpB 0 (fnOf Tryz.f12).body) (id:=0) (k:=B.length) (by omega) (st12a l p x B (unk l p x.s).1 v sec e4) (fun j (m:Sm)=>(X.normal,sA12 B j m))
  (fun j m=>∀ k:Int,0 ≤ k→(getT (kk:=ik) (vk:=.bool) k m:Bool) = (B.take j).any fun y=>i1 y == k) (fun j m hj hi=>.leaf (n:=40) (m:=40) (L:=[]) ?_) (fun j m m' hj hi he=>?_)
  (fun m _=>.leaf (n:=40) (m:=40) (L:=[]) (by rw [round12a,ge_f];rfl)) (fun k _=>by simp [getT];rfl) hx⟩
 ·rw [round12a,lt_t hj,show inI B (j:Int) = true from inb 0 hj,Int.toNat_natCast]
  have he:=hE j (by omega)
  rw [List.nil_append] at he
  unfold gX rn12a sA12
  rcases eM_zero.1 he with hk | ⟨k1,k2,k3,k4⟩
  ·rw [hk,decide_eq_false (by omega),decide_eq_false (by omega),decide_eq_false (by omega)];rfl
  ·have hkn:(i1 (nth B j)).toNat < p.length:=by omega
   rw [decide_eq_false (by omega),decide_eq_false (by omega),decide_eq_true (by omega),hi _ k1,k3,hU,unk_not G hz (show j < l.length by omega) hkn k4]
   rfl
 ·cases he
  intro k hk
  unfold sA12
  refine (getT_put (kk:=ik) (vk:=.bool) rfl k (i1 (nth B j)) true m).trans ?_
  rw [takeB_any hj]
  have h1:=hi k hk
  show (bif (k == i1 (nth B j)) then true else (getT (kk:=ik) (vk:=.bool) k m:Bool)) = _
  refine (congrArg (fun z=>bif (k == i1 (nth B j)) then true else z) h1).trans ?_
  rw [show (k == i1 (nth B j)) = (i1 (nth B j) == k) by rw [Bool.eq_iff_iff,beq_iff_eq,beq_iff_eq];exact eq_comm]
  cases (i1 (nth B j) == k) <;> simp
def up1 (l:List (Tup evK)) (p:List (Tup paK)) (s:Int) (i k:Nat) (g:TLi):TLi:=g.set i (t1 (mxI (val55 (nth l i) (nth p k) s).1 (i1 (nth g i))))
structure GI (l:List (Tup evK)) (p:List (Tup paK)) (s:Int) (i k:Nat) (g:TLi):Prop where
 len:g.length = l.length
 rng:∀ y ∈ g,0 ≤ i1 y∧i1 y ≤ 1000
 val:∀ i' k':Nat,(i' < i ∨ (i' = i∧k' < k))→i' < l.length→k' < p.length→(val58 (nth l i') (nth p k') s).2 = 0→(val58 (nth l i') (nth p k') s).1 ≤ i1 (nth g i')
theorem nth_set {g:TLi} {i j:Nat} {y:Tup intK} (hi:i < g.length):nth (g.set i y) j = if j = i then y else nth g j:=by
 simp only [nth,List.getD_eq_getElem?_getD,List.getElem?_set]
 by_cases e:i = j
 ·subst e;simp [hi]
 ·rw [if_neg e,if_neg (fun h=>e h.symm)]
theorem GI.step {l:List (Tup evK)} {p:List (Tup paK)} {s:Int} {i k:Nat} {g:TLi} (G:Vld l p s) (hz:allZ l p s = 0) (h:GI l p s i k g) (hi:i < l.length) (hk:k < p.length):GI l p s i (k + 1) (up1 l p s i k g):=by
 have hig:i < g.length:=by rw [h.len];exact hi
 have hoe:nth l i ∈ l:=by rw [show nth l i = l[i] by simp [nth,hi]];exact List.getElem_mem _
 have hop:=nth_in hk
 have hv:=val_vld hz hoe hop
 have hr:=h.rng _ (nth_mem' hig)
 have hw:(val58 (nth l i) (nth p k) s).2 = 0∧700 ≤ (val58 (nth l i) (nth p k) s).1∧(val58 (nth l i) (nth p k) s).1 ≤ 1000 ∨ (val58 (nth l i) (nth p k) s).2 = 7∧(val58 (nth l i) (nth p k) s).1 = 0:=by
  rw [val58_eq (G.e _ hoe) (G.p _ hop) G.s]
  cases hx:expl (nth l i) (nth p k) s with
  | false=>exact .inr ⟨rfl,rfl⟩
  | true=>exact .inl ⟨rfl,(expl_pos G.s hx).1,(expl_pos G.s hx).2⟩
 have hmx:i1 (nth g i) ≤ mxI (val55 (nth l i) (nth p k) s).1 (i1 (nth g i))∧(val58 (nth l i) (nth p k) s).1 ≤ mxI (val55 (nth l i) (nth p k) s).1 (i1 (nth g i))∧mxI (val55 (nth l i) (nth p k) s).1 (i1 (nth g i)) ≤ 1000:=by
  rw [hv]
  unfold mxI
  split <;> omega
 refine ⟨by unfold up1;rw [List.length_set];exact h.len,fun y hy=>?_,fun i' k' hc hi' hk' hz'=>?_⟩
 ·unfold up1 at hy
  rcases List.mem_or_eq_of_mem_set hy with hy | rfl
  ·exact h.rng y hy
  ·show 0 ≤ mxI (val55 (nth l i) (nth p k) s).1 (i1 (nth g i))∧mxI (val55 (nth l i) (nth p k) s).1 (i1 (nth g i)) ≤ 1000
   omega
 ·unfold up1
  rw [nth_set hig]
  by_cases e:i' = i
  ·subst e
   rw [if_pos rfl]
   show _ ≤ mxI (val55 (nth l i') (nth p k) s).1 (i1 (nth g i'))
   by_cases e2:k' = k
   ·subst e2;exact hmx.2.1
   ·have:=h.val i' k' (.inr ⟨rfl,by omega⟩) hi' hk' hz'
    omega
  ·rw [if_neg e]
   exact h.val i' k' (.inl (by omega)) hi' hk' hz'
def gI1 (l:List (Tup evK)) (p:List (Tup paK)) (s:Int) (i:Nat) (g:TLi):TLi:=(List.range' 0 p.length).foldl (fun g k=>up1 l p s i k g) g
def gI2 (l:List (Tup evK)) (p:List (Tup paK)) (s:Int):TLi:=(List.range' 0 l.length).foldl (fun g i=>gI1 l p s i g) (zr l.length)
theorem GI.inner {l:List (Tup evK)} {p:List (Tup paK)} {s:Int} {i:Nat} {g:TLi} (G:Vld l p s) (hz:allZ l p s = 0) (h:GI l p s i 0 g) (hi:i < l.length):GI l p s (i + 1) 0 (gI1 l p s i g):=by
 have:=fold_inv (h:=fun k g=>up1 l p s i k g) (I:=fun k g=>GI l p s i k g) p.length h fun k g hk hg=>hg.step G hz hi hk
 exact ⟨this.len,this.rng,fun i' k' hc hi' hk'=>this.val i' k' (by omega) hi' hk'⟩
theorem GI.zero (l:List (Tup evK)) (p:List (Tup paK)) (s:Int):GI l p s 0 0 (zr l.length):=⟨by simp [zr],fun y hy=>by
 unfold zr at hy
 rw [List.eq_of_mem_replicate hy]
 exact ⟨Int.le_refl _,by decide⟩,fun i' k' hc=>by omega⟩
theorem GI.all {l:List (Tup evK)} {p:List (Tup paK)} {s:Int} (G:Vld l p s) (hz:allZ l p s = 0):GI l p s l.length 0 (gI2 l p s):=fold_inv (h:=fun i g=>gI1 l p s i g) (I:=fun i g=>GI l p s i 0 g) l.length (GI.zero l p s) fun i g hi hg=>hg.inner G hz hi
theorem ld12b_ok (h0:Lib0 w0) {l:List (Tup evK)} {p:List (Tup paK)} (x:Gv) (v:Int) (G:Vld l p x.s) (hz:allZ l p x.s = 0) (cs_ok:Gds (cfg w0) cs12) :
  LdT ((cfg w0).at cs12) (ldP 2 N12 rel12b .normal (st12b l p x v (((0 + l.length:Nat):Int),gI2 l p x.s))) (.loop (Am.lpB 2 (fnOf Tryz.f12).body)) (st12b l p x v (0,zr l.length)):=by
 have hl4:=G.l4
 have hp4:=G.p4
 have ok:=at_ok (cfg_ok w0) cs12
 have sp:=at_sp h0 cs_ok
 have hx:=rgRun_fold (id:=2) (step:=fun i (g:TLi)=>(X.normal,gI1 l p x.s i g)) (h:=fun i g=>gI1 l p x.s i g) l.length 0 (zr l.length) fun _ _ _ _=>rfl
 refine ldT_rg ok sp (N:=N12) (rel:=rel12b) (B:=Am.lpB 2 (fnOf Tryz.f12).body) (id:=2) (k:=l.length) (by omega) (st12b l p x v) (fun i (g:TLi)=>(X.normal,gI1 l p x.s i g)) (fun i g=>GI l p x.s i 0 g)
  (fun i g hi hg=>?_) (fun i g g' hi hg he=>by cases he;exact hg.inner G hz hi) (fun g _=>.leaf (by rw [round12b (a:=(0,[]))];rw [ge_f];rfl)) (GI.zero l p x.s) hx
 have hy:=rgRun_fold (id:=4) (step:=fun k (g:TLi)=>(X.normal,up1 l p x.s i k g)) (h:=fun k g=>up1 l p x.s i k g) p.length 0 g fun _ _ _ _=>rfl
 have hoe:nth l i ∈ l:=by rw [show nth l i = l[i] by simp [nth,hi]];exact List.getElem_mem _
 have key:=ldT_rg ok sp (N:=N12) (rel:=rel12c) (B:=Am.lpB 4 (fnOf Tryz.f12).body) (id:=4) (k:=p.length) (by omega) (st12c l p x v (i:Int) (i:Int) (nth l i)) (fun k (g:TLi)=>(X.normal,up1 l p x.s i k g)) (fun k g=>GI l p x.s i k g)
  (fun k g hk hg=>.leaf (by
   have hig:i < g.length:=by rw [hg.len];exact hi
   have hop:=nth_in hk
   have hv:=val_vld hz hoe hop
   rw [round12c,lt_t hk,inP_nat hk,Int.toNat_natCast]
   unfold gX rn12c up12 gX
   rw [show inI g (i:Int) = true from inb 0 hig,Int.toNat_natCast]
   have h1:(val55 (nth l i) (nth p k) x.s).1 ≤ 1000∧((val55 (nth l i) (nth p k) x.s).2 = 0 ∨ (val55 (nth l i) (nth p k) x.s).2 = 7):=by
    rw [hv,val58_eq (G.e _ hoe) (G.p _ hop) G.s]
    cases hx:expl (nth l i) (nth p k) x.s with
    | false=>exact ⟨by show (0:Int) ≤ 1000;decide,.inr rfl⟩
    | true=>exact ⟨(expl_pos G.s hx).2,.inl rfl⟩
   rw [decide_eq_false (show ¬ (val55 (nth l i) (nth p k) x.s).1 > 1000 by omega)]
   rcases h1.2 with e | e <;> rw [e] <;> rfl)) (fun k g g' hk hg he=>by cases he;exact hg.step G hz hi hk)
  (fun g _=>.leaf (by rw [round12c,ge_f];rfl)) (a0:=g) hg hy
 have hrd:=round12b (w0:=w0) l p x v (i:Int) g (((0 + p.length:Nat):Int),gI1 l p x.s i g)
 rw [lt_t hi,inE_nat hi,Int.toNat_natCast] at hrd
 exact .one hrd key
end
end Go.Proofs.YtifnpljmjhnbaaaGreatDoor
namespace Go.Proofs.YtifnpljmjhnbaaaGreatDoor
open Go Go.Am
set_option maxRecDepth 100000
variable {w0:World}
noncomputable section
theorem cs12_gd (h0:Lib0 w0):Gds (cfg w0) cs12:=⟨gd23 h0,gd53 h0,gd56 h0,gd60 h0,gd63 h0,gd26 h0,gd73v h0,gd67 h0,gd66 h0,gd74 h0,gd78 h0,gd51 h0,gd68 h0,gd55 h0,trivial⟩
theorem mat_zero {l:List (Tup evK)} {p:List (Tup paK)} {s:Int} {mt:TLi} (hz:allZ l p s = 0) (h:(mat l p s mt).2 = 0):mt.length = l.length∧cM p s (l.zip mt) [] 0 = ((mat l p s mt).1,0):=by
 unfold mat at h ⊢
 rw [show (allZ l p s != 0) = false by rw [hz];rfl] at h ⊢
 simp only [cond_false] at h ⊢
 unfold chkM at h ⊢
 cases hl:((mt.length:Int) != l.length) with
 | true=>rw [hl] at h;cases h
 | false=>
   rw [hl] at h
   simp only [cond_false] at h ⊢
   exact ⟨Int.ofNat.inj (by simpa using hl),Prod.ext rfl h⟩
theorem mat_of {l:List (Tup evK)} {p:List (Tup paK)} {s:Int} {mt:TLi} {o:Int} (hz:allZ l p s = 0) (hl:mt.length = l.length) (h:cM p s (l.zip mt) [] 0 = (o,0)):mat l p s mt = (o,0):=by
 unfold mat chkM
 rw [show (allZ l p s != 0) = false by rw [hz];rfl,show ((mt.length:Int) != l.length) = false by simp [hl]]
 exact h
theorem e12_ok {l:List (Tup evK)} {p:List (Tup paK)} {s:Int} {o:Obs} (hz:allZ l p s = 0) (h0:0 < l.length) (hl:l.length ≤ 4) (hp:p.length ≤ 4):e12 l p s (vB9 l p s) o = some (o,Bo true):=by
 have hne:(allZ l p s != 0) = false:=by rw [hz];rfl
 obtain ⟨a,b,c⟩:=allZ_ok hne
 have hc:=within_zero c
 have hd:IntKind.i64.wrap (s.tdiv 2) = s / 2:=by
  rw [Int.tdiv_eq_ediv_of_nonneg hc.1]
  exact W_id (by omega) (by omega)
 have hz2:allZ l p (s / 2) = 0:=allZ_of a b (by
  unfold withinZ whenZ
  rw [decide_eq_false (show ¬ s / 2 < 0 by omega),decide_eq_false (show ¬ s / 2 > 300 by omega)];rfl)
 have G:=vld_of hz hl hp
 have G2:=vld_of hz2 hl hp
 obtain ⟨v,B,sec,sev,e1,_,_,_,_,_,e2⟩:=best12 G
 obtain ⟨v2,B2,sec2,sev2,f1,f2,f3,_⟩:=best12 G2
 have:=(e2 B2 v2 f2 (cM_sl G.p G.s (by omega) l B2 [] 0 v2 G.e f3)).1
 unfold e12 bN
 rw [hd,show gE l = true from (Nat.ble_eq ..).mpr (by omega),show gP p = true from (Nat.ble_eq ..).mpr (by omega),okV_of hz2 h0 hl hp,f1]
 show (bif true then bif true then bif true then bif decide (v2 ≤ (fin133 l p s).2.1) then _ else _ else _ else _ else _:Ob) = _
 rw [e1,decide_eq_true (show v2 ≤ v from this)]
 rfl
theorem d12_ok {l:List (Tup evK)} {p:List (Tup paK)} {s:Int} {o:Obs} (hz:allZ l p s = 0) (h0:0 < l.length) (hl:l.length ≤ 4) (hp:p.length ≤ 4):d12 l p s (vB9 l p s) o = some (o,Bo true):=by
 have he:=e12_ok (o:=o) hz h0 hl hp
 cases p with
 | nil=>exact he
 | cons q p=>
   have hne:(allZ l (q :: p) s != 0) = false:=by rw [hz];rfl
   obtain ⟨a,b,c⟩:=allZ_ok hne
   rw [List.length_cons] at hp
   have ht:tlP (q :: p) = p:=by
    unfold tlP
    rw [show (0 + Int.toNat 1) = 1 from rfl,List.drop_succ_cons,List.drop_zero,List.take_of_length_le (by rw [List.length_cons];show p.length ≤ (((p.length + 1:Nat):Int)).toNat - 1;omega)]
   have hz2:allZ l p s = 0:=allZ_of a (chkPa_tail b) c
   have G:=vld_of hz hl (by rw [List.length_cons];omega)
   have G2:=vld_of hz2 hl (by omega)
   obtain ⟨v,B,sec,sev,e1,e3,e4,e5,_,_,e2⟩:=best12 G
   obtain ⟨v2,B2,sec2,sev2,f1,f2,f3,f5,_,_,f4⟩:=best12 G2
   have k1:=(e2 (B2.map shU) v2 (by rw [List.length_map];exact f2) (cM_sh (q:=q) l B2 [] 0 v2 f3)).1
   obtain ⟨o',k2,k3⟩:=cM_us G.p G.s l B [] 0 0 v G.e (by omega) (by omega) (by omega) (by omega) e4
   have k4:=(f4 (B.map usU) o' (by rw [List.length_map];exact e3) k2).1
   have k3:v - 0 ≤ o' - 0 + 1000:=k3
   have hv2:v ≤ 100000:=by
    have:=chkM_mv G.e G.p G.s (show l.length ≤ 9 by omega)
    have hm:=mem_mv G.p l B [] 0 v G.e e3 e4
    have:=mv_val G.p G.s l [] 0 G.e (by omega) (by omega) _ hm
    exact this.2.1
   unfold d12 bN bF
   rw [ht,show gE l = true from (Nat.ble_eq ..).mpr (by omega),show gP p = true from (Nat.ble_eq ..).mpr (by omega),okV_of hz2 h0 hl (by omega),List.length_cons,decide_eq_true (show ((p.length + 1:Nat):Int) > 0 by omega),decide_eq_true (show (1:Int) ≤ ((p.length + 1:Nat):Int) by omega),decide_eq_true (show ((p.length + 1:Nat):Int) ≤ ((p.length + 1:Nat):Int) by omega)]
   rw [show (fin133 l p s).2.1 = v2 by rw [f1],show vB9 l (q :: p) s = v by show (fin133 l (q :: p) s).2.1 = v;rw [e1],W_id (by omega) (by omega),decide_eq_false (show ¬ v2 > v by omega),decide_eq_false (show ¬ v > v2 + 1000 by omega)]
   rw [show vB9 l (q :: p) s = v by show (fin133 l (q :: p) s).2.1 = v;rw [e1]] at he
   exact he
theorem mkG_ok {n:Nat} (h:n ≤ 100):mkG (n:Int) = true:=by
 unfold mkG
 rw [decide_eq_true (show (0:Int) ≤ n by omega),decide_eq_true (rfl:(n:Int) = n),decide_eq_true (show (n:Int) ≤ 10000000 by omega),Int.toNat_natCast,(Nat.ble_eq ..).mpr (show n * 1 ≤ 10000000 by omega),(Nat.ble_eq ..).mpr (show n * 8 ≤ 1000000000000 by omega)]
 rfl
theorem law12_true (l:List (Tup evK)) (p:List (Tup paK)) (x:Gv) (a:Int × Sm) (b:Int × TLi) (hp:p.length ≤ maxLen) (h0:0 < l.length) (hb:b.2 = gI2 l p x.s):law12 l p x a b = some ([],Bo true) ∨
  (allZ l p x.s = 0∧l.length ≤ 4∧p.length ≤ 4∧law12 l p x a b = some ([lB l p x (vB9 l p x.s) b,lA l p x (bB9 l p x.s) (unk l p x.s).1 (vB9 l p x.s) (sec9 l p x.s).1 (sec9 l p x.s).2 a],Bo true)):=by
 have hw:gW p = true:=(Nat.ble_eq ..).mpr (by have:maxLen = 9223372036854775807:=rfl;omega)
 unfold law12 g12 oT
 cases c1:decide ((l.length:Int) > 4) with
 | true=>exact .inl rfl
 | false=>
   cases c2:decide ((p.length:Int) > 4) with
   | true=>exact .inl rfl
   | false=>
     rw [hw]
     cases c3:shortP p with
     | false=>exact .inl rfl
     | true=>
       cases c4:(allZ l p x.s != 0) with
       | true=>exact .inl rfl
       | false=>
         cases c5:decide ((x.m.length:Int) > 9) with
         | true=>exact .inl rfl
         | false=>
           cases c6:decide ((x.a.length:Int) > 9) with
           | true=>exact .inl rfl
           | false=>
             cases c7:decide ((x.b.length:Int) > 9) with
             | true=>exact .inl rfl
             | false=>
               have hz:allZ l p x.s = 0:=by simpa using c4
               have hl4:l.length ≤ 4:=by have:=of_decide_eq_false c1;omega
               have hp4:p.length ≤ 4:=by have:=of_decide_eq_false c2;omega
               have n5:=of_decide_eq_false c5
               have n6:=of_decide_eq_false c6
               have n7:=of_decide_eq_false c7
               refine .inr ⟨hz,hl4,hp4,?_⟩
               have G:=vld_of hz hl4 hp4
               obtain ⟨v,B,sec,sev,e1,e3,e4,e5,e6,e7,e2⟩:=best12 G
               have hB:bB9 l p x.s = B:=by show (fin133 l p x.s).2.2.1 = B;rw [e1]
               have hv:vB9 l p x.s = v:=by show (fin133 l p x.s).2.1 = v;rw [e1]
               have hsev:(fin133 l p x.s).2.2.2.2 = sev:=by rw [e1]
               have hsec:(fin133 l p x.s).2.2.2.1 = sec:=by rw [e1]
               have hgE:gE l = true:=(Nat.ble_eq ..).mpr (by omega)
               have hgP:gP p = true:=(Nat.ble_eq ..).mpr (by omega)
               have hsE:shortE l = true:=by unfold shortE;rw [decide_eq_true (show (l.length:Int) ≤ 4 by omega)];rfl
               have hs9:sec9 l p x.s = bif !sev then (0,7) else (sec,0):=by
                unfold sec9
                rw [c4,hsev,hsec];rfl
               have hunk:(unk l p x.s).2 = 0:=by unfold unk;rw [c4];rfl
               have hmB:mat l p x.s B = (v,0):=mat_of hz e3 e4
               have hd:=d12_ok (o:=[lB l p x (vB9 l p x.s) b,lA l p x (bB9 l p x.s) (unk l p x.s).1 (vB9 l p x.s) (sec9 l p x.s).1 (sec9 l p x.s).2 a]) hz h0 hl4 hp4
               -- the greatest values
               have hg:=GI.all G hz
               have hzl:(zr p.length).length = p.length:=by simp [zr]
               have hb2:(bnd l p x.s (gI2 l p x.s) (zr p.length)).2 = 0:=bnd_ok hz hg.len hzl hg.rng (fun y hy=>by
                unfold zr at hy
                rw [List.eq_of_mem_replicate hy]
                exact ⟨Int.le_refl _,by decide⟩) fun i k hi hk hvv=>by
                 have h1:=hg.val i k (.inl hi) hi hk hvv
                 have h2:i1 (nth (zr p.length) k) = 0:=by
                  have:=nth_mem' (a:=zr p.length) (show k < (zr p.length).length by omega)
                  unfold zr at this ⊢
                  rw [List.eq_of_mem_replicate this];rfl
                 omega
               have hb1:=bnd_match G hz hb2 e3 e4
               have hc:c12 l p x.s (vB9 l p x.s) b.2 [lB l p x (vB9 l p x.s) b,lA l p x (bB9 l p x.s) (unk l p x.s).1 (vB9 l p x.s) (sec9 l p x.s).1 (sec9 l p x.s).2 a] [] = some ([lB l p x (vB9 l p x.s) b,lA l p x (bB9 l p x.s) (unk l p x.s).1 (vB9 l p x.s) (sec9 l p x.s).1 (sec9 l p x.s).2 a],Bo true):=by
                unfold c12 bN bF
                rw [hd,hb,mkG_ok (by omega),mkG_ok (by omega),hgE,hgP,hsE,c3,show sm (gI2 l p x.s) = true from (Nat.ble_eq ..).mpr (by rw [hg.len];omega),show sm (zr p.length) = true from (Nat.ble_eq ..).mpr (by rw [hzl];omega),hb2,decide_eq_false (show ¬ (bnd l p x.s (gI2 l p x.s) (zr p.length)).1 < vB9 l p x.s by rw [hv];omega)]
                rfl
               have hbb:b12 l p x (vB9 l p x.s) [lA l p x (bB9 l p x.s) (unk l p x.s).1 (vB9 l p x.s) (sec9 l p x.s).1 (sec9 l p x.s).2 a] (some ([lB l p x (vB9 l p x.s) b,lA l p x (bB9 l p x.s) (unk l p x.s).1 (vB9 l p x.s) (sec9 l p x.s).1 (sec9 l p x.s).2 a],Bo true)) = some ([lB l p x (vB9 l p x.s) b,lA l p x (bB9 l p x.s) (unk l p x.s).1 (vB9 l p x.s) (sec9 l p x.s).1 (sec9 l p x.s).2 a],Bo true):=by
                unfold b12 bN bF
                rw [hgE,hgP,hsE,c3,show sm x.a = true from (Nat.ble_eq ..).mpr (by omega),show sm x.b = true from (Nat.ble_eq ..).mpr (by omega)]
                cases hq:((bnd l p x.s x.a x.b).2 == 0) with
                | false=>rfl
                | true=>
                  have:=bnd_match (a:=x.a) (b:=x.b) G hz (by simpa using hq) e3 e4
                  rw [decide_eq_false (show ¬ (bnd l p x.s x.a x.b).1 < vB9 l p x.s by rw [hv];omega)]
                  rfl
               rw [hc,hbb]
               have haa:∀ k:Ob,a12 l p x (bB9 l p x.s) (vB9 l p x.s) (sec9 l p x.s).1 (sec9 l p x.s).2 [lA l p x (bB9 l p x.s) (unk l p x.s).1 (vB9 l p x.s) (sec9 l p x.s).1 (sec9 l p x.s).2 a] k = k:=fun k=>by
                unfold a12 bN bF
                rw [hgE,hgP,hsE,show sm x.m = true from (Nat.ble_eq ..).mpr (by omega),show Nat.ble x.m.length 100000 = true from (Nat.ble_eq ..).mpr (by omega)]
                cases hq:((mat l p x.s x.m).2 == 0) with
                | false=>rfl
                | true=>
                  obtain ⟨m1,m2⟩:=mat_zero hz (show (mat l p x.s x.m).2 = 0 by simpa using hq)
                  obtain ⟨m3,m4⟩:=e2 x.m _ m1 m2
                  rw [decide_eq_false (show ¬ (mat l p x.s x.m).1 > vB9 l p x.s by rw [hv];omega),hB]
                  cases hsm:sameI x.m B with
                  | true=>rfl
                  | false=>
                    have hne:x.m ≠ B:=fun e=>by
                     rw [e,sameI_self] at hsm;cases hsm
                    obtain ⟨m5,m6⟩:=m4 hne
                    rw [hs9,m5]
                    simp only [Bool.not_true,cond_false,Bool.not_false,cond_true]
                    rw [decide_eq_false (show ¬ (mat l p x.s x.m).1 > sec by omega)]
                    rfl
               rw [haa]
               unfold s12 h12 bN bF
               rw [hgE,hgP,okV_of hz h0 hl4 hp4,hB,hv,hmB,hunk,hsE,fewA_ok hsE c3,show sm B = true from (Nat.ble_eq ..).mpr (by omega),hs9]
               cases sev with
               | false=>
                 simp only [Bool.not_false,cond_true,cond_false,bne_self_eq_false]
                 rw [show ((B.length:Int) != l.length) = false by simp [e3],decide_eq_false (show ¬ (0:Int) > v by omega)]
                 rfl
               | true=>
                 simp only [Bool.not_true,Bool.not_false,cond_true,cond_false,bne_self_eq_false]
                 rw [show ((B.length:Int) != l.length) = false by simp [e3],decide_eq_false (show ¬ sec > v by omega)]
                 rfl
theorem law12_fn1 (h0:Lib0 w0) (l:List (Tup evK)) (p:List (Tup paK)) (x:Gv) (hp:p.length ≤ maxLen) (hl:0 < l.length):FnD (cfg w0) 12 [.vec evK l,.vec paK p,gvD x] (Bo true):=by
 have key:∀ (a:Int × Sm) (o:Obs),law12 l p x a (((0 + l.length:Nat):Int),gI2 l p x.s) = some (o,Bo true)→Owed ((cfg w0).at cs12) o→FnD (cfg w0) 12 [.vec evK l,.vec paK p,gvD x] (Bo true):=fun a o h hO=>
  fnD_t (cfg_ok w0) h0 (cs:=cs12) (cs12_gd h0) (fd:=fnOf Tryz.f12) rfl ((run12 l p x a _).trans h) hO
 rcases law12_true l p x (0,[]) (((0 + l.length:Nat):Int),gI2 l p x.s) hp hl rfl with h | ⟨hz,hl4,hp4,_⟩
 ·exact key _ _ h trivial
 ·have G:=vld_of hz hl4 hp4
  obtain ⟨v,B,sec,sev,e1,e3,e4,_⟩:=best12 G
  have hB:bB9 l p x.s = B:=by show (fin133 l p x.s).2.2.1 = B;rw [e1]
  obtain ⟨a,ha⟩:=ld12a_ok h0 x (vB9 l p x.s) (sec9 l p x.s).1 (sec9 l p x.s).2 G hz e3 e4 (cs12_gd h0)
  have hb:=ld12b_ok h0 x (vB9 l p x.s) G hz (cs12_gd h0)
  rw [← hB] at ha
  rcases law12_true l p x a (((0 + l.length:Nat):Int),gI2 l p x.s) hp hl rfl with h | ⟨_,_,_,h⟩
  ·exact key _ _ h trivial
  ·exact key _ _ h ⟨hb,ha,trivial⟩
end
end Go.Proofs.YtifnpljmjhnbaaaGreatDoor
