/-
 A part of the proof of the statement that the claim names: see the last file.
-/
import Derived.Test.YtifnpljmjhnbaaaGreatDoorB6
import Derived.Test.YtifnpljmjhnbaaaGreatDoorD1
import Derived.Test.YtifnpljmjhnbaaaGreatDoorBg
namespace Go.Proofs.YtifnpljmjhnbaaaGreatDoor
open Go Go.Am
set_option maxRecDepth 100000
noncomputable section
theorem v58 {e:Tup evK} {q:Tup paK} {s:Int} (h1:okE e) (h2:okP q) (hs:s ≤ 300) (h:(val58 e q s).2 = 0):expl e q s = true∧(val58 e q s).1 = 1000 - distP e q∧700 ≤ 1000 - distP e q∧1000 - distP e q ≤ 1000:=by
 rw [val58_eq h1 h2 hs] at h ⊢
 cases hx:expl e q s with
 | false=>rw [hx] at h;cases h
 | true=>
   have:=expl_pos hs hx
   exact ⟨rfl,rfl,this.1,this.2⟩
theorem v58_of {e:Tup evK} {q:Tup paK} {s:Int} (h1:okE e) (h2:okP q) (hs:s ≤ 300) (h:expl e q s = true):val58 e q s = (1000 - distP e q,0):=by rw [val58_eq h1 h2 hs,h];rfl
theorem nth_in {p:List (Tup paK)} {k:Nat} (h:k < p.length):nth p k ∈ p:=by
 rw [show nth p k = p[k] by simp [nth,h]]
 exact List.getElem_mem _
theorem eM_zero {p:List (Tup paK)} {s:Int} {e:Tup evK} {k:Int} {pre:TLi}:eM p s e k pre = 0 ↔ k = -1 ∨ (0 ≤ k∧k < p.length∧(pre.any fun y=>i1 y == k) = false∧(val58 e (nth p k.toNat) s).2 = 0):=by
 unfold eM
 by_cases c1:k < -1
 ·rw [decide_eq_true c1]
  exact ⟨fun h=>(by cases h),fun h=>(by omega)⟩
 ·rw [decide_eq_false c1]
  by_cases c2:k ≥ p.length
  ·rw [decide_eq_true c2]
   exact ⟨fun h=>(by cases h),fun h=>(by omega)⟩
  ·rw [decide_eq_false c2]
   by_cases c3:k = -1
   ·subst c3
    exact ⟨fun _=>.inl rfl,fun _=>rfl⟩
   ·rw [beq_eq_false_iff_ne.2 c3]
    cases ha:(pre.any fun y=>i1 y == k) with
    | true=>exact ⟨fun h=>(by cases h),fun h=>h.elim (fun h=>absurd h c3) fun h=>(by cases h.2.2.1)⟩
    | false=>
      cases hv:((val58 e (nth p k.toNat) s).2 != 0) with
      | true=>exact ⟨fun h=>(by cases h),fun h=>h.elim (fun h=>absurd h c3) fun h=>(by rw [h.2.2.2] at hv;cases hv)⟩
      | false=>exact ⟨fun _=>.inr ⟨by omega,by omega,rfl,by simpa using hv⟩,fun _=>rfl⟩
theorem cM_step {p:List (Tup paK)} {s:Int} {e:Tup evK} {y:Tup intK} {rs:List (Tup evK × Tup intK)} {pre:TLi} {sum o:Int}:cM p s ((e,y) :: rs) pre sum = (o,0) ↔ eM p s e (i1 y) pre = 0∧cM p s rs (pre++[y]) (wM p s e (i1 y) sum) = (o,0):=by
 rw [cM]
 cases h:(eM p s e (i1 y) pre != 0) with
 | true=>
   constructor
   ·intro h2
    have:eM p s e (i1 y) pre = 0:=congrArg Prod.snd h2
    rw [this] at h;cases h
   ·intro h2
    rw [h2.1] at h;cases h
 | false=>exact ⟨fun h2=>⟨by simpa using h,h2⟩,fun h2=>h2.2⟩
theorem wM_none {p:List (Tup paK)} {s:Int} {e:Tup evK} {sum:Int}:wM p s e (-1) sum = sum:=rfl
theorem wM_some {p:List (Tup paK)} {s:Int} {e:Tup evK} {k sum:Int} (h:0 ≤ k):wM p s e k sum = IntKind.i64.wrap (sum + (val58 e (nth p k.toNat) s).1):=by
 unfold wM
 rw [beq_eq_false_iff_ne.2 (show k ≠ -1 by omega)];rfl
theorem mem_mv {p:List (Tup paK)} {s:Int} (hp:∀ q ∈ p,okP q):∀ (es:List (Tup evK)) (suf pre:TLi) (sum o:Int),(∀ e ∈ es,okE e)→suf.length = es.length→cM p s (es.zip suf) pre sum = (o,0)→(pre++suf,o) ∈ mv p s es pre sum
 | [],[],pre,sum,o,_,_,h=>by
   have:sum = o:=congrArg Prod.fst h
   subst this
   rw [List.append_nil]
   exact List.mem_singleton.2 rfl
 | [],_ :: _,_,_,_,_,h,_=>by simp at h
 | _ :: _,[],_,_,_,_,h,_=>by simp at h
 | e :: es,y :: suf,pre,sum,o,he,hl,h=>by
   rw [List.zip_cons_cons] at h
   obtain ⟨h1,h2⟩:=cM_step.1 h
   have ih:=mem_mv hp es suf (pre++[y]) _ o (fun e' h=>he e' (by simp [h])) (by simpa using hl) h2
   rw [List.append_assoc,List.singleton_append] at ih
   unfold mv
   obtain ⟨k,u⟩:=y
   rcases eM_zero.1 h1 with hk | ⟨k1,k2,k3,k4⟩
   ·have hk:k = (-1:Int):=hk
    subst hk
    exact List.mem_append.2 (.inr ih)
   ·have k1:(0:Int) ≤ k:=k1
    have k2:@LT.lt Int _ k (p.length:Int):=k2
    obtain ⟨n,rfl⟩:=Int.eq_ofNat_of_zero_le k1
    have hn:n < p.length:=by omega
    refine List.mem_append.2 (.inl (List.mem_flatMap.2 ⟨n,by rw [List.mem_range'_1];omega,?_⟩))
    have k3:(pre.any fun y=>i1 y == (n:Int)) = false:=k3
    have k4:(val58 e (nth p n) s).2 = 0:=k4
    have hsk:skp p s e pre n = false:=by
     unfold skp exR
     rw [k3]
     unfold val58 vlZ at k4
     cases hb:noB (whyR e (nth p n) s) with
     | true=>rfl
     | false=>rw [hb] at k4;cases k4
    rw [hsk]
    have hw:wM p s e ((n:Int)) sum = IntKind.i64.wrap (sum + (val58 e (nth p n) s).1):=wM_some (by omega)
    have ih:(pre++t1 (n:Int) :: suf,o) ∈ mv p s es (pre++[t1 (n:Int)]) (wM p s e (n:Int) sum):=ih
    rw [hw] at ih
    exact ih
def Top (done:List (TLi × Int)) (S:S4):Prop:=
 ∃ k:Nat,done[k]? = some (S.2.1,S.1)∧0 ≤ S.1∧0 ≤ S.2.2.1∧S.2.2.1 ≤ S.1∧∀ (j:Nat) (x:TLi × Int),done[j]? = some x→x.2 ≤ S.1∧(j ≠ k→S.2.2.2 = true∧x.2 ≤ S.2.2.1)
theorem top_step {done:List (TLi × Int)} {S:S4} {x:TLi × Int} (h:Top done S) (hx:0 ≤ x.2) (hl:∀ y ∈ done,Lat y x):Top (done++[x]) (stp x S):=by
 obtain ⟨M,n⟩:=x
 obtain ⟨v,B,sec,sev⟩:=S
 obtain ⟨k,h1,h2,h3,h4,h5⟩:=h
 simp only at h1 h2 h3 h4 h5 hx
 have hb:=better (n:=n) (v:=v) (hl _ (List.mem_of_getElem? h1))
 have hk:=(List.getElem?_eq_some_iff.1 h1).1
 unfold stp endPB
 simp only
 rw [hb]
 by_cases hc:n > v
 ·rw [decide_eq_true hc]
  have hm:mxI v sec = v:=by unfold mxI;split <;> omega
  refine ⟨done.length,by simp,hx,?_,?_,fun j y hj=>?_⟩
  ·show 0 ≤ mxI v sec
   rw [hm];exact h2
  ·show mxI v sec ≤ n
   rw [hm];omega
  ·show y.2 ≤ n∧(j ≠ done.length→true = true∧y.2 ≤ mxI v sec)
   rw [hm]
   rcases Nat.lt_trichotomy j done.length with hlt | rfl | hgt
   ·rw [List.getElem?_append_left hlt] at hj
    have:=(h5 j y hj).1
    exact ⟨by omega,fun _=>⟨rfl,this⟩⟩
   ·simp at hj
    subst hj
    exact ⟨Int.le_refl _,fun h=>absurd rfl h⟩
   ·have:=(List.getElem?_eq_some_iff.1 hj).1
    simp at this
    omega
 ·rw [decide_eq_false hc]
  have hm:sec ≤ mxI n sec∧n ≤ mxI n sec∧mxI n sec ≤ v:=by unfold mxI;split <;> omega
  refine ⟨k,by rw [List.getElem?_append_left hk];exact h1,h2,?_,hm.2.2,fun j y hj=>?_⟩
  ·show 0 ≤ mxI n sec
   omega
  ·show y.2 ≤ v∧(j ≠ k→true = true∧y.2 ≤ mxI n sec)
   rcases Nat.lt_trichotomy j done.length with hlt | rfl | hgt
   ·rw [List.getElem?_append_left hlt] at hj
    obtain ⟨q1,q2⟩:=h5 j y hj
    exact ⟨q1,fun hne=>⟨rfl,by have:=(q2 hne).2;omega⟩⟩
   ·simp at hj
    subst hj
    exact ⟨by show n ≤ v;omega,fun _=>⟨rfl,hm.2.1⟩⟩
   ·have:=(List.getElem?_eq_some_iff.1 hj).1
    simp at this
    omega
theorem top_all (s2:Int) (sv:Bool):∀ (xs done:List (TLi × Int)) (S:S4),Top done S→(∀ x ∈ xs,0 ≤ x.2)→(∀ y ∈ done,∀ x ∈ xs,Lat y x)→xs.Pairwise Lat→∃ S',xs.foldl (stO s2 sv) (some S) = some S'∧Top (done++xs) S'
 | [],done,S,h,_,_,_=>⟨S,rfl,by rw [List.append_nil];exact h⟩
 | x :: xs,done,S,h,h0,hl,hp=>by
   obtain ⟨p1,p2⟩:=List.pairwise_cons.1 hp
   obtain ⟨S',a,b⟩:=top_all s2 sv xs (done++[x]) _ (top_step h (h0 x (by simp)) fun y hy=>hl y hy x (by simp)) (fun y hy=>h0 y (by simp [hy])) (fun y hy z hz=>by
    rcases List.mem_append.1 hy with hy | hy
    ·exact hl y hy z (by simp [hz])
    ·rw [List.mem_singleton] at hy;subst hy;exact p1 z hz) p2
   refine ⟨S',a,?_⟩
   rw [List.append_assoc,List.singleton_append] at b
   exact b
theorem top {xs:List (TLi × Int)} (hne:xs ≠ []) (h0:∀ x ∈ xs,0 ≤ x.2) (hp:xs.Pairwise Lat):∃ S',xs.foldl (stO 0 false) none = some S'∧Top xs S':=by
 cases xs with
 | nil=>exact absurd rfl hne
 | cons x xs=>
   obtain ⟨p1,p2⟩:=List.pairwise_cons.1 hp
   have hx:=h0 x (by simp)
   have hB:Top [x] (x.2,x.1,0,false):=⟨0,rfl,hx,Int.le_refl _,hx,fun j y hj=>by
    cases j with
    | zero=>simp at hj;subst hj;exact ⟨Int.le_refl _,fun h=>absurd rfl h⟩
    | succ j=>simp at hj⟩
   exact top_all 0 false xs [x] _ hB (fun y hy=>h0 y (by simp [hy])) (fun y hy z hz=>by rw [List.mem_singleton] at hy;subst hy;exact p1 z hz) p2
theorem fold133 {l:List (Tup evK)} {p:List (Tup paK)} {s:Int} (he:∀ e ∈ l,okE e) (hp:∀ q ∈ p,okP q) (hs:s ≤ 300) (hp8:p.length ≤ 8):some (fin133 l p s).2 = (mv p s l [] 0).foldl (stO 0 false) none:=by
 obtain ⟨j,_,_,h3⟩:=sA_lv 0 false (l.map fun e=>vaL e p s) l.length 0 0 no8 [] (List.replicate l.length (t1 0)) rfl (by simp)
 rw [lv_mv hp hs hp8 l 0 0 no8 [] he (fun j e hj=>by simp [List.getD_eq_getElem?_getD,hj]) rfl (fun k hk=>by
  show no8.getD k false = false
  unfold no8
  match k,(show k < 8 by omega) with
  | 0,_=>rfl
  | 1,_=>rfl
  | 2,_=>rfl
  | 3,_=>rfl
  | 4,_=>rfl
  | 5,_=>rfl
  | 6,_=>rfl
  | 7,_=>rfl)] at h3
 exact h3
structure Vld (l:List (Tup evK)) (p:List (Tup paK)) (s:Int):Prop where
 l4:l.length ≤ 4
 p4:p.length ≤ 4
 e:∀ e ∈ l,okE e
 p:∀ q ∈ p,okP q
 s:s ≤ 300
theorem best12 {l:List (Tup evK)} {p:List (Tup paK)} {s:Int} (G:Vld l p s):∃ v B sec sev,(fin133 l p s).2 = (v,B,sec,sev)∧B.length = l.length∧cM p s (l.zip B) [] 0 = (v,0)∧0 ≤ v∧0 ≤ sec∧sec ≤ v ∧
  ∀ (mt:TLi) (o:Int),mt.length = l.length→cM p s (l.zip mt) [] 0 = (o,0)→o ≤ v∧(mt ≠ B→sev = true∧o ≤ sec):=by
 have hl4:=G.l4
 have hp4:=G.p4
 have hc:=chkM_mv G.e G.p G.s (show l.length ≤ 9 by omega)
 obtain ⟨S',a,b⟩:=top (mv_ne p s l [] 0) (fun x hx=>(hc x hx).1) (mv_lat (show p.length ≤ 8 by omega) l [] 0)
 have h3:=fold133 (l:=l) G.e G.p G.s (show p.length ≤ 8 by omega)
 rw [a] at h3
 cases h3
 generalize (fin133 l p s).2 = S at *
 obtain ⟨v,B,sec,sev⟩:=S
 obtain ⟨k,h1,h2,h3,h4,h5⟩:=b
 have hm:=hc _ (List.mem_of_getElem? h1)
 refine ⟨v,B,sec,sev,rfl,hm.2.1,?_,h2,h3,h4,fun mt o hl hmt=>?_⟩
 ·have h6:=hm.2.2
  unfold chkM at h6
  rw [show ((B.length:Int) != l.length) = false by have:=hm.2.1;simp only at this;simp [this]] at h6
  exact h6
 ·have:=mem_mv G.p l mt [] 0 o G.e hl hmt
  rw [List.nil_append] at this
  obtain ⟨j,hj⟩:=List.getElem?_of_mem this
  obtain ⟨q1,q2⟩:=h5 j _ hj
  refine ⟨q1,fun hne=>q2 fun e=>hne ?_⟩
  subst e
  rw [h1] at hj
  cases hj;rfl
end
end Go.Proofs.YtifnpljmjhnbaaaGreatDoor
namespace Go.Proofs.YtifnpljmjhnbaaaGreatDoor
open Go Go.Am
set_option maxRecDepth 100000
noncomputable section
def shU (y:Tup intK):Tup intK:=t1 (bif i1 y == -1 then -1 else i1 y + 1)
def usU (y:Tup intK):Tup intK:=t1 (bif decide (i1 y ≤ 0) then -1 else i1 y - 1)
theorem any_map {f:Tup intK→Tup intK} {a b:Int} (h:∀ y,(i1 (f y) == a) = (i1 y == b)) (pre:TLi):((pre.map f).any fun y=>i1 y == a) = pre.any fun y=>i1 y == b:=by
 rw [List.any_map]
 congr 1
 funext y
 exact h y
theorem shU_beq {k:Int} (hk:0 ≤ k) (y:Tup intK):(i1 (shU y) == k + 1) = (i1 y == k):=by
 show ((bif i1 y == -1 then -1 else i1 y + 1) == k + 1) = (i1 y == k)
 by_cases h:i1 y = -1
 ·rw [h]
  show ((-1:Int) == k + 1) = ((-1:Int) == k)
  rw [beq_eq_false_iff_ne.2 (show (-1:Int) ≠ k + 1 by omega),beq_eq_false_iff_ne.2 (show (-1:Int) ≠ k by omega)]
 ·rw [beq_eq_false_iff_ne.2 h]
  rw [Bool.eq_iff_iff,beq_iff_eq,beq_iff_eq]
  show i1 y + 1 = k + 1 ↔ i1 y = k
  omega
theorem usU_beq {k:Int} (hk:0 < k) (y:Tup intK):(i1 (usU y) == k - 1) = (i1 y == k):=by
 show ((bif decide (i1 y ≤ 0) then -1 else i1 y - 1) == k - 1) = (i1 y == k)
 by_cases h:i1 y ≤ 0
 ·rw [decide_eq_true h]
  show ((-1:Int) == k - 1) = (i1 y == k)
  rw [beq_eq_false_iff_ne.2 (show (-1:Int) ≠ k - 1 by omega),beq_eq_false_iff_ne.2 (show i1 y ≠ k by omega)]
 ·rw [decide_eq_false h]
  rw [Bool.eq_iff_iff,beq_iff_eq,beq_iff_eq]
  show i1 y - 1 = k - 1 ↔ i1 y = k
  omega
theorem nth_cons (q:Tup paK) (p:List (Tup paK)) (k:Nat):nth (q :: p) (k + 1) = nth p k:=by simp [nth]
theorem cM_sh {q:Tup paK} {p:List (Tup paK)} {s:Int}:∀ (es:List (Tup evK)) (suf pre:TLi) (sum o:Int),cM p s (es.zip suf) pre sum = (o,0)→cM (q :: p) s (es.zip (suf.map shU)) (pre.map shU) sum = (o,0)
 | [],_,pre,sum,o,h=>by rw [List.zip_nil_left,cM] at h ⊢;exact h
 | _ :: _,[],pre,sum,o,h=>by rw [List.zip_nil_right,cM] at h;rw [List.map_nil,List.zip_nil_right,cM];exact h
 | e :: es,y :: suf,pre,sum,o,h=>by
   rw [List.zip_cons_cons] at h
   obtain ⟨h1,h2⟩:=cM_step.1 h
   have ih:=cM_sh (q:=q) es suf (pre++[y]) _ o h2
   rw [List.map_append] at ih
   rw [List.map_cons,List.zip_cons_cons]
   refine cM_step.2 ?_
   rcases eM_zero.1 h1 with hk | ⟨k1,k2,k3,k4⟩
   ·have e1:i1 (shU y) = -1:=by show (bif i1 y == -1 then -1 else i1 y + 1) = -1;rw [hk];rfl
    rw [e1]
    rw [hk] at ih
    exact ⟨eM_zero.2 (.inl rfl),ih⟩
   ·have e1:i1 (shU y) = i1 y + 1:=by
     show (bif i1 y == -1 then -1 else i1 y + 1) = i1 y + 1
     rw [beq_eq_false_iff_ne.2 (by omega)];rfl
    have en:nth (q :: p) (i1 y + 1).toNat = nth p (i1 y).toNat:=by
     rw [show (i1 y + 1).toNat = (i1 y).toNat + 1 by omega]
     exact nth_cons q p _
    rw [e1]
    refine ⟨eM_zero.2 (.inr ⟨by omega,by rw [List.length_cons];omega,?_,by rw [en];exact k4⟩),?_⟩
    ·rw [any_map (shU_beq k1)];exact k3
    ·rw [wM_some (by omega),en]
     rw [wM_some k1] at ih
     exact ih
theorem cM_us {q:Tup paK} {p:List (Tup paK)} {s:Int} (hq:∀ x ∈ q :: p,okP x) (hs:s ≤ 300):∀ (es:List (Tup evK)) (suf pre:TLi) (sum sum' o:Int),(∀ e ∈ es,okE e)→0 ≤ sum→sum + 1000 * (es.length:Int) ≤ 100000→0 ≤ sum'→sum' + 1000 * (es.length:Int) ≤ 100000 →
  cM (q :: p) s (es.zip suf) pre sum = (o,0)→∃ o',cM p s (es.zip (suf.map usU)) (pre.map usU) sum' = (o',0)∧o - sum ≤ o' - sum' + bif (pre.any fun y=>i1 y == 0) then 0 else 1000
 | [],suf,pre,sum,sum',o,_,_,_,_,_,h=>by
   have:sum = o:=by simpa [List.zip,cM] using h
   subst this
   refine ⟨sum',by simp [List.zip,cM],?_⟩
   cases (pre.any fun y=>i1 y == 0) <;> simp
 | e :: es,[],pre,sum,sum',o,_,_,_,_,_,h=>by
   have:sum = o:=by simpa [List.zip,cM] using h
   subst this
   refine ⟨sum',by simp [List.zip,cM],?_⟩
   cases (pre.any fun y=>i1 y == 0) <;> simp
 | e :: es,y :: suf,pre,sum,sum',o,he,b1,b2,b3,b4,h=>by
   rw [List.length_cons] at b2 b4
   rw [List.zip_cons_cons] at h
   obtain ⟨h1,h2⟩:=cM_step.1 h
   have hany:∀ a:Bool,((pre++[y]).any fun y=>i1 y == 0) = ((pre.any fun y=>i1 y == 0) || (i1 y == 0)):=fun _=>by simp
   rw [List.map_cons,List.zip_cons_cons]
   rcases eM_zero.1 h1 with hk | ⟨k1,k2,k3,k4⟩
   ·rw [hk,wM_none] at h2
    obtain ⟨o',i1',i2⟩:=cM_us hq hs es suf (pre++[y]) sum sum' o (fun e' h=>he e' (by simp [h])) b1 (by omega) b3 (by omega) h2
    have e1:i1 (usU y) = -1:=by show (bif decide (i1 y ≤ 0) then -1 else i1 y - 1) = -1;rw [decide_eq_true (by omega)];rfl
    refine ⟨o',cM_step.2 ⟨by rw [e1];exact eM_zero.2 (.inl rfl),?_⟩,?_⟩
    ·rw [e1,wM_none]
     rw [List.map_append] at i1'
     exact i1'
    ·rw [hany true,show (i1 y == 0) = false from beq_eq_false_iff_ne.2 (by omega),Bool.or_false] at i2
     exact i2
   ·have hn:(i1 y).toNat < (q :: p).length:=by omega
    obtain ⟨v1,v2,v3,v4⟩:=v58 (he e (by simp)) (hq _ (nth_in hn)) hs k4
    rw [wM_some k1,v2,W_id (by omega) (by omega)] at h2
    by_cases k0:i1 y = 0
    ·obtain ⟨o',i1',i2⟩:=cM_us hq hs es suf (pre++[y]) _ sum' o (fun e' h=>he e' (by simp [h])) (by omega) (by omega) b3 (by omega) h2
     have e1:i1 (usU y) = -1:=by show (bif decide (i1 y ≤ 0) then -1 else i1 y - 1) = -1;rw [decide_eq_true (by omega)];rfl
     refine ⟨o',cM_step.2 ⟨by rw [e1];exact eM_zero.2 (.inl rfl),?_⟩,?_⟩
     ·rw [e1,wM_none]
      rw [List.map_append] at i1'
      exact i1'
     ·rw [hany true,show (i1 y == 0) = true by rw [k0];rfl,Bool.or_true] at i2
      rw [k0] at k3
      rw [k3]
      simp only [cond_true] at i2
      simp only [cond_false]
      omega
    ·have e1:i1 (usU y) = i1 y - 1:=by show (bif decide (i1 y ≤ 0) then -1 else i1 y - 1) = i1 y - 1;rw [decide_eq_false (by omega)];rfl
     have en:nth p (i1 y - 1).toNat = nth (q :: p) (i1 y).toNat:=by
      rw [show (i1 y).toNat = (i1 y - 1).toNat + 1 by omega]
      exact (nth_cons q p _).symm
     obtain ⟨o',i1',i2⟩:=cM_us hq hs es suf (pre++[y]) _ (sum' + (1000 - distP e (nth (q :: p) (i1 y).toNat))) o (fun e' h=>he e' (by simp [h])) (by omega) (by omega) (by omega) (by omega) h2
     rw [List.length_cons] at k2
     refine ⟨o',cM_step.2 ⟨?_,?_⟩,?_⟩
     ·rw [e1]
      refine eM_zero.2 (.inr ⟨by omega,by omega,?_,by rw [en];exact k4⟩)
      rw [any_map (usU_beq (by omega))];exact k3
     ·rw [e1,wM_some (by omega),en,v2,W_id (by omega) (by omega)]
      rw [List.map_append] at i1'
      exact i1'
     ·rw [hany true,show (i1 y == 0) = false from beq_eq_false_iff_ne.2 k0,Bool.or_false] at i2
      omega
theorem cM_sl {p:List (Tup paK)} {s s':Int} (hq:∀ x ∈ p,okP x) (hs:s ≤ 300) (hss:s' ≤ s):∀ (es:List (Tup evK)) (suf pre:TLi) (sum o:Int),(∀ e ∈ es,okE e)→cM p s' (es.zip suf) pre sum = (o,0)→cM p s (es.zip suf) pre sum = (o,0)
 | [],suf,pre,sum,o,_,h=>by simpa [List.zip,cM] using h
 | e :: es,[],pre,sum,o,_,h=>by simpa [List.zip,cM] using h
 | e :: es,y :: suf,pre,sum,o,he,h=>by
   rw [List.zip_cons_cons] at h ⊢
   obtain ⟨h1,h2⟩:=cM_step.1 h
   have ih:=cM_sl hq hs hss es suf (pre++[y]) _ o (fun e' h=>he e' (by simp [h])) h2
   refine cM_step.2 ?_
   rcases eM_zero.1 h1 with hk | ⟨k1,k2,k3,k4⟩
   ·rw [hk] at ih ⊢
    exact ⟨eM_zero.2 (.inl rfl),ih⟩
   ·have hn:(i1 y).toNat < p.length:=by omega
    have ho:=hq _ (nth_in hn)
    have h3:=v58 (he e (by simp)) ho (by omega) k4
    have hx:expl e (nth p (i1 y).toNat) s = true:=by
     have h4:=h3.1
     unfold expl at h4 ⊢
     simp only [Bool.not_eq_true',Bool.or_eq_false_iff,decide_eq_false_iff_not] at h4 ⊢
     exact ⟨by omega,h4.2⟩
    have e1:=v58_of (he e (by simp)) ho hs hx
    refine ⟨eM_zero.2 (.inr ⟨k1,k2,k3,by rw [e1]⟩),?_⟩
    rw [wM_some k1] at ih ⊢
    rw [e1]
    rw [h3.2.1] at ih
    exact ih
theorem chkFrom_sub:∀ (l:List (Tup paK)) (a b:List ByteArray),(∀ x ∈ b,x ∈ a)→chkFrom a l = 0→chkFrom b l = 0
 | [],_,_,_,_=>rfl
 | w :: ws,a,b,hab,h=>by
   unfold chkFrom at h ⊢
   obtain ⟨h1,h2⟩:=first_zero h
   have ih:=chkFrom_sub ws (a++[pn w]) (b++[pn w]) (fun x hx=>by
    rcases List.mem_append.1 hx with hx | hx
    ·exact List.mem_append.2 (.inl (hab x hx))
    ·exact List.mem_append.2 (.inr hx)) h2
   have e:chkE b w = 0:=by
    unfold chkE at h1 ⊢
    obtain ⟨h3,h4⟩:=first_zero h1
    rw [h3]
    cases ha:(a.any fun s=>pn w == s) with
    | true=>rw [ha] at h4;cases h4
    | false=>
      rw [ha] at h4
      have hb:(b.any fun s=>pn w == s) = false:=by
       rw [List.any_eq_false] at ha ⊢
       exact fun x hx=>ha x (hab x hx)
      rw [hb]
      exact h4
   rw [e,ih];rfl
theorem chkPa_tail {q:Tup paK} {p:List (Tup paK)} (h:chkPa (q :: p) = 0):chkPa p = 0:=by
 have hl:=pa_len h
 rw [List.length_cons] at hl
 unfold chkPa at h ⊢
 rw [List.length_cons,decide_eq_false (by omega)] at h
 rw [decide_eq_false (by omega)]
 have h:chkFrom [] (q :: p) = 0:=h
 unfold chkFrom at h
 exact chkFrom_sub p _ _ (fun x hx=>by cases hx) (first_zero h).2
theorem allZ_of {l:List (Tup evK)} {p:List (Tup paK)} {s:Int} (h1:chkEv l = 0) (h2:chkPa p = 0) (h3:withinZ s 0 300 = 0):allZ l p s = 0:=by
 unfold allZ firstZ firstZ firstZ firstZ
 rw [h1,h2,h3];rfl
theorem vld_of {l:List (Tup evK)} {p:List (Tup paK)} {s:Int} (h:allZ l p s = 0) (hl:l.length ≤ 4) (hp:p.length ≤ 4):Vld l p s:=by
 have hne:(allZ l p s != 0) = false:=by rw [h];rfl
 obtain ⟨a,b,c⟩:=allZ_ok hne
 exact ⟨hl,hp,evs_ok a,pas_ok b,slack_le c⟩
theorem okV_of {l:List (Tup evK)} {p:List (Tup paK)} {s:Int} (h:allZ l p s = 0) (h0:0 < l.length) (hl:l.length ≤ 4) (hp:p.length ≤ 4):okV l p s = true:=by
 unfold okV
 rw [h,few_of hl,fewP_of hp]
 simpa [Nat.blt_eq] using h0
end
end Go.Proofs.YtifnpljmjhnbaaaGreatDoor
namespace Go.Proofs.YtifnpljmjhnbaaaGreatDoor
open Go Go.Am
set_option maxRecDepth 100000
noncomputable section
def fs (a:TLi):Nat→Int
 | 0=>0
 | n + 1=>fs a n + i1 (nth a n)
def fb (b pre:TLi):Nat→Int
 | 0=>0
 | n + 1=>fb b pre n + bif (pre.any fun y=>i1 y == (n:Int)) then 0 else i1 (nth b n)
theorem fb_nil (b:TLi):∀ n,fb b [] n = fs b n
 | 0=>rfl
 | n + 1=>by unfold fb fs;rw [fb_nil b n];rfl
theorem any_snoc (pre:TLi) (y:Tup intK) (k:Int):((pre++[y]).any fun z=>i1 z == k) = ((pre.any fun z=>i1 z == k) || (i1 y == k)):=by simp
theorem fb_same {b pre:TLi} {y:Tup intK}:∀ n:Nat,(∀ j:Nat,j < n→i1 y ≠ (j:Int))→fb b (pre++[y]) n = fb b pre n
 | 0,_=>rfl
 | n + 1,h=>by
   unfold fb
   rw [fb_same n fun j hj=>h j (by omega),any_snoc,beq_eq_false_iff_ne.2 (h n (by omega)),Bool.or_false]
theorem fb_take {b pre:TLi} {y:Tup intK} {k:Nat} (hy:i1 y = (k:Int)) (hk:(pre.any fun z=>i1 z == (k:Int)) = false):∀ n:Nat,k < n→fb b pre n = i1 (nth b k) + fb b (pre++[y]) n
 | 0,h=>by omega
 | n + 1,h=>by
   unfold fb
   rw [any_snoc]
   by_cases e:k = n
   ·subst e
    rw [hk,fb_same k fun j hj=>by rw [hy];omega,show (i1 y == (k:Int)) = true by rw [hy];simp]
    simp only [Bool.or_true,cond_true,cond_false]
    omega
   ·rw [fb_take hy hk n (by omega),beq_eq_false_iff_ne.2 (show i1 y ≠ (n:Int) by rw [hy];omega),Bool.or_false]
    omega
theorem fb_pos {b pre:TLi}:∀ n:Nat,(∀ j:Nat,j < n→0 ≤ i1 (nth b j))→0 ≤ fb b pre n
 | 0,_=>Int.le_refl _
 | n + 1,h=>by
   have h1:=fb_pos (b:=b) (pre:=pre) n fun j hj=>h j (by omega)
   have h2:=h n (by omega)
   unfold fb
   cases (pre.any fun y=>i1 y == (n:Int)) with
   | true=>simpa using h1
   | false=>simp only [cond_false];omega
theorem cM_price {l:List (Tup evK)} {p:List (Tup paK)} {s:Int} {a b:TLi} (hp:∀ q ∈ p,okP q) (hs:s ≤ 300) (ha:∀ j:Nat,j < l.length→0 ≤ i1 (nth a j)) (hb:∀ j:Nat,j < p.length→0 ≤ i1 (nth b j))
  (hv:∀ (i k:Nat),i < l.length→k < p.length→(val58 (nth l i) (nth p k) s).2 = 0→(val58 (nth l i) (nth p k) s).1 ≤ i1 (nth a i) + i1 (nth b k)) :
  ∀ (f i:Nat) (suf pre:TLi) (sum o:Int),i + f = l.length→(∀ e ∈ l,okE e)→suf.length = f→0 ≤ sum→sum + 1000 * (f:Int) ≤ 100000→cM p s ((l.drop i).zip suf) pre sum = (o,0)→o ≤ sum + (fs a l.length - fs a i) + fb b pre p.length
 | 0,i,suf,pre,sum,o,hi,he,hl,b1,b2,h=>by
   have hn:i = l.length:=by omega
   subst hn
   rw [List.drop_eq_nil_of_le (Nat.le_refl _),List.zip_nil_left,cM] at h
   have:sum = o:=congrArg Prod.fst h
   have:=fb_pos (b:=b) (pre:=pre) p.length hb
   omega
 | f + 1,i,[],pre,sum,o,hi,he,hl,b1,b2,h=>by simp at hl
 | f + 1,i,y :: suf,pre,sum,o,hi,he,hl,b1,b2,h=>by
   have hil:i < l.length:=by omega
   have hd:l.drop i = nth l i :: l.drop (i + 1):=by
    rw [show nth l i = l[i] by simp [nth,hil]]
    exact List.drop_eq_getElem_cons hil
   rw [hd,List.zip_cons_cons] at h
   obtain ⟨h1,h2⟩:=cM_step.1 h
   have hai:=ha i hil
   have hoe:okE (nth l i):=he _ (by rw [show nth l i = l[i] by simp [nth,hil]];exact List.getElem_mem _)
   have hfs:fs a (i + 1) = fs a i + i1 (nth a i):=rfl
   rcases eM_zero.1 h1 with hk | ⟨k1,k2,k3,k4⟩
   ·rw [hk,wM_none] at h2
    have ih:=cM_price hp hs ha hb hv f (i + 1) suf (pre++[y]) sum o (by omega) he (by simpa using hl) b1 (by omega) h2
    rw [fb_same p.length fun j hj=>by rw [hk];omega] at ih
    omega
   ·obtain ⟨k,hk⟩:=Int.eq_ofNat_of_zero_le k1
    have hkp:k < p.length:=by omega
    rw [hk] at k3 k4
    rw [Int.toNat_natCast] at k4
    obtain ⟨v1,v2,v3,v4⟩:=v58 hoe (hp _ (nth_in hkp)) hs k4
    have hvv:=hv i k hil hkp k4
    rw [wM_some k1,hk,Int.toNat_natCast,W_id (by omega) (by omega)] at h2
    have ih:=cM_price hp hs ha hb hv f (i + 1) suf (pre++[y]) _ o (by omega) he (by simpa using hl) (by omega) (by omega) h2
    have:=fb_take (b:=b) hk k3 p.length hkp
    omega
theorem sumN_fs {a:TLi}:∀ (n:Nat) (s:Int),(∀ j:Nat,j < n→0 ≤ i1 (nth a j)∧i1 (nth a j) ≤ 1000)→n ≤ 100→0 ≤ s→s ≤ 200000→sumN a n s = s + fs a n∧0 ≤ fs a n∧fs a n ≤ 1000 * (n:Int)
 | 0,s,_,_,_,_=>by unfold sumN fs;simp
 | n + 1,s,h,hn,h0,h1=>by
   obtain ⟨e1,e2,e3⟩:=sumN_fs n s (fun j hj=>h j (by omega)) (by omega) h0 h1
   obtain ⟨q1,q2⟩:=h n (by omega)
   have hf:fs a (n + 1) = fs a n + i1 (nth a n):=rfl
   refine ⟨?_,by omega,by omega⟩
   have:sumN a (n + 1) s = sa72 a (n:Int) (sumN a n s):=by
    unfold sumN
    rw [List.range'_1_concat,List.foldl_append]
    simp
   rw [this]
   unfold sa72
   rw [e1,Int.toNat_natCast,W_id (by omega) (by omega),hf]
   omega
theorem nth_mem' {a:TLi} {j:Nat} (h:j < a.length):nth a j ∈ a:=by
 rw [show nth a j = a[j] by simp [nth,h]]
 exact List.getElem_mem _
theorem anyR_of {l:List (Tup evK)} {p:List (Tup paK)} {s:Int} {a b:TLi}:anyR l p s a b = false ↔ ∀ (i k:Nat),i < l.length→k < p.length→refB (nth l i) (nth p k) s (nth a i) (nth b k) = false:=by
 unfold anyR refE
 rw [List.any_eq_false]
 constructor
 ·intro h i k hi hk
  have h1:=h i (by rw [List.mem_range'_1];omega)
  rw [Bool.not_eq_true,List.any_eq_false] at h1
  have h2:=h1 k (by rw [List.mem_range'_1];omega)
  simpa using h2
 ·intro h i hi
  rw [List.mem_range'_1] at hi
  rw [Bool.not_eq_true,List.any_eq_false]
  intro k hk
  rw [List.mem_range'_1] at hk
  rw [h i k (by omega) (by omega)]
  decide
theorem bnd_match {l:List (Tup evK)} {p:List (Tup paK)} {s:Int} {a b:TLi} (G:Vld l p s) (hz:allZ l p s = 0) (hb:(bnd l p s a b).2 = 0) {mt:TLi} {o:Int} (hl:mt.length = l.length) (hm:cM p s (l.zip mt) [] 0 = (o,0)):o ≤ (bnd l p s a b).1:=by
 have h4:=G.l4
 have h5:=G.p4
 unfold bnd at hb ⊢
 rw [show (allZ l p s != 0) = false by rw [hz];rfl] at hb ⊢
 simp only [cond_false] at hb ⊢
 cases hq:(pZ l p a b != 0) with
 | true=>
   rw [hq] at hb
   have:pZ l p a b = 0:=hb
   rw [this] at hq;cases hq
 | false=>
   rw [hq] at hb
   obtain ⟨e1,e2,w1,w2⟩:=pZ_zero (show pZ l p a b = 0 by simpa using hq)
   have ra:∀ j:Nat,j < l.length→0 ≤ i1 (nth a j)∧i1 (nth a j) ≤ 1000:=fun j hj=>wiL_zero w1 _ (nth_mem' (by omega))
   have rb:∀ j:Nat,j < p.length→0 ≤ i1 (nth b j)∧i1 (nth b j) ≤ 1000:=fun j hj=>wiL_zero w2 _ (nth_mem' (by omega))
   simp only [cond_false] at hb ⊢
   unfold bndR at hb ⊢
   cases hr:anyR l p s a b with
   | true=>rw [hr] at hb;cases hb
   | false=>
     simp only [cond_false]
     obtain ⟨f1,f2,f3⟩:=sumN_fs (a:=a) l.length 0 ra (by omega) (by omega) (by omega)
     obtain ⟨f4,f5,f6⟩:=sumN_fs (a:=b) p.length (sumN a l.length 0) rb (by omega) (by omega) (by omega)
     have:=cM_price (l:=l) (a:=a) (b:=b) G.p G.s (fun j hj=>(ra j hj).1) (fun j hj=>(rb j hj).1) (fun i k hi hk hv=>by
      have h:=anyR_of.1 hr i k hi hk
      unfold refB smW at h
      rw [hv] at h
      have x1:=ra i hi
      have x2:=rb k hk
      rw [W_id (by omega) (by omega)] at h
      simp only [beq_self_eq_true,Bool.true_and,decide_eq_false_iff_not] at h
      omega) l.length 0 mt [] 0 o (by omega) G.e hl (by omega) (by omega) hm
     rw [fb_nil] at this
     rw [f4,f1]
     have e0:fs a 0 = 0:=rfl
     omega
theorem bnd_ok {l:List (Tup evK)} {p:List (Tup paK)} {s:Int} {a b:TLi} (hz:allZ l p s = 0) (ha:a.length = l.length) (hb:b.length = p.length) (ra:∀ x ∈ a,0 ≤ i1 x∧i1 x ≤ 1000) (rb:∀ x ∈ b,0 ≤ i1 x∧i1 x ≤ 1000)
  (hv:∀ (i k:Nat),i < l.length→k < p.length→(val58 (nth l i) (nth p k) s).2 = 0→(val58 (nth l i) (nth p k) s).1 ≤ i1 (nth a i) + i1 (nth b k)):(bnd l p s a b).2 = 0:=by
 have hw:∀ (c:TLi),(∀ x ∈ c,0 ≤ i1 x∧i1 x ≤ 1000)→wiL c = 0:=fun c=>by
  induction c with
  | nil=>intro _;rfl
  | cons x c ih=>
    intro h
    have h1:=h x (by simp)
    rw [show wiL (x :: c) = bif wi1 x != 0 then wi1 x else wiL c from rfl,ih fun y hy=>h y (by simp [hy])]
    have:wi1 x = 0:=by
     unfold wi1 withinZ
     simp only [decide_eq_false (show ¬ i1 x < 0 by omega),decide_eq_false (show ¬ i1 x > 1000 by omega)]
     rfl
    rw [this];rfl
 have hl7:l71 l p a b = 0:=by
  unfold l71 firstZ firstZ firstZ whenZ
  rw [show ((a.length:Int) != l.length) = false by simp [ha],show ((b.length:Int) != p.length) = false by simp [hb]];rfl
 have hp:pZ l p a b = 0:=by
  unfold pZ
  rw [hl7,hw a ra,hw b rb];rfl
 unfold bnd
 rw [show (allZ l p s != 0) = false by rw [hz];rfl,hp]
 have hr:anyR l p s a b = false:=anyR_of.2 fun i k hi hk=>by
  unfold refB smW
  cases hc:((val58 (nth l i) (nth p k) s).2 == 0) with
  | false=>rfl
  | true=>
    have h1:=hv i k hi hk (by simpa using hc)
    have x1:=ra _ (nth_mem' (a:=a) (show i < a.length by omega))
    have x2:=rb _ (nth_mem' (a:=b) (show k < b.length by omega))
    rw [W_id (by omega) (by omega),decide_eq_false (by omega)];rfl
 show (bndR l p s a b).2 = 0
 unfold bndR
 rw [hr];rfl
end
end Go.Proofs.YtifnpljmjhnbaaaGreatDoor
