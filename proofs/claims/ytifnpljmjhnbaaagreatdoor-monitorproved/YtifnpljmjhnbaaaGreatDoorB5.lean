/-
 A part of the proof of the statement that the claim names: see the last file.
-/
import Derived.Test.YtifnpljmjhnbaaaGreatDoorB4
import Derived.Test.YtifnpljmjhnbaaaGreatDoorT5
namespace Go.Proofs.YtifnpljmjhnbaaaGreatDoor
open Go Go.Am
set_option maxRecDepth 100000
noncomputable section
abbrev S4:=Int × TLi × Int × Bool
def stp (x:TLi × Int) (st:S4):S4:=(endPB x.2 (x.1,st)).2
def stO (s2:Int) (sv:Bool) (o:Option S4) (x:TLi × Int):Option S4:=match o with
 | none=>some (x.2,x.1,s2,sv)
 | some st=>some (stp x st)
def lvL (f:Int→Us→TLi→List (TLi × Int)) (sum:Int) (u:Us) (pre:TLi):List (Nat × Tup intK)→List (TLi × Int)
 | []=>f sum u (pre++[t1 (-1)])
 | (k,v) :: r=>bif i1 v == -1 then lvL f sum u pre r else bif u.getD k false then lvL f sum u pre r else f (IntKind.i64.wrap (sum + i1 v)) (u.set k true) (pre++[t1 k])++lvL f sum u pre r
def lv (rows:List TLi):Nat→Nat→Int→Us→TLi→List (TLi × Int)
 | 0,_,sum,_,pre=>[(pre,sum)]
 | d + 1,i,sum,u,pre=>lvL (lv rows d (i + 1)) sum u pre (enum 0 (rows.getD i []))
def Tells (s2:Int) (sv:Bool) (pre:TLi) (d:Nat) (xs:List (TLi × Int)) (o:Option S4) (S:S5):Prop:=∃ j:TLi,j.length = d∧S.1 = pre++j∧some S.2 = xs.foldl (stO s2 sv) o
theorem endPB_fst (sum:Int) (st:S5):(endPB sum st).1 = st.1:=by
 unfold endPB
 cases decide (cmpV sum st.1 st.2.1 st.2.2.1 < 0) <;> rfl
theorem stM_pre {i:Nat} {pre j:TLi} (hi:pre.length = i) (hj:0 < j.length) (k:Int):∃ j':TLi,j'.length + 1 = j.length∧stM i (pre++j) k = (pre++[t1 k])++j':=by
 cases j with
 | nil=>simp at hj
 | cons a j=>
   refine ⟨j,rfl,?_⟩
   unfold stM
   rw [List.set_append_right _ _ (by omega),hi,Nat.sub_self]
   simp
section
variable {s2:Int} {sv:Bool} {rows:List TLi} {i d:Nat} {GA:GAf} {GB:GBf} {f:Int→Us→TLi→List (TLi × Int)}
theorem Tells.pre {pre:TLi} {k:Int} {xs:List (TLi × Int)} {o:Option S4} {S:S5} (h:Tells s2 sv (pre++[t1 k]) d xs o S):Tells s2 sv pre (d + 1) xs o S:=by
 obtain ⟨j,h1,h2,h3⟩:=h
 exact ⟨t1 k :: j,by simp [h1],by rw [h2];simp,h3⟩
theorem lpPB_lv (hB:∀ (sum:Int) (u:Us) (pre j:TLi) (st:S4),pre.length = i + 1→j.length = d→Tells s2 sv pre d (f sum u pre) (some st) (GB rows sum u (pre++j,st))) (sum:Int) (u:Us) (pre:TLi) (hp:pre.length = i) :
  ∀ (l:List (Nat × Tup intK)) (j:TLi) (st:S4),j.length = d + 1→Tells s2 sv pre (d + 1) (lvL f sum u pre l) (some st) (lpPB i GB rows sum u l (pre++j,st))
 | [],j,st,hj=>by
   obtain ⟨j',h1,h2⟩:=stM_pre hp (j:=j) (by omega) (-1)
   unfold lpPB lvL
   simp only
   rw [h2]
   exact (hB sum u _ j' st (by simp [hp]) (by omega)).pre
 | (k,v) :: r,j,st,hj=>by
   unfold lpPB lvL
   cases (i1 v == -1) with
   | true=>exact lpPB_lv hB sum u pre hp r j st hj
   | false=>
     cases u.getD k false with
     | true=>exact lpPB_lv hB sum u pre hp r j st hj
     | false=>
       simp only [cond_false]
       obtain ⟨j',h1,h2⟩:=stM_pre hp (j:=j) (by omega) k
       rw [h2]
       obtain ⟨j2,k1,k2,k3⟩:=(hB (IntKind.i64.wrap (sum + i1 v)) (u.set k true) (pre++[t1 k]) j' st (by simp [hp]) (by omega)).pre
       generalize GB rows (IntKind.i64.wrap (sum + i1 v)) (u.set k true) (pre++[t1 k]++j',st) = S at *
       obtain ⟨S1,S2⟩:=S
       simp only at k2 k3
       subst k2
       obtain ⟨j3,m1,m2,m3⟩:=lpPB_lv hB sum u pre hp r j2 S2 k1
       exact ⟨j3,m1,m2,by rw [List.foldl_append,← k3];exact m3⟩
theorem lpPA_lv (hA:∀ (sum:Int) (u:Us) (pre j:TLi),pre.length = i + 1→j.length = d→Tells s2 sv pre d (f sum u pre) none (GA rows sum u (pre++j) s2 sv))
  (hB:∀ (sum:Int) (u:Us) (pre j:TLi) (st:S4),pre.length = i + 1→j.length = d→Tells s2 sv pre d (f sum u pre) (some st) (GB rows sum u (pre++j,st))) (sum:Int) (u:Us) (pre:TLi) (hp:pre.length = i) :
  ∀ (l:List (Nat × Tup intK)) (j:TLi),j.length = d + 1→Tells s2 sv pre (d + 1) (lvL f sum u pre l) none (lpPA i GA GB rows sum u l (pre++j) s2 sv)
 | [],j,hj=>by
   obtain ⟨j',h1,h2⟩:=stM_pre hp (j:=j) (by omega) (-1)
   unfold lpPA lvL
   rw [h2]
   exact (hA sum u _ j' (by simp [hp]) (by omega)).pre
 | (k,v) :: r,j,hj=>by
   unfold lpPA lvL
   cases (i1 v == -1) with
   | true=>exact lpPA_lv hA hB sum u pre hp r j hj
   | false=>
     cases u.getD k false with
     | true=>exact lpPA_lv hA hB sum u pre hp r j hj
     | false=>
       simp only [cond_false]
       obtain ⟨j',h1,h2⟩:=stM_pre hp (j:=j) (by omega) k
       rw [h2]
       obtain ⟨j2,k1,k2,k3⟩:=(hA (IntKind.i64.wrap (sum + i1 v)) (u.set k true) (pre++[t1 k]) j' (by simp [hp]) (by omega)).pre
       generalize GA rows (IntKind.i64.wrap (sum + i1 v)) (u.set k true) (pre++[t1 k]++j') s2 sv = S at *
       obtain ⟨S1,S2⟩:=S
       simp only at k2 k3
       subst k2
       obtain ⟨j3,m1,m2,m3⟩:=lpPB_lv hB sum u pre hp r j2 S2 k1
       exact ⟨j3,m1,m2,by rw [List.foldl_append,← k3];exact m3⟩
end
theorem sB_lv (s2:Int) (sv:Bool) (rows:List TLi):∀ (d i:Nat) (sum:Int) (u:Us) (pre j:TLi) (st:S4),pre.length = i→j.length = d→Tells s2 sv pre d (lv rows d i sum u pre) (some st) (sB d i rows sum u (pre++j,st))
 | 0,i,sum,u,pre,j,st,hp,hj=>by
   have:j = []:=List.length_eq_zero_iff.1 hj
   subst this
   refine ⟨[],rfl,endPB_fst _ _,?_⟩
   show some (endPB sum (pre++[],st)).2 = some (stp (pre,sum) st)
   rw [List.append_nil];rfl
 | d + 1,i,sum,u,pre,j,st,hp,hj=>lpPB_lv (sB_lv s2 sv rows d (i + 1)) sum u pre hp _ j st hj
theorem sA_lv (s2:Int) (sv:Bool) (rows:List TLi):∀ (d i:Nat) (sum:Int) (u:Us) (pre j:TLi),pre.length = i→j.length = d→Tells s2 sv pre d (lv rows d i sum u pre) none (sA d i rows sum u (pre++j) s2 sv)
 | 0,i,sum,u,pre,j,hp,hj=>by
   have:j = []:=List.length_eq_zero_iff.1 hj
   subst this
   refine ⟨[],rfl,rfl,?_⟩
   show some (sum,pre++[],s2,sv) = some (sum,pre,s2,sv)
   rw [List.append_nil]
 | d + 1,i,sum,u,pre,j,hp,hj=>lpPA_lv (sA_lv s2 sv rows d (i + 1)) (sB_lv s2 sv rows d (i + 1)) sum u pre hp _ j hj
def skp (p:List (Tup paK)) (s:Int) (e:Tup evK) (pre:TLi) (k:Nat):Bool:=(pre.any fun y=>i1 y == (k:Int)) || !exR e (nth p k) s
def mv (p:List (Tup paK)) (s:Int):List (Tup evK)→TLi→Int→List (TLi × Int)
 | [],pre,sum=>[(pre,sum)]
 | e :: es,pre,sum=>((List.range' 0 p.length).flatMap fun k=>bif skp p s e pre k then [] else mv p s es (pre++[t1 k]) (IntKind.i64.wrap (sum + (val58 e (nth p k) s).1)))++mv p s es (pre++[t1 (-1)]) sum
theorem val58_fst {e:Tup evK} {q:Tup paK} {s:Int} (h1:okE e) (h2:okP q) (hs:s ≤ 300) (hx:expl e q s = true):(val58 e q s).1 = valN e q s∧(val58 e q s).2 = 0∧700 ≤ valN e q s∧valN e q s ≤ 1000:=by
 have:=expl_pos hs hx
 rw [val58_eq h1 h2 hs,valN_eq e q s hs,hx]
 exact ⟨rfl,rfl,this.1,this.2⟩
theorem nth_app (pa ps:List (Tup paK)) (q:Tup paK):nth (pa++q :: ps) pa.length = q:=by simp [nth,List.getD_eq_getElem?_getD]
theorem lvL_mv {p:List (Tup paK)} {s:Int} {e:Tup evK} {es:List (Tup evK)} (he:okE e) (hp:∀ q ∈ p,okP q) (hs:s ≤ 300) {f:Int→Us→TLi→List (TLi × Int)} {sum:Int} {u:Us} {pre:TLi} (hp8:p.length ≤ 8) (hu8:u.length = 8)
  (hu:∀ k:Nat,k < p.length→u.getD k false = pre.any fun y=>i1 y == (k:Int))
  (hf:∀ (sum:Int) (u:Us) (x:Int),u.length = 8→(∀ k:Nat,k < p.length→u.getD k false = (pre++[t1 x]).any fun y=>i1 y == (k:Int))→f sum u (pre++[t1 x]) = mv p s es (pre++[t1 x]) sum) :
  ∀ (ps pa:List (Tup paK)),p = pa++ps→lvL f sum u pre (enum pa.length (ps.map (vaE e s))) =
   ((List.range' pa.length ps.length).flatMap fun k=>bif skp p s e pre k then [] else mv p s es (pre++[t1 k]) (IntKind.i64.wrap (sum + (val58 e (nth p k) s).1)))++mv p s es (pre++[t1 (-1)]) sum
 | [],pa,h=>hf sum u (-1) hu8 fun k hk=>by
   rw [hu k hk,List.any_append]
   have:((-1:Int) == (k:Int)) = false:=beq_eq_false_iff_ne.2 (by omega)
   show _ = ((pre.any fun y=>i1 y == (k:Int)) || (((-1:Int) == (k:Int)) || false))
   rw [this];simp
 | q :: ps,pa,h=>by
   have ih:=lvL_mv (sum:=sum) he hp hs hp8 hu8 hu hf ps (pa++[q]) (by rw [h];simp)
   rw [show (pa++[q]).length = pa.length + 1 by simp] at ih
   have hk:pa.length < p.length:=by rw [h];simp
   have hn:nth p pa.length = q:=by rw [h];exact nth_app pa ps q
   have hq:okP q:=hp q (by rw [h];simp)
   rw [List.map_cons,List.length_cons,List.range'_succ,List.flatMap_cons]
   show lvL f sum u pre ((pa.length,vaE e s q) :: enum (pa.length + 1) (ps.map (vaE e s))) = _
   unfold lvL
   rw [show i1 (vaE e s q) = valN e q s from rfl,valN_none hs,hu _ hk,ih,hn]
   have hsk:skp p s e pre pa.length = ((pre.any fun y=>i1 y == (pa.length:Int)) || !expl e q s):=by unfold skp;rw [hn,exR_eq he hq]
   rw [hsk]
   cases hx:expl e q s with
   | false=>simp
   | true=>
     cases ha:(pre.any fun y=>i1 y == (pa.length:Int)) with
     | true=>simp
     | false=>
       simp only [Bool.not_true,cond_false,Bool.or_false]
       rw [(val58_fst he hq hs hx).1,hf _ _ _ (by simp [hu8]) fun k hk'=>?_,List.append_assoc]
       rw [List.any_append]
       show _ = ((pre.any fun y=>i1 y == (k:Int)) || (((pa.length:Int) == (k:Int)) || false))
       rw [List.getD_eq_getElem?_getD,List.getElem?_set]
       by_cases hc:pa.length = k
       ·subst hc
        rw [if_pos rfl,if_pos (by omega)]
        simp
       ·have:((pa.length:Int) == (k:Int)) = false:=beq_eq_false_iff_ne.2 (by omega)
        rw [if_neg hc,this,← hu k hk',List.getD_eq_getElem?_getD]
        simp
theorem lv_mv {p:List (Tup paK)} {s:Int} (hp:∀ q ∈ p,okP q) (hs:s ≤ 300) (hp8:p.length ≤ 8) {rows:List TLi}:∀ (es:List (Tup evK)) (i:Nat) (sum:Int) (u:Us) (pre:TLi),(∀ e ∈ es,okE e)→(∀ (j:Nat) (e:Tup evK),es[j]? = some e→rows.getD (i + j) [] = vaL e p s)→u.length = 8 →
  (∀ k:Nat,k < p.length→u.getD k false = pre.any fun y=>i1 y == (k:Int))→lv rows es.length i sum u pre = mv p s es pre sum
 | [],i,sum,u,pre,_,_,_,_=>rfl
 | e :: es,i,sum,u,pre,he,hr,hu8,hu=>by
   have h0:=hr 0 e rfl
   rw [Nat.add_zero] at h0
   show lvL (lv rows es.length (i + 1)) sum u pre (enum 0 (rows.getD i [])) = _
   rw [h0]
   exact lvL_mv (he e (by simp)) hp hs hp8 hu8 hu (fun sum u x k1 k2=>lv_mv hp hs hp8 es (i + 1) sum u _ (fun e' h=>he e' (by simp [h])) (fun j e' hj=>by
    have:=hr (j + 1) e' (by simpa using hj)
    rw [show i + (j + 1) = i + 1 + j by omega] at this
    exact this) k1 k2) p [] rfl
end
end Go.Proofs.YtifnpljmjhnbaaaGreatDoor
namespace Go.Proofs.YtifnpljmjhnbaaaGreatDoor
open Go Go.Am
set_option maxRecDepth 100000
variable {w0:World}
noncomputable section
def rkD (st:S5):D:=.tup [.agg [I st.2.1,.vec intK st.2.2.1],I st.2.2.2.1,Bo st.2.2.2.2]
def no8:Us:=[false,false,false,false,false,false,false,false]
end
end Go.Proofs.YtifnpljmjhnbaaaGreatDoor
namespace Go.Proofs.YtifnpljmjhnbaaaGreatDoor
open Go Go.Am
set_option maxRecDepth 100000
noncomputable section
def mr (p:List (Tup paK)) (s:Int):List (Tup evK)→TLi→List TLi
 | [],pre=>[pre]
 | e :: es,pre=>((List.range' 0 p.length).flatMap fun k=>bif skp p s e pre k then [] else mr p s es (pre++[t1 k]))++mr p s es (pre++[t1 (-1)])
theorem mv_pre (p:List (Tup paK)) (s:Int):∀ (es:List (Tup evK)) (pre:TLi) (sum:Int),∀ x ∈ mv p s es pre sum,∃ suf,x.1 = pre++suf
 | [],pre,sum,x,hx=>by
   have:x = (pre,sum):=by simpa [mv] using hx
   subst this
   exact ⟨[],(List.append_nil _).symm⟩
 | e :: es,pre,sum,x,hx=>by
   unfold mv at hx
   rcases List.mem_append.1 hx with hx | hx
   ·obtain ⟨k,_,hk⟩:=List.mem_flatMap.1 hx
    cases hs:skp p s e pre k with
    | true=>rw [hs] at hk;cases hk
    | false=>
      rw [hs] at hk
      obtain ⟨suf,h⟩:=mv_pre p s es _ _ x hk
      exact ⟨t1 k :: suf,by rw [h];simp⟩
   ·obtain ⟨suf,h⟩:=mv_pre p s es _ _ x hx
    exact ⟨t1 (-1) :: suf,by rw [h];simp⟩
theorem mv_ne (p:List (Tup paK)) (s:Int):∀ (es:List (Tup evK)) (pre:TLi) (sum:Int),mv p s es pre sum ≠ []
 | [],pre,sum,h=>by cases h
 | e :: es,pre,sum,h=>by
   unfold mv at h
   exact mv_ne p s es _ _ (List.append_eq_nil_iff.1 h).2
theorem mv_val {p:List (Tup paK)} {s:Int} (hp:∀ q ∈ p,okP q) (hs:s ≤ 300):∀ (es:List (Tup evK)) (pre:TLi) (sum:Int),(∀ e ∈ es,okE e)→0 ≤ sum→sum + 1000 * (es.length:Int) ≤ 100000 →
  ∀ x ∈ mv p s es pre sum,0 ≤ x.2∧x.2 ≤ 100000∧∃ suf,x.1 = pre++suf∧suf.length = es.length∧cM p s (es.zip suf) pre sum = (x.2,0)
 | [],pre,sum,_,h0,h1,x,hx=>by
   have:x = (pre,sum):=by simpa [mv] using hx
   subst this
   exact ⟨h0,by simpa using h1,[],(List.append_nil _).symm,rfl,rfl⟩
 | e :: es,pre,sum,he,h0,h1,x,hx=>by
   rw [List.length_cons] at h1
   unfold mv at hx
   rcases List.mem_append.1 hx with hx | hx
   ·obtain ⟨k,hkm,hk⟩:=List.mem_flatMap.1 hx
    have hkl:k < p.length:=by rw [List.mem_range'_1] at hkm;omega
    have hq:okP (nth p k):=hp _ (by
     rw [show nth p k = p[k] by simp [nth,hkl]]
     exact List.getElem_mem _)
    cases hsk:skp p s e pre k with
    | true=>rw [hsk] at hk;cases hk
    | false=>
      rw [hsk] at hk
      simp only [cond_false] at hk
      unfold skp at hsk
      rw [exR_eq (he e (by simp)) hq,Bool.or_eq_false_iff,Bool.not_eq_false'] at hsk
      obtain ⟨ha,hx1⟩:=hsk
      obtain ⟨v1,v2,v3,v4⟩:=val58_fst (he e (by simp)) hq hs hx1
      have hW:IntKind.i64.wrap (sum + (val58 e (nth p k) s).1) = sum + valN e (nth p k) s:=by rw [v1];exact W_id (by omega) (by omega)
      obtain ⟨a,b,suf,c,d,g⟩:=mv_val hp hs es (pre++[t1 k]) _ (fun e' h=>he e' (by simp [h])) (by rw [hW];omega) (by rw [hW];omega) x hk
      refine ⟨a,b,t1 k :: suf,by rw [c];simp,by simp [d],?_⟩
      rw [List.zip_cons_cons]
      unfold cM
      have e0:eM p s e (i1 (t1 (k:Int))) pre = 0:=by
       show eM p s e (k:Int) pre = 0
       unfold eM
       rw [decide_eq_false (show ¬ ((k:Int) < -1) by omega),decide_eq_false (show ¬ ((k:Int) ≥ p.length) by omega),beq_eq_false_iff_ne.2 (show (k:Int) ≠ -1 by omega),ha,Int.toNat_natCast,v2]
       rfl
      rw [e0]
      have w0:wM p s e (i1 (t1 (k:Int))) sum = IntKind.i64.wrap (sum + (val58 e (nth p k) s).1):=by
       show wM p s e (k:Int) sum = _
       unfold wM
       rw [beq_eq_false_iff_ne.2 (show (k:Int) ≠ -1 by omega),Int.toNat_natCast]
       rfl
      rw [w0]
      exact g
   ·obtain ⟨a,b,suf,c,d,g⟩:=mv_val hp hs es (pre++[t1 (-1)]) sum (fun e' h=>he e' (by simp [h])) h0 (by omega) x hx
    refine ⟨a,b,t1 (-1) :: suf,by rw [c];simp,by simp [d],?_⟩
    rw [List.zip_cons_cons]
    unfold cM
    have e0:eM p s e (i1 (t1 (-1))) pre = 0:=by
     show eM p s e (-1) pre = 0
     unfold eM
     rw [decide_eq_false (show ¬ ((-1:Int) < -1) by omega),decide_eq_false (show ¬ ((-1:Int) ≥ p.length) by omega)]
     rfl
    rw [e0]
    exact g
theorem chkM_mv {l:List (Tup evK)} {p:List (Tup paK)} {s:Int} (he:∀ e ∈ l,okE e) (hp:∀ q ∈ p,okP q) (hs:s ≤ 300) (hl:l.length ≤ 9):∀ x ∈ mv p s l [] 0,0 ≤ x.2∧x.1.length = l.length∧chkM l p s x.1 = (x.2,0):=fun x hx=>by
 obtain ⟨a,b,suf,c,d,g⟩:=mv_val hp hs l [] 0 he (by omega) (by omega) x hx
 rw [List.nil_append] at c
 subst c
 refine ⟨a,d,?_⟩
 unfold chkM
 rw [show ((x.1.length:Int) != l.length) = false by simp [d]]
 exact g
def Lat (x y:TLi × Int):Prop:=0 ≤ cmpL (y.1.map lsE) (x.1.map lsE)
theorem cmpZ_self (a:Int):cmpZ a a = 0:=by
 unfold cmpZ
 rw [decide_eq_false (by omega)];rfl
theorem cmpL_pre:∀ (pre a b:TLi),cmpL (pre++a) (pre++b) = cmpL a b
 | [],a,b=>rfl
 | x :: pre,a,b=>by
   rw [List.cons_append,List.cons_append,cmpL,cmpZ_self]
   exact cmpL_pre pre a b
theorem lat_of {pre sx sy:TLi} {a b m n:Int} (h:lsI a < lsI b):Lat ((pre++[t1 a])++sx,m) ((pre++[t1 b])++sy,n):=by
 unfold Lat
 simp only [List.map_append,List.append_assoc]
 rw [cmpL_pre]
 show 0 ≤ cmpL (lsE (t1 b) :: sy.map lsE) (lsE (t1 a) :: sx.map lsE)
 unfold cmpL
 have:cmpZ (i1 (lsE (t1 b))) (i1 (lsE (t1 a))) = 1:=by
  show cmpZ (lsI b) (lsI a) = 1
  unfold cmpZ
  rw [decide_eq_false (by omega),decide_eq_true h];rfl
 rw [this]
 show (0:Int) ≤ 1
 decide
theorem lsI_nat (k:Nat):lsI (k:Int) = k:=by
 unfold lsI
 rw [beq_eq_false_iff_ne.2 (show (k:Int) ≠ -1 by omega)];rfl
theorem mv_lat {p:List (Tup paK)} {s:Int} (hp8:p.length ≤ 8):∀ (es:List (Tup evK)) (pre:TLi) (sum:Int),(mv p s es pre sum).Pairwise Lat
 | [],pre,sum=>List.pairwise_singleton ..
 | e :: es,pre,sum=>by
   have key:∀ k x,x ∈ (bif skp p s e pre k then [] else mv p s es (pre++[t1 (k:Int)]) (IntKind.i64.wrap (sum + (val58 e (nth p k) s).1)))→∃ suf,x.1 = (pre++[t1 (k:Int)])++suf:=fun k x hx=>by
    cases hs:skp p s e pre k with
    | true=>rw [hs] at hx;cases hx
    | false=>rw [hs] at hx;exact mv_pre p s es _ _ x hx
   unfold mv
   refine List.pairwise_append.2 ⟨List.pairwise_flatMap.2 ⟨fun k _=>?_,?_⟩,mv_lat hp8 es _ _,fun x hx y hy=>?_⟩
   ·cases skp p s e pre k with
    | true=>exact List.Pairwise.nil
    | false=>exact mv_lat hp8 es _ _
   ·refine List.Pairwise.imp ?_ List.pairwise_lt_range'
    intro a b hab x hx y hy
    obtain ⟨x1,x2⟩:=x
    obtain ⟨y1,y2⟩:=y
    obtain ⟨sx,e1⟩:=key a _ hx
    obtain ⟨sy,e2⟩:=key b _ hy
    simp only at e1 e2
    rw [e1,e2]
    exact lat_of (by rw [lsI_nat,lsI_nat];omega)
   ·obtain ⟨k,hkm,hk⟩:=List.mem_flatMap.1 hx
    obtain ⟨x1,x2⟩:=x
    obtain ⟨y1,y2⟩:=y
    obtain ⟨sx,e1⟩:=key k _ hk
    obtain ⟨sy,e2⟩:=mv_pre p s es _ _ _ hy
    simp only at e1 e2
    rw [e1,e2]
    rw [List.mem_range'_1] at hkm
    exact lat_of (by rw [lsI_nat,show lsI (-1) = 8 from rfl];omega)
def rfo:Nat→List Int→Int × Int × Int→Int × Int × Int
 | _,[],st=>st
 | j,n :: ns,st=>rfo (j + 1) ns (bif decide (n > st.2.1) then ((j:Int),n,st.2.1) else (st.1,st.2.1,mxI n st.2.2))
theorem better {n v:Int} {M B:TLi} (h:0 ≤ cmpL (M.map lsE) (B.map lsE)):decide (cmpV n M v B < 0) = decide (n > v):=by
 unfold cmpV cmpZ
 by_cases h1:v < n
 ·have e:decide (n > v) = true:=decide_eq_true h1
  rw [e];rfl
 ·by_cases h2:n < v
  ·have e:decide (n > v) = false:=decide_eq_false h1
   rw [e,decide_eq_true h2];rfl
  ·have e:decide (n > v) = false:=decide_eq_false h1
   rw [e,decide_eq_false h2]
   exact decide_eq_false (by show ¬ cmpL (M.map lsE) (B.map lsE) < 0;omega)
def Beside (done:List (TLi × Int)) (S:S4) (st:Int × Int × Int):Prop:=
 S.1 = st.2.1∧0 ≤ S.1∧(∃ k:Nat,st.1 = (k:Int)∧done[k]? = some (S.2.1,S.1))∧((S.2.2.2 = false∧st.2.2 = -1∧S.2.2.1 = 0) ∨ (S.2.2.2 = true∧S.2.2.1 = st.2.2∧0 ≤ st.2.2∧st.2.2 ≤ S.1))
theorem beside_step {done:List (TLi × Int)} {S:S4} {st:Int × Int × Int} {x:TLi × Int} (h:Beside done S st) (hx:0 ≤ x.2) (hl:∀ y ∈ done,Lat y x) :
  Beside (done++[x]) (stp x S) (bif decide (x.2 > st.2.1) then ((done.length:Int),x.2,st.2.1) else (st.1,st.2.1,mxI x.2 st.2.2)):=by
 obtain ⟨M,n⟩:=x
 obtain ⟨v,B,sec,sev⟩:=S
 obtain ⟨b,v',s'⟩:=st
 obtain ⟨h1,h2,⟨k,h3,h4⟩,h5⟩:=h
 simp only at h1 h2 h3 h4 h5 hx ⊢
 subst h1
 have hb:=better (n:=n) (v:=v) (hl _ (List.mem_of_getElem? h4))
 have hk:=(List.getElem?_eq_some_iff.1 h4).1
 unfold stp endPB
 simp only
 rw [hb]
 by_cases hc:n > v
 ·rw [decide_eq_true hc]
  refine ⟨rfl,by show 0 ≤ n;exact hx,⟨done.length,rfl,by simp⟩,.inr ⟨rfl,?_,h2,by show v ≤ n;omega⟩⟩
  show mxI v sec = v
  unfold mxI
  split
  ·rfl
  ·rcases h5 with ⟨_,_,h⟩ | ⟨_,h,_,h'⟩ <;> omega
 ·rw [decide_eq_false hc]
  refine ⟨rfl,h2,⟨k,h3,by rw [List.getElem?_append_left hk];exact h4⟩,.inr ⟨rfl,?_,?_,?_⟩⟩
  ·show mxI n sec = mxI n s'
   unfold mxI
   rcases h5 with ⟨_,h,h'⟩ | ⟨_,h,h',h''⟩ <;> split <;> split <;> omega
  ·show 0 ≤ mxI n s'
   unfold mxI
   split <;> omega
  ·show mxI n s' ≤ v
   unfold mxI
   rcases h5 with ⟨_,h,h'⟩ | ⟨_,h,h',h''⟩ <;> split <;> omega
theorem beside_all (s2:Int) (sv:Bool):∀ (xs done:List (TLi × Int)) (S:S4) (st:Int × Int × Int),Beside done S st→(∀ x ∈ xs,0 ≤ x.2)→(∀ y ∈ done,∀ x ∈ xs,Lat y x)→xs.Pairwise Lat →
  ∃ S',xs.foldl (stO s2 sv) (some S) = some S'∧Beside (done++xs) S' (rfo done.length (xs.map Prod.snd) st)
 | [],done,S,st,h,_,_,_=>⟨S,rfl,by rw [List.append_nil];exact h⟩
 | x :: xs,done,S,st,h,h0,hl,hp=>by
   obtain ⟨p1,p2⟩:=List.pairwise_cons.1 hp
   have:=beside_all s2 sv xs (done++[x]) _ _ (beside_step h (h0 x (by simp)) fun y hy=>hl y hy x (by simp)) (fun y hy=>h0 y (by simp [hy])) (fun y hy z hz=>by
    rcases List.mem_append.1 hy with hy | hy
    ·exact hl y hy z (by simp [hz])
    ·rw [List.mem_singleton] at hy;subst hy;exact p1 z hz) p2
   obtain ⟨S',a,b⟩:=this
   refine ⟨S',a,?_⟩
   rw [List.append_assoc,List.singleton_append,show (done++[x]).length = done.length + 1 by simp] at b
   exact b
theorem beside {xs:List (TLi × Int)} (hne:xs ≠ []) (h0:∀ x ∈ xs,0 ≤ x.2) (hp:xs.Pairwise Lat):∃ S',xs.foldl (stO 0 false) none = some S'∧Beside xs S' (rfo 0 (xs.map Prod.snd) (0,-1,-1)):=by
 cases xs with
 | nil=>exact absurd rfl hne
 | cons x xs=>
   obtain ⟨p1,p2⟩:=List.pairwise_cons.1 hp
   have hx:=h0 x (by simp)
   have hB:Beside [x] (x.2,x.1,0,false) ((0:Nat),x.2,-1):=⟨rfl,hx,⟨0,rfl,rfl⟩,.inl ⟨rfl,rfl,rfl⟩⟩
   obtain ⟨S',a,b⟩:=beside_all 0 false xs [x] _ _ hB (fun y hy=>h0 y (by simp [hy])) (fun y hy z hz=>by rw [List.mem_singleton] at hy;subst hy;exact p1 z hz) p2
   refine ⟨S',a,?_⟩
   rw [List.map_cons]
   unfold rfo
   rw [decide_eq_true (show x.2 > (0,-1,-1).2.1 by show x.2 > -1;omega)]
   exact b
def fin133 (l:List (Tup evK)) (p:List (Tup paK)) (s:Int):S5:=sA l.length 0 (l.map fun e=>vaL e p s) 0 no8 (List.replicate l.length (t1 0)) 0 false
end
end Go.Proofs.YtifnpljmjhnbaaaGreatDoor
