/-
 A part of the proof of the statement that the claim names: see the last file.
-/
import Derived.Test.YtifnpljmjhnbaaaGreatDoorT2
import Derived.Test.YtifnpljmjhnbaaaGreatDoorS5
namespace Go.Proofs.YtifnpljmjhnbaaaGreatDoor
open Go Go.Am
set_option maxRecDepth 100000
variable {w0:World}
noncomputable section
abbrev S3:=Int × Int × Int
def eM (p:List (Tup paK)) (s:Int) (e:Tup evK) (x:Int) (pre:List (Tup intK)):Int:=
 bif decide (x < -1) || decide (x ≥ p.length) then 10 else bif x == -1 then 0 else bif (pre.any fun y=>i1 y == x) then 9 else bif (val58 e (nth p x.toNat) s).2 != 0 then 21 else 0
def wM (p:List (Tup paK)) (s:Int) (e:Tup evK) (x:Int) (sum:Int):Int:=bif x == -1 then sum else IntKind.i64.wrap (sum + (val58 e (nth p x.toNat) s).1)
def cM (p:List (Tup paK)) (s:Int):List (Tup evK × Tup intK)→List (Tup intK)→Int→Int × Int
 | [],_,sum=>(sum,0)
 | (e,x) :: rs,pre,sum=>bif eM p s e (i1 x) pre != 0 then (0,eM p s e (i1 x) pre) else cM p s rs (pre++[x]) (wM p s e (i1 x) sum)
def chkM (l:List (Tup evK)) (p:List (Tup paK)) (s:Int) (mt:List (Tup intK)):Int × Int:=bif (mt.length:Int) != l.length then (0,2) else cM p s (l.zip mt) [] 0
end
end Go.Proofs.YtifnpljmjhnbaaaGreatDoor
namespace Go.Proofs.YtifnpljmjhnbaaaGreatDoor
open Go Go.Am
set_option maxRecDepth 100000
variable {w0:World}
noncomputable section
def okE (e:Tup evK):Prop:=0 ≤ ef e∧ef e < et e∧et e ≤ 100000∧ef e ≤ ea e∧ea e ≤ et e - 1
def okP (p:Tup paK):Prop:=0 ≤ pf p∧pf p < pt p∧pt p ≤ 100000
theorem chkI_zero (l:List (Tup evK)):∀ (f j:Nat),chkI l f j = 0→∀ k,j ≤ k→k < j + f→errI l k = 0
 | 0,j,_,k,h1,h2=>by omega
 | f + 1,j,h,k,h1,h2=>by
   unfold chkI at h
   obtain ⟨a,b⟩:=first_zero h
   by_cases hk:k = j
   ·rw [hk];exact a
   ·exact chkI_zero l f (j + 1) b k (by omega) (by omega)
theorem evs_ok {l:List (Tup evK)} (h:chkEv l = 0):∀ e ∈ l,okE e:=by
 intro e he
 obtain ⟨j,hj,rfl⟩:=List.getElem_of_mem he
 have hl:=ev_len h
 unfold chkEv at h
 rw [decide_eq_false (by omega)] at h
 have hz:=chkI_zero l _ 0 h j (by omega) (by omega)
 rw [show l[j] = nth l j by simp [nth,hj]]
 unfold errI at hz
 obtain ⟨h1,hz⟩:=first_zero hz
 cases ho:ovl l j with
 | true=>rw [ho] at hz;cases hz
 | false=>
   rw [ho] at hz
   obtain ⟨a,b,c⟩:=span_zero h1
   have:=within_zero (firstZ_zero hz (atE (nth l j)) (by simp))
   rw [W_id (by omega) (by omega)] at this
   exact ⟨a,b,c,this.1,this.2⟩
theorem chkFrom_zero:∀ (l:List (Tup paK)) (seen:List ByteArray),chkFrom seen l = 0→∀ q ∈ l,okP q
 | [],_,_,q,h=>by cases h
 | w :: ws,seen,h,q,hq=>by
   unfold chkFrom at h
   obtain ⟨a,b⟩:=first_zero h
   rcases List.mem_cons.1 hq with rfl | hq
   ·unfold chkE at a
    obtain ⟨_,a⟩:=first_zero a
    cases hs:seen.any (fun s=>pn q == s) with
    | true=>rw [hs] at a;cases a
    | false=>
      rw [hs] at a
      exact span_zero (firstZ_zero a (spanP q) (by simp))
   ·exact chkFrom_zero ws _ b q hq
theorem pas_ok {p:List (Tup paK)} (h:chkPa p = 0):∀ q ∈ p,okP q:=by
 have hl:=pa_len h
 unfold chkPa at h
 rw [decide_eq_false (by omega)] at h
 exact chkFrom_zero p [] h
theorem dist_ok {e:Tup evK} {p:Tup paK} (h1:okE e) (h2:okP p):distP e p = distR e p:=by
 obtain ⟨a1,a2,a3,a4,a5⟩:=h1
 obtain ⟨b1,b2,b3⟩:=h2
 unfold distP distR
 rw [W_id (n:=pt p - 1) (by omega) (by omega),W_id (n:=ea e - (pt p - 1)) (by omega) (by omega),W_id (n:=ea e - pt p) (by omega) (by omega),W_id (n:=ea e - pt p + 1) (by omega) (by omega),show ea e - (pt p - 1) = ea e - pt p + 1 by omega]
theorem dist_pos (e:Tup evK) (p:Tup paK):0 ≤ distP e p:=by
 unfold distP
 have h1:∀ a b:Int,0 ≤ a→0 ≤ mx a b:=fun a b h=>by unfold mx;split <;> omega
 exact h1 _ _ (h1 _ _ (by omega))
theorem somB_why (e:Tup evK) (p:Tup paK) (s:Int):somB (whyP e p s) = (decide (distP e p > s) || engB e p):=by
 unfold whyP
 cases decide (distP e p > s) <;> cases engB e p <;> rfl
def expl (e:Tup evK) (q:Tup paK) (s:Int):Bool:=!(decide (distP e q > s) || engB e q)
theorem valN_eq (e:Tup evK) (q:Tup paK) (s:Int) (hs:s ≤ 300):valN e q s = bif expl e q s then 1000 - distP e q else -1:=by
 unfold valN expl
 rw [somB_why]
 cases hb:(decide (distP e q > s) || engB e q) with
 | true=>rfl
 | false=>
   simp only [Bool.or_eq_false_iff,decide_eq_false_iff_not] at hb
   have:=dist_pos e q
   simp only [cond_false,Bool.not_false,cond_true]
   exact W_id (by omega) (by omega)
theorem val58_eq {e:Tup evK} {q:Tup paK} {s:Int} (h1:okE e) (h2:okP q) (hs:s ≤ 300):val58 e q s = bif expl e q s then (1000 - distP e q,0) else (0,7):=by
 unfold val58 vlZ expl whyR
 rw [← dist_ok h1 h2,← somB_eq]
 rw [show whyL (decide (distP e q > s)) (engB e q) = whyP e q s from rfl,somB_why]
 cases hb:(decide (distP e q > s) || engB e q) with
 | true=>rfl
 | false=>
   simp only [Bool.or_eq_false_iff,decide_eq_false_iff_not] at hb
   have:=dist_pos e q
   simp only [cond_false,Bool.not_false,cond_true]
   rw [W_id (by omega) (by omega)]
theorem expl_pos {e:Tup evK} {q:Tup paK} {s:Int} (hs:s ≤ 300) (h:expl e q s = true):700 ≤ 1000 - distP e q∧1000 - distP e q ≤ 1000:=by
 unfold expl at h
 simp only [Bool.not_eq_true',Bool.or_eq_false_iff,decide_eq_false_iff_not] at h
 have:=dist_pos e q
 omega
theorem valN_none {e:Tup evK} {q:Tup paK} {s:Int} (hs:s ≤ 300):(valN e q s == -1) = !expl e q s:=by
 rw [valN_eq e q s hs]
 cases h:expl e q s with
 | true=>
   have:=expl_pos hs h
   rw [cond_true,beq_eq_false_iff_ne.2 (by omega)];rfl
 | false=>rfl
theorem nth_vaL {e:Tup evK} {p:List (Tup paK)} {s:Int} {k:Nat} (h:k < p.length):i1 (nth (vaL e p s) k) = valN e (nth p k) s:=by
 unfold vaL
 simp only [nth,List.getD_eq_getElem?_getD,List.getElem?_map,List.getElem?_eq_getElem h,Option.map_some,Option.getD_some]
 rfl
theorem tM_eq {p:List (Tup paK)} {s:Int} (hp:∀ q ∈ p,okP q) (hs:s ≤ 300):∀ (l:List (Tup evK)) (mt pre:TLi) (sum:Int),(∀ e ∈ l,okE e)→tM p (prsM l p s mt) pre sum = some (tup2' (cM p s (l.zip mt) pre sum))
 | [],mt,pre,sum,_=>by unfold prsM;rfl
 | e :: es,[],pre,sum,_=>by unfold prsM;rfl
 | e :: es,x :: mt,pre,sum,he=>by
   have ih:=fun pre sum=>tM_eq hp hs es mt pre sum fun e h=>he e (List.mem_cons_of_mem _ h)
   rw [show prsM (e :: es) p s (x :: mt) = (vaL e p s,x) :: prsM es p s mt from rfl,List.zip_cons_cons]
   unfold tM cM
   rw [ih,ih]
   unfold eM wM errK
   generalize hx:i1 x = k
   have hh:hasK pre k = pre.any fun y=>i1 y == k:=by
    rw [hasK_eq];congr 1;funext y
    rw [Bool.eq_iff_iff,beq_iff_eq,beq_iff_eq];exact eq_comm
   rw [hh]
   by_cases c1:k = -1
   ·subst c1
    rw [decide_eq_false (show ¬ ((-1:Int) < -1) by omega),decide_eq_false (show ¬ ((-1:Int) ≥ p.length) by omega)]
    rfl
   ·rw [beq_eq_false_iff_ne.2 c1]
    by_cases c2:k < 0
    ·rw [decide_eq_true c2,decide_eq_true (show k < -1 by omega)]
     rfl
    ·rw [decide_eq_false c2,decide_eq_false (show ¬ k < -1 by omega)]
     by_cases c3:k ≥ p.length
     ·rw [decide_eq_true c3];rfl
     ·rw [decide_eq_false c3]
      obtain ⟨n,rfl⟩:=Int.eq_ofNat_of_zero_le (show 0 ≤ k by omega)
      have hn:n < p.length:=by omega
      have hq:okP (nth p n):=hp _ (by
       rw [show nth p n = p[n] by simp [nth,hn]]
       exact List.getElem_mem _)
      have hi:inO (vaL e p s) (n:Int) = true:=inO_nat (by unfold vaL;rw [List.length_map];exact hn)
      rw [hi,Int.toNat_natCast,nth_vaL hn,valN_none hs,val58_eq (he e (by simp)) hq hs]
      cases ha:pre.any (fun y=>i1 y == (n:Int)) with
      | true=>rfl
      | false=>
        cases hx:expl e (nth p n) s with
        | true=>
          rw [show valN e (nth p n) s = 1000 - distP e (nth p n) by rw [valN_eq _ _ _ hs,hx];rfl]
          rfl
        | false=>rfl
def mat (l:List (Tup evK)) (p:List (Tup paK)) (s:Int) (mt:TLi):Int × Int:=bif allZ l p s != 0 then (0,allZ l p s) else chkM l p s mt
theorem slack_le {s:Int} (h:withinZ s 0 300 = 0):s ≤ 300:=(within_zero h).2
theorem z67_eq (l:List (Tup evK)) (p:List (Tup paK)) (s:Int) (mt:TLi):z67 l p s mt = bif allZ l p s != 0 then allZ l p s else bif (mt.length:Int) != l.length then 2 else 0:=by
 unfold z67 firstZ firstZ firstZ whenZ
 cases (allZ l p s != 0) <;> cases ((mt.length:Int) != l.length) <;> rfl
theorem fn67 (h0:Lib0 w0) (l:List (Tup evK)) (p:List (Tup paK)) (s:Int) (mt:TLi) (hl:shortE l = true):FnD (cfg w0) 67 [.vec evK l,.vec paK p,I s,.vec intK mt] (tup2' (mat l p s mt)):=by
 have hx:∀ z,z67 l p s mt = z→(z != 0) = true→FnD (cfg w0) 67 [.vec evK l,.vec paK p,I s,.vec intK mt] (tup2' (0,z)):=fun z hz hne=>
  fnD_k (cfg_ok w0) h0 (cs:=[c128,cBad,whenC 104,firstC 84]) ⟨gd128 h0,gdBad,gd104 h0,gd84 h0,trivial⟩ (fd:=fnOf Tryz.f67) rfl ((run67_x l p s mt).trans (by rw [hz,hne];rfl))
 unfold mat chkM
 cases hz:(allZ l p s != 0) with
 | true=>exact hx _ (by rw [z67_eq,hz];rfl) hz
 | false=>
   cases hm:((mt.length:Int) != l.length) with
   | true=>exact hx _ (by rw [z67_eq,hz,hm];rfl) rfl
   | false=>
     have hlen:mt.length = l.length:=Int.ofNat.inj (by simpa using hm)
     obtain ⟨he,hp,hs⟩:=allZ_ok hz
     refine fnD_k (cfg_ok w0) h0 (cs:=cs67) ⟨gd128 h0,gd129 h0,gd132 h0,gd104 h0,gd84 h0,trivial⟩ (fd:=fnOf Tryz.f67) rfl ((run67 l p s mt ((short_few hl).resolve_right (by rw [hz];decide)) hlen).trans ?_)
     unfold t67
     rw [z67_eq,hz,hm,smP_of hp,tM_eq (pas_ok hp) (slack_le hs) l mt [] 0 (evs_ok he)]
     rfl
def c67:Ct:=ct 67 [.v evK,.v paK,.c ik,.v intK] fun a=>.br (shortE a.1) (.leaf (tup2' (mat a.1 a.2.1 a.2.2.1 a.2.2.2.1))) .bad
theorem gd67 (h0:Lib0 w0):Gd (cfg w0) c67:=gd_sig fun a d hd=>by
 obtain ⟨l,p,s,mt,u⟩:=a
 obtain ⟨hg,hd⟩:=br_run hd
 cases hd
 exact fn67 h0 l p s mt hg
end
end Go.Proofs.YtifnpljmjhnbaaaGreatDoor
