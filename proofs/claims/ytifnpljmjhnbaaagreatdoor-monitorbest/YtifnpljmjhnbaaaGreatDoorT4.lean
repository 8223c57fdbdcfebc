/-
 A part of the proof of the statement that the claim names: see the last file.
-/
import Derived.Test.YtifnpljmjhnbaaaGreatDoorT2
import Derived.Test.YtifnpljmjhnbaaaGreatDoorT3
import Derived.Test.YtifnpljmjhnbaaaGreatDoorS6
namespace Go.Proofs.YtifnpljmjhnbaaaGreatDoor
open Go Go.Am
set_option maxRecDepth 100000
variable {w0 : World}
noncomputable section
def cs70 : List Ct := [c78,c58]
def rel70 : List (Nat × Cv) := [(0,.id),(1,.id),(2,.id),(3,.id),(11,.id),(10,.id),(8,.id),(9,.id)]
abbrev S3 := Int × Int × Int
def st70 (l : List (Tup evK)) (p : List (Tup paK)) (s : Int) (mt : List (Tup intK)) (a : Int × S3) : List D := [.vec evK l,.vec paK p,I s,.vec intK mt,I a.1,I a.2.1,I a.2.2.1,I a.2.2.2]
def eM (p : List (Tup paK)) (s : Int) (e : Tup evK) (x : Int) (pre : List (Tup intK)) : Int :=
 bif decide (x < -1) || decide (x ≥ p.length) then 10 else bif x == -1 then 0 else bif (pre.any fun y => i1 y == x) then 9 else bif (val58 e (nth p x.toNat) s).2 != 0 then 21 else 0
def wM (p : List (Tup paK)) (s : Int) (e : Tup evK) (x : Int) (sum : Int) : Int := bif x == -1 then sum else IntKind.i64.wrap (sum + (val58 e (nth p x.toNat) s).1)
def sl70 (mt : List (Tup intK)) (i : Int) : List (Tup intK) := List.take (i.toNat - Int.toNat 0) (List.drop (0 + Int.toNat 0) mt)
def rnd70 (l : List (Tup evK)) (p : List (Tup paK)) (s : Int) (mt : List (Tup intK)) (i : Int) (a : S3) (x : Int) : Option (Obs × X × List D) :=
 bif decide (x < -1) then some ([],.ret,st70 l p s mt (i,a.1,0,10)) else
 bif decide (x ≥ p.length) then some ([],.ret,st70 l p s mt (i,a.1,0,10)) else
 bif x == -1 then some ([],.normal,st70 l p s mt (W (i + 1),a)) else
 bif (decide ((0 : Int) ≤ 0) && (decide (0 ≤ i) && decide (i ≤ mt.length))) then bif sm (sl70 mt i) then
  bif ((sl70 mt i).any fun y => i1 y == x) then some ([],.ret,st70 l p s mt (i,a.1,0,9)) else
  bif inE l i then bif inP p x then
   bif (val58 (nth l i.toNat) (nth p x.toNat) s).2 != 0 then some ([],.ret,st70 l p s mt (i,a.1,0,21)) else
   some ([],.normal,st70 l p s mt (W (i + 1),IntKind.i64.wrap (a.1 + (val58 (nth l i.toNat) (nth p x.toNat) s).1),a.2))
  else none else none
 else none else none
theorem round70 (l : List (Tup evK)) (p : List (Tup paK)) (s : Int) (mt : List (Tup intK)) (i : Int) (a : S3) : rndD ((cfg w0).at cs70) 40 [] 40 (fnOf Tryz.f70).ntmps rel70 (lpB 0 (fnOf Tryz.f70).body) (st70 l p s mt (i,a)) =
  bif decide (i < mt.length) then bif inO mt i then rnd70 l p s mt i a (i1 (nth mt i.toNat)) else none else some ([],.exit 0,st70 l p s mt (i,a)) := by kernel_rfl
theorem body70 (l : List (Tup evK)) (p : List (Tup paK)) (s : Int) (mt : List (Tup intK)) (x : X) (a : Int × S3) (hx : x = .ret ∨ x = .normal) : bodyT ((cfg w0).at cs70) 40 [ldP 0 (fnOf Tryz.f70).ntmps rel70 x (st70 l p s mt a)] 40 (fnOf Tryz.f70) [.vec evK l,.vec paK p,I s,.vec intK mt] =
  bif (mt.length : Int) != l.length then some ([],tup2' (0,2)) else
  some ([(ldP 0 (fnOf Tryz.f70).ntmps rel70 x (st70 l p s mt a),.loop (lpB 0 (fnOf Tryz.f70).body),st70 l p s mt (0,0,0,0))],onX x (tup2' a.2.2) (tup2' (a.2.1,0))) := by
 rcases hx with rfl | rfl <;> kernel_rfl
def step70 (l : List (Tup evK)) (p : List (Tup paK)) (s : Int) (mt : List (Tup intK)) (j : Nat) (a : S3) : X × S3 :=
 bif eM p s (nth l j) (i1 (nth mt j)) (mt.take j) != 0 then (.ret,(a.1,0,eM p s (nth l j) (i1 (nth mt j)) (mt.take j))) else (.normal,(wM p s (nth l j) (i1 (nth mt j)) a.1,a.2))
theorem rnd70_eq {l : List (Tup evK)} {p : List (Tup paK)} {s : Int} {mt : List (Tup intK)} {j : Nat} {a : S3} (h1 : j < l.length) (h2 : j < mt.length) (hm : mt.length ≤ 100000) :
  rnd70 l p s mt (j : Int) a (i1 (nth mt j)) = some ([],(step70 l p s mt j a).1,st70 l p s mt (nx j (step70 l p s mt j a))) := by
 have hs : sl70 mt (j : Int) = mt.take j := by unfold sl70; simp
 have hg : sm (mt.take j) = true := (Nat.ble_eq ..).mpr (by rw [List.length_take]; omega)
 unfold rnd70 step70 eM wM
 rw [hs,hg,decide_eq_true (show (0 : Int) ≤ 0 by omega),decide_eq_true (show (0 : Int) ≤ (j : Int) by omega),decide_eq_true (show ((j : Nat) : Int) ≤ mt.length by omega),inE_nat h1,Int.toNat_natCast]
 generalize i1 (nth mt j) = x
 cases c1 : decide (x < -1) with
 | true => rfl
 | false =>
   cases c2 : decide (x ≥ p.length) with
   | true => rfl
   | false =>
     cases c3 : (x == -1) with
     | true => rfl
     | false =>
       have n1 : ¬ x < -1 := of_decide_eq_false c1
       have n2 : ¬ x ≥ p.length := of_decide_eq_false c2
       have n3 : x ≠ -1 := by simpa using c3
       have hp : inP p x = true := by
        unfold inP
        rw [decide_eq_true (show 0 ≤ x by omega),decide_eq_true (show x < p.length by omega)]; rfl
       cases c4 : ((mt.take j).any fun y => i1 y == x) with
       | true => rfl
       | false =>
         simp only [cond_false,cond_true,Bool.and_true,Bool.or_false,hp]
         cases c5 : ((val58 (nth l j) (nth p x.toNat) s).2 != 0) <;> rfl
def cM (p : List (Tup paK)) (s : Int) : List (Tup evK × Tup intK) → List (Tup intK) → Int → Int × Int
 | [],_,sum => (sum,0)
 | (e,x) :: rs,pre,sum => bif eM p s e (i1 x) pre != 0 then (0,eM p s e (i1 x) pre) else cM p s rs (pre ++ [x]) (wM p s e (i1 x) sum)
theorem run70 (l : List (Tup evK)) (p : List (Tup paK)) (s : Int) (mt : List (Tup intK)) : ∀ (la : List (Tup evK)) (ma : List (Tup intK)) (lb : List (Tup evK)) (mb : List (Tup intK)) (a : S3),l = la ++ lb → mt = ma ++ mb → la.length = ma.length → lb.length = mb.length →
  ∃ q : Int × S3,rgRun 0 (step70 l p s mt) mb.length ma.length a = (bif (cM p s (lb.zip mb) ma a.1).2 != 0 then X.ret else .exit 0,q) ∧ ((cM p s (lb.zip mb) ma a.1).2 ≠ 0 → q.2.2 = cM p s (lb.zip mb) ma a.1) ∧ ((cM p s (lb.zip mb) ma a.1).2 = 0 → (q.2.1,0) = cM p s (lb.zip mb) ma a.1)
 | la,ma,[],[],a,h1,h2,h3,h4 => ⟨_,rfl,fun h => absurd rfl h,fun _ => rfl⟩
 | la,ma,e :: lb,x :: mb,a,h1,h2,h3,h4 => by
   have k1 : nth l ma.length = e := by subst h1; rw [← h3]; simp [nth,List.getD_eq_getElem?_getD]
   have k2 : nth mt ma.length = x := by subst h2; simp [nth,List.getD_eq_getElem?_getD]
   have k3 : mt.take ma.length = ma := by subst h2; simp
   have hs : step70 l p s mt ma.length a = bif eM p s e (i1 x) ma != 0 then (.ret,(a.1,0,eM p s e (i1 x) ma)) else (.normal,(wM p s e (i1 x) a.1,a.2)) := by unfold step70; rw [k1,k2,k3]
   rw [List.length_cons,List.zip_cons_cons]
   unfold rgRun cM
   rw [hs]
   cases hc : (eM p s e (i1 x) ma != 0) with
   | true => exact ⟨((ma.length : Int),(a.1,0,eM p s e (i1 x) ma)),by simp [hc],fun _ => rfl,fun h => absurd h (by simpa using hc)⟩
   | false =>
     have := run70 l p s mt (la ++ [e]) (ma ++ [x]) lb mb (wM p s e (i1 x) a.1,a.2) (by rw [h1]; simp) (by rw [h2]; simp) (by simp [h3]) (by simpa using h4)
     simpa using this
 | _,_,[],_ :: _,_,_,_,_,h => by simp at h
 | _,_,_ :: _,[],_,_,_,_,h => by simp at h
def chkM (l : List (Tup evK)) (p : List (Tup paK)) (s : Int) (mt : List (Tup intK)) : Int × Int := bif (mt.length : Int) != l.length then (0,2) else cM p s (l.zip mt) [] 0
theorem fn70 (h0 : Lib0 w0) (l : List (Tup evK)) (p : List (Tup paK)) (s : Int) (mt : List (Tup intK)) (hm : mt.length ≤ 100000) : FnD (cfg w0) 70 [.vec evK l,.vec paK p,I s,.vec intK mt] (tup2' (chkM l p s mt)) := by
 unfold chkM
 cases hne : ((mt.length : Int) != l.length) with
 | true =>
   refine fnD_t (cfg_ok w0) h0 (cs := cs70) ⟨gd78 h0,gd58 h0,trivial⟩ (fd := fnOf Tryz.f70) rfl (L := [ldP 0 (fnOf Tryz.f70).ntmps rel70 .normal (st70 l p s mt (0,0,0,0))]) (o := []) ((body70 l p s mt .normal (0,0,0,0) (.inr rfl)).trans ?_) trivial
   rw [hne]; rfl
 | false =>
   have hlen : mt.length = l.length := Int.ofNat.inj (by simpa using hne)
   refine fn_rg h0 (cs := cs70) ⟨gd78 h0,gd58 h0,trivial⟩ (fd := fnOf Tryz.f70) rfl rel70 mt.length (by omega) (st70 l p s mt) (step70 l p s mt) (fun _ _ => True) (a0 := (0,0,0)) trivial
    (fun j a hj _ => .leaf (by
     rw [round70,lt_t hj,inO_nat hj,Int.toNat_natCast,rnd70_eq (by omega) hj hm]
     rfl)) (fun _ _ _ _ _ _ => trivial)
    (fun a _ => .leaf (by rw [round70,ge_f]; rfl)) fun x q hx => ?_
   obtain ⟨q',hq,k1,k2⟩ := run70 l p s mt [] [] l mt (0,0,0) rfl rfl rfl hlen.symm
   simp only [List.length_nil] at hq
   rw [hq] at hx
   simp only [cond_false]
   cases hc : ((cM p s (l.zip mt) [] 0).2 != 0) with
   | true =>
     rw [hc] at hx; cases hx
     refine (body70 l p s mt _ _ (.inl rfl)).trans ?_
     rw [hne,show (cM p s (l.zip mt) [] 0) = q.2.2 from (k1 (by simpa using hc)).symm]; rfl
   | false =>
     rw [hc] at hx; cases hx
     refine (body70 l p s mt _ _ (.inr rfl)).trans ?_
     rw [hne,show (cM p s (l.zip mt) [] 0) = (q.2.1,0) from (k2 (by simpa using hc)).symm]; rfl
def c70 : Ct := ct 70 [.v evK,.v paK,.c ik,.v intK] fun a => .br (sm a.2.2.2.1) (.leaf (tup2' (chkM a.1 a.2.1 a.2.2.1 a.2.2.2.1))) .bad
theorem gd70 (h0 : Lib0 w0) : Gd (cfg w0) c70 := gd_sig fun a d hd => by
 obtain ⟨l,p,s,mt,u⟩ := a
 obtain ⟨hg,hd⟩ := br_run hd
 cases hd
 exact fn70 h0 l p s mt (sm_le hg)
end
end Go.Proofs.YtifnpljmjhnbaaaGreatDoor
namespace Go.Proofs.YtifnpljmjhnbaaaGreatDoor
open Go Go.Am
set_option maxRecDepth 100000
variable {w0 : World}
noncomputable section
def okE (e : Tup evK) : Prop := 0 ≤ ef e ∧ ef e < et e ∧ et e ≤ 100000 ∧ ef e ≤ ea e ∧ ea e ≤ et e - 1
def okP (p : Tup paK) : Prop := 0 ≤ pf p ∧ pf p < pt p ∧ pt p ≤ 100000
theorem chkI_zero (l : List (Tup evK)) : ∀ (f j : Nat),chkI l f j = 0 → ∀ k,j ≤ k → k < j + f → errI l k = 0
 | 0,j,_,k,h1,h2 => by omega
 | f + 1,j,h,k,h1,h2 => by
   unfold chkI at h
   obtain ⟨a,b⟩ := first_zero h
   by_cases hk : k = j
   ·rw [hk]; exact a
   ·exact chkI_zero l f (j + 1) b k (by omega) (by omega)
theorem evs_ok {l : List (Tup evK)} (h : chkEv l = 0) : ∀ e ∈ l,okE e := by
 intro e he
 obtain ⟨j,hj,rfl⟩ := List.getElem_of_mem he
 have hl := ev_len h
 unfold chkEv at h
 rw [decide_eq_false (by omega)] at h
 have hz := chkI_zero l _ 0 h j (by omega) (by omega)
 rw [show l[j] = nth l j by simp [nth,hj]]
 unfold errI at hz
 obtain ⟨h1,hz⟩ := first_zero hz
 cases ho : ovl l j with
 | true => rw [ho] at hz; cases hz
 | false =>
   rw [ho] at hz
   obtain ⟨a,b,c⟩ := span_zero h1
   have := within_zero (firstZ_zero hz (atE (nth l j)) (by simp))
   rw [W_id (by omega) (by omega)] at this
   exact ⟨a,b,c,this.1,this.2⟩
theorem chkFrom_zero : ∀ (l : List (Tup paK)) (seen : List ByteArray),chkFrom seen l = 0 → ∀ q ∈ l,okP q
 | [],_,_,q,h => by cases h
 | w :: ws,seen,h,q,hq => by
   unfold chkFrom at h
   obtain ⟨a,b⟩ := first_zero h
   rcases List.mem_cons.1 hq with rfl | hq
   ·unfold chkE at a
    obtain ⟨_,a⟩ := first_zero a
    cases hs : seen.any (fun s => pn q == s) with
    | true => rw [hs] at a; cases a
    | false =>
      rw [hs] at a
      exact span_zero (firstZ_zero a (spanP q) (by simp))
   ·exact chkFrom_zero ws _ b q hq
theorem pas_ok {p : List (Tup paK)} (h : chkPa p = 0) : ∀ q ∈ p,okP q := by
 have hl := pa_len h
 unfold chkPa at h
 rw [decide_eq_false (by omega)] at h
 exact chkFrom_zero p [] h
theorem dist_ok {e : Tup evK} {p : Tup paK} (h1 : okE e) (h2 : okP p) : distP e p = distR e p := by
 obtain ⟨a1,a2,a3,a4,a5⟩ := h1
 obtain ⟨b1,b2,b3⟩ := h2
 unfold distP distR
 rw [W_id (n := pt p - 1) (by omega) (by omega),W_id (n := ea e - (pt p - 1)) (by omega) (by omega),W_id (n := ea e - pt p) (by omega) (by omega),W_id (n := ea e - pt p + 1) (by omega) (by omega),show ea e - (pt p - 1) = ea e - pt p + 1 by omega]
theorem dist_pos (e : Tup evK) (p : Tup paK) : 0 ≤ distP e p := by
 unfold distP
 have h1 : ∀ a b : Int,0 ≤ a → 0 ≤ mx a b := fun a b h => by unfold mx; split <;> omega
 exact h1 _ _ (h1 _ _ (by omega))
theorem somB_why (e : Tup evK) (p : Tup paK) (s : Int) : somB (whyP e p s) = (decide (distP e p > s) || engB e p) := by
 unfold whyP
 cases decide (distP e p > s) <;> cases engB e p <;> rfl
def expl (e : Tup evK) (q : Tup paK) (s : Int) : Bool := !(decide (distP e q > s) || engB e q)
theorem valN_eq (e : Tup evK) (q : Tup paK) (s : Int) (hs : s ≤ 300) : valN e q s = bif expl e q s then 1000 - distP e q else -1 := by
 unfold valN expl
 rw [somB_why]
 cases hb : (decide (distP e q > s) || engB e q) with
 | true => rfl
 | false =>
   simp only [Bool.or_eq_false_iff,decide_eq_false_iff_not] at hb
   have := dist_pos e q
   simp only [cond_false,Bool.not_false,cond_true]
   exact W_id (by omega) (by omega)
theorem val58_eq {e : Tup evK} {q : Tup paK} {s : Int} (h1 : okE e) (h2 : okP q) (hs : s ≤ 300) : val58 e q s = bif expl e q s then (1000 - distP e q,0) else (0,7) := by
 unfold val58 vlZ expl whyR
 rw [← dist_ok h1 h2,← somB_eq]
 rw [show whyL (decide (distP e q > s)) (engB e q) = whyP e q s from rfl,somB_why]
 cases hb : (decide (distP e q > s) || engB e q) with
 | true => rfl
 | false =>
   simp only [Bool.or_eq_false_iff,decide_eq_false_iff_not] at hb
   have := dist_pos e q
   simp only [cond_false,Bool.not_false,cond_true]
   rw [W_id (by omega) (by omega)]
theorem expl_pos {e : Tup evK} {q : Tup paK} {s : Int} (hs : s ≤ 300) (h : expl e q s = true) : 700 ≤ 1000 - distP e q ∧ 1000 - distP e q ≤ 1000 := by
 unfold expl at h
 simp only [Bool.not_eq_true',Bool.or_eq_false_iff,decide_eq_false_iff_not] at h
 have := dist_pos e q
 omega
theorem valN_none {e : Tup evK} {q : Tup paK} {s : Int} (hs : s ≤ 300) : (valN e q s == -1) = !expl e q s := by
 rw [valN_eq e q s hs]
 cases h : expl e q s with
 | true =>
   have := expl_pos hs h
   rw [cond_true,beq_eq_false_iff_ne.2 (by omega)]; rfl
 | false => rfl
theorem slack_le {s : Int} (h : withinZ s 0 300 = 0) : s ≤ 300 := (within_zero h).2
end
end Go.Proofs.YtifnpljmjhnbaaaGreatDoor
