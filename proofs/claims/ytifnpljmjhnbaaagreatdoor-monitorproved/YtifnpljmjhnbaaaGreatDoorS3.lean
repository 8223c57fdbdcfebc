/-
 A part of the proof of the statement that the claim names: see the last file.
-/
import Derived.Test.YtifnpljmjhnbaaaGreatDoorS2
namespace Go.Proofs.YtifnpljmjhnbaaaGreatDoor
open Go Go.Am
set_option maxRecDepth 100000
variable {w0:World}
noncomputable section
def inE (l:List (Tup evK)) (j:Int):Bool:=Nat.beq 6 6 && (decide (0 ≤ j) && decide (j < l.length))
theorem inE_nat {l:List (Tup evK)} {j:Nat} (h:j < l.length):inE l (j:Int) = true:=inb 6 h
def spanE (x:Tup evK):Int:=spanZ (ef x) (et x) 100000
def atE (x:Tup evK):Int:=withinZ (ea x) (ef x) (IntKind.i64.wrap (et x - 1))
def misE (x:Tup evK):Int:=withinZ (em x) 0 (IntKind.i64.wrap (IntKind.i64.wrap (et x - ef x) - 1))
def enZ (x:Tup evK):Int:=withinZ (ee x) 0 maxE
def pkZ (x:Tup evK):Int:=withinZ (ep x) 0 maxE
def fmZ (x:Tup evK):Int:=whenZ (decide (ep x > ee x)) 1
def e1Z (x:Tup evK) (e:Int):Int:=firstZ [spanE x,whenZ (decide (ef x < e)) 15,enZ x,pkZ x,fmZ x]
def e2Z (x:Tup evK):Int:=firstZ [atE x,misE x]
def r5 (x:Tup evK):Int:=firstZ [enZ x,pkZ x,fmZ x,atE x,misE x]
def sameEv (x y:Tup evK):Bool:=((ef x == ef y) && ((et x == et y) && true)) && ((ee x == ee y) && ((ep x == ep y) && ((ea x == ea y) && ((em x == em y) && true))))
def cs59:List Ct:=c123 :: baseC
theorem cs59_gd (h0:Lib0 w0):Gds (cfg w0) cs59:=⟨gd123 h0,baseC_gd h0⟩
def rel59:List (Nat × Cv):=[(0,.id),(11,.id),(12,.id),(13,.id),(3,.id),(2,.id)]
def st59 (l:List (Tup evK)) (a:Int × Int × Int):List D:=[.vec evK l,.vec evK l,I l.length,I a.1,I a.2.1,I a.2.2]
def pv (j:Int):Int:=IntKind.i64.wrap (j - 1)
def tl59 (l:List (Tup evK)) (j e r:Int):Option (Obs × X × List D):=
 bif e1Z (nth l j.toNat) e != 0 then some ([],.ret,st59 l (j,e,e1Z (nth l j.toNat) e)) else
 bif e2Z (nth l j.toNat) != 0 then some ([],.ret,st59 l (j,e,e2Z (nth l j.toNat))) else some ([],.normal,st59 l (W (j + 1),et (nth l j.toNat),r))
theorem round59 (l:List (Tup evK)) (j e r:Int):rndD ((cfg w0).at cs59) 40 [] 40 (fnOf Tryz.f59).ntmps rel59 (lpB 0 (fnOf Tryz.f59).body) (st59 l (j,e,r)) =
  bif decide (j < l.length) then bif inE l j then
   bif decide (j > 0) then bif inE l (pv j) then
    bif sameEv (nth l j.toNat) (nth l (pv j).toNat) then some ([],.ret,st59 l (j,e,15)) else tl59 l j e r
   else none else tl59 l j e r
  else none else some ([],.exit 0,st59 l (j,e,r)):=by kernel_rfl
theorem body59 (l:List (Tup evK)) (x:X) (p:Int × Int × Int) (hx:x = .ret ∨ x = .normal):bodyT ((cfg w0).at cs59) 40 [ldP 0 (fnOf Tryz.f59).ntmps rel59 x (st59 l p)] 40 (fnOf Tryz.f59) [.vec evK l] =
  bif decide ((l.length:Int) > 8) then some ([],I 5) else some ([(ldP 0 (fnOf Tryz.f59).ntmps rel59 x (st59 l p),.loop (lpB 0 (fnOf Tryz.f59).body),st59 l (0,0,0))],onX x (I p.2.2) (I 0)):=by
 rcases hx with rfl | rfl <;> kernel_rfl
def ovl (l:List (Tup evK)) (j:Nat):Bool:=decide (0 < j) && decide (ef (nth l j) < et (nth l (j - 1)))
def errI (l:List (Tup evK)) (j:Nat):Int:=bif spanE (nth l j) != 0 then spanE (nth l j) else bif ovl l j then 15 else r5 (nth l j)
def chkI (l:List (Tup evK)):Nat→Nat→Int
 | 0,_=>0
 | f + 1,j=>bif errI l j != 0 then errI l j else chkI l f (j + 1)
def chkEv (l:List (Tup evK)):Int:=bif decide ((l.length:Int) > 8) then 5 else chkI l l.length 0
theorem span_zero {f t m:Int} (h:spanZ f t m = 0):0 ≤ f∧f < t∧t ≤ m:=by
 unfold spanZ whenZ at h
 cases hb:(decide (f < 0) || (decide (f ≥ t) || decide (t > m))) with
 | true=>rw [hb] at h;cases h
 | false=>
   simp only [Bool.or_eq_false_iff,decide_eq_false_iff_not] at hb
   omega
theorem first5 (s o a b c d f:Int):(bif firstZ [s,o,a,b,c] != 0 then firstZ [s,o,a,b,c] else firstZ [d,f]) = bif s != 0 then s else bif o != 0 then o else firstZ [a,b,c,d,f]:=by
 unfold firstZ firstZ firstZ firstZ firstZ firstZ
 cases hs:(s != 0)
 ·cases ho:(o != 0)
  ·cases ha:(a != 0)
   ·cases hb:(b != 0)
    ·cases hc:(c != 0)
     ·rfl
     ·simp only [cond_true,cond_false,hc]
    ·simp only [cond_true,cond_false,hb]
   ·simp only [cond_true,cond_false,ha]
  ·simp only [cond_true,cond_false,ho]
 ·simp only [cond_true,hs]
def Inv59 (l:List (Tup evK)) (j:Nat) (a:Int × Int):Prop:=(j = 0→a.1 = 0)∧(0 < j→a.1 = et (nth l (j - 1))∧spanE (nth l (j - 1)) = 0)
theorem err59 {l:List (Tup evK)} {j:Nat} {e:Int} (h1:j = 0→e = 0) (h2:0 < j→e = et (nth l (j - 1))∧spanE (nth l (j - 1)) = 0) :
  (bif e1Z (nth l j) e != 0 then e1Z (nth l j) e else e2Z (nth l j)) = errI l j:=by
 unfold e1Z e2Z errI
 rw [first5]
 cases hs:(spanE (nth l j) != 0) with
 | true=>rfl
 | false=>
   obtain ⟨a1,a2,a3⟩:=span_zero (show spanZ (ef (nth l j)) (et (nth l j)) 100000 = 0 by simpa [spanE] using hs)
   simp only [cond_false]
   have ho:decide (ef (nth l j) < e) = ovl l j:=by
    unfold ovl
    rcases Nat.eq_zero_or_pos j with h | h
    ·subst h
     rw [h1 rfl,decide_eq_false (by omega)]
     rfl
    ·rw [(h2 h).1,decide_eq_true h,Bool.true_and]
   rw [ho]
   cases ovl l j <;> rfl
theorem same59 {l:List (Tup evK)} {j:Nat} (hj:0 < j) (h:sameEv (nth l j) (nth l (j - 1)) = true) (hs:spanE (nth l (j - 1)) = 0):errI l j = 15:=by
 unfold sameEv at h
 simp only [Bool.and_true,Bool.and_eq_true,beq_iff_eq] at h
 obtain ⟨⟨h1,h2⟩,_⟩:=h
 have e:spanE (nth l j) = 0:=by unfold spanE at hs ⊢;rw [h1,h2];exact hs
 obtain ⟨a1,a2,a3⟩:=span_zero (show spanZ (ef (nth l (j - 1))) (et (nth l (j - 1))) 100000 = 0 from hs)
 unfold errI ovl
 rw [e,decide_eq_true hj,decide_eq_true (show ef (nth l j) < et (nth l (j - 1)) by omega)]
 rfl
def step59 (l:List (Tup evK)) (j:Nat) (a:Int × Int):X × (Int × Int):=bif errI l j != 0 then (.ret,(a.1,errI l j)) else (.normal,(et (nth l j),a.2))
theorem run_chk {l:List (Tup evK)}:∀ (f i:Nat) (e:Int),∃ (q:Nat) (e':Int),rgRun 0 (step59 l) f i (e,0) = bif chkI l f i != 0 then (.ret,((q:Int),(e',chkI l f i))) else (.exit 0,(((i + f:Nat):Int),(e',0)))
 | 0,i,e=>⟨0,e,rfl⟩
 | f + 1,i,e=>by
   unfold rgRun chkI
   cases hc:(errI l i != 0) with
   | true=>exact ⟨i,e,by simp only [step59,hc,cond_true]⟩
   | false=>
     obtain ⟨q,e',h⟩:=run_chk (l:=l) f (i + 1) (et (nth l i))
     refine ⟨q,e',?_⟩
     simp only [step59,hc,cond_false]
     rw [h,show i + 1 + f = i + (f + 1) by omega]
theorem pv_nat {j:Nat} (h:0 < j) (h2:j ≤ 1000000):pv j = ((j - 1:Nat):Int):=by
 unfold pv
 rw [W_id (by omega) (by omega)]
 omega
theorem fn59 (h0:Lib0 w0) (l:List (Tup evK)):FnD (cfg w0) 59 [.vec evK l] (I (chkEv l)):=by
 unfold chkEv
 cases hm:decide ((l.length:Int) > 8) with
 | true=>
   refine fnD_t (cfg_ok w0) h0 (cs59_gd h0) (fd:=fnOf Tryz.f59) rfl (L:=[ldP 0 (fnOf Tryz.f59).ntmps rel59 .normal (st59 l (0,0,0))]) (o:=[]) ((body59 l .normal (0,0,0) (.inr rfl)).trans ?_) trivial
   rw [hm];rfl
 | false=>
   have hlen:l.length ≤ 8:=by rw [decide_eq_false_iff_not] at hm;omega
   refine fn_rg h0 (cs59_gd h0) (fd:=fnOf Tryz.f59) rfl rel59 l.length (by omega) (st59 l) (step59 l) (Inv59 l) (a0:=(0,0)) ⟨fun _=>rfl,fun h=>absurd h (by omega)⟩
    (fun j a hj ⟨i1',i2'⟩=>.leaf (by
     obtain ⟨e,r⟩:=a
     rw [round59,inE_nat hj,lt_t hj]
     have he:=err59 (l:=l) (j:=j) (e:=e) i1' i2'
     have ht:tl59 l j e r = some ([],(step59 l j (e,r)).1,st59 l (nx j (step59 l j (e,r)))):=by
      unfold tl59 step59
      rw [Int.toNat_natCast,← he]
      cases h1:(e1Z (nth l j) e != 0) with
      | true=>simp only [cond_true,h1];rfl
      | false=>
        simp only [cond_false]
        cases h2:(e2Z (nth l j) != 0) <;> rfl
     rcases Nat.eq_zero_or_pos j with h | h
     ·rw [decide_eq_false (show ¬ ((j:Int) > 0) by omega)]
      exact ht
     ·rw [decide_eq_true (show (j:Int) > 0 by omega),pv_nat h (by omega),inE_nat (show j - 1 < l.length by omega),Int.toNat_natCast,Int.toNat_natCast]
      cases hs:sameEv (nth l j) (nth l (j - 1)) with
      | false=>exact ht
      | true=>
        have:=same59 h hs (i2' h).2
        unfold step59
        rw [this]
        rfl)) (fun j a a' hj ⟨i1',i2'⟩ h=>by
     unfold step59 at h
     cases hc:(errI l j != 0) <;> rw [hc] at h <;> cases h
     refine ⟨fun h=>absurd h (by omega),fun _=>⟨rfl,?_⟩⟩
     have hz:errI l j = 0:=by simpa using hc
     unfold errI at hz
     exact (first_zero hz).1)
    (fun a _=>.leaf (by obtain ⟨e,r⟩:=a;rw [round59,ge_f];rfl)) fun x p hx=>?_
   obtain ⟨q,e',hq⟩:=run_chk (l:=l) l.length 0 0
   rw [hq] at hx
   simp only [cond_false]
   cases hc:(chkI l l.length 0 != 0) <;> rw [hc] at hx <;> cases hx
   ·rw [show chkI l l.length 0 = 0 by simpa using hc]
    exact (body59 l _ _ (.inr rfl)).trans (by rw [hm];rfl)
   ·exact (body59 l _ _ (.inl rfl)).trans (by rw [hm];rfl)
def evC (g:Nat):Ct:=ct g [.v evK] fun a=>.leaf (I (chkEv a.1))
theorem gd59 (h0:Lib0 w0):Gd (cfg w0) (evC 59):=gd_sig fun a d hd=>by cases hd;exact fn59 h0 a.1
def cs61:List Ct:=c124 :: baseC
theorem cs61_gd (h0:Lib0 w0):Gds (cfg w0) cs61:=⟨gd124 h0,baseC_gd h0⟩
def rel61:List (Nat × Cv):=[(0,.id),(3,.id),(2,.id)]
def st61 (l:List (Tup evK)) (a:Int × Int):List D:=[.vec evK l,I a.1,I a.2]
def tl61 (l:List (Tup evK)) (j r:Int):Option (Obs × X × List D):=
 bif inE l j then bif r5 (nth l j.toNat) != 0 then some ([],.ret,st61 l (j,r5 (nth l j.toNat))) else some ([],.normal,st61 l (W (j + 1),r)) else none
theorem round61 (l:List (Tup evK)) (j r:Int):rndD ((cfg w0).at cs61) 40 [] 40 (fnOf Tryz.f61).ntmps rel61 (lpB 0 (fnOf Tryz.f61).body) (st61 l (j,r)) =
  bif decide (j < l.length) then bif inE l j then
   bif spanE (nth l j.toNat) != 0 then some ([],.ret,st61 l (j,spanE (nth l j.toNat))) else
   bif decide (j > 0) then bif inE l j then bif inE l (pv j) then
    bif decide (ef (nth l j.toNat) < et (nth l (pv j).toNat)) then some ([],.ret,st61 l (j,15)) else tl61 l j r
   else none else none else tl61 l j r
  else none else some ([],.exit 0,st61 l (j,r)):=by kernel_rfl
theorem body61 (l:List (Tup evK)) (x:X) (p:Int × Int) (hx:x = .ret ∨ x = .normal):bodyT ((cfg w0).at cs61) 40 [ldP 0 (fnOf Tryz.f61).ntmps rel61 x (st61 l p)] 40 (fnOf Tryz.f61) [.vec evK l] =
  bif decide ((l.length:Int) > 8) then some ([],I 5) else some ([(ldP 0 (fnOf Tryz.f61).ntmps rel61 x (st61 l p),.loop (lpB 0 (fnOf Tryz.f61).body),st61 l (0,0))],onX x (I p.2) (I 0)):=by
 rcases hx with rfl | rfl <;> kernel_rfl
def step61 (l:List (Tup evK)) (j:Nat) (a:Int):X × Int:=bif errI l j != 0 then (.ret,errI l j) else (.normal,a)
theorem run_chk1 {l:List (Tup evK)}:∀ (f i:Nat),∃ (q:Nat),rgRun 0 (step61 l) f i 0 = bif chkI l f i != 0 then (.ret,((q:Int),chkI l f i)) else (.exit 0,(((i + f:Nat):Int),0))
 | 0,i=>⟨0,rfl⟩
 | f + 1,i=>by
   unfold rgRun chkI
   cases hc:(errI l i != 0) with
   | true=>exact ⟨i,by simp only [step61,hc,cond_true]⟩
   | false=>
     obtain ⟨q,h⟩:=run_chk1 (l:=l) f (i + 1)
     refine ⟨q,?_⟩
     simp only [step61,hc,cond_false]
     rw [h,show i + 1 + f = i + (f + 1) by omega]
theorem fn61 (h0:Lib0 w0) (l:List (Tup evK)):FnD (cfg w0) 61 [.vec evK l] (I (chkEv l)):=by
 unfold chkEv
 cases hm:decide ((l.length:Int) > 8) with
 | true=>
   refine fnD_t (cfg_ok w0) h0 (cs61_gd h0) (fd:=fnOf Tryz.f61) rfl (L:=[ldP 0 (fnOf Tryz.f61).ntmps rel61 .normal (st61 l (0,0))]) (o:=[]) ((body61 l .normal (0,0) (.inr rfl)).trans ?_) trivial
   rw [hm];rfl
 | false=>
   have hlen:l.length ≤ 8:=by rw [decide_eq_false_iff_not] at hm;omega
   refine fn_rg h0 (cs61_gd h0) (fd:=fnOf Tryz.f61) rfl rel61 l.length (by omega) (st61 l) (step61 l) (fun _ _=>True) (a0:=0) trivial
    (fun j a hj _=>.leaf (by
     rw [round61,inE_nat hj,lt_t hj]
     have ht:tl61 l j a = bif r5 (nth l j) != 0 then some ([],.ret,st61 l (j,r5 (nth l j))) else some ([],.normal,st61 l (W (j + 1),a)):=by
      unfold tl61
      rw [inE_nat hj,Int.toNat_natCast]
      rfl
     rw [ht]
     unfold step61 errI ovl
     rw [Int.toNat_natCast]
     cases hs:(spanE (nth l j) != 0) with
     | true=>simp only [cond_true,hs];rfl
     | false=>
       simp only [cond_false,cond_true]
       rcases Nat.eq_zero_or_pos j with h | h
       ·rw [decide_eq_false (show ¬ ((j:Int) > 0) by omega),decide_eq_false (show ¬ 0 < j by omega),Bool.false_and]
        simp only [cond_false]
        cases hr:(r5 (nth l j) != 0) <;> rfl
       ·rw [decide_eq_true (show (j:Int) > 0 by omega),decide_eq_true h,Bool.true_and,pv_nat h (by omega),inE_nat (show j - 1 < l.length by omega),Int.toNat_natCast]
        simp only [cond_true]
        cases decide (ef (nth l j) < et (nth l (j - 1)))
        ·cases hr:(r5 (nth l j) != 0) <;> simp only [cond_false,hr] <;> rfl
        ·rfl)) (fun _ _ _ _ _ _=>trivial)
    (fun a _=>.leaf (by rw [round61,ge_f];rfl)) fun x p hx=>?_
   obtain ⟨q,hq⟩:=run_chk1 (l:=l) l.length 0
   rw [hq] at hx
   simp only [cond_false]
   cases hc:(chkI l l.length 0 != 0) <;> rw [hc] at hx <;> cases hx
   ·rw [show chkI l l.length 0 = 0 by simpa using hc]
    exact (body61 l _ _ (.inr rfl)).trans (by rw [hm];rfl)
   ·exact (body61 l _ _ (.inl rfl)).trans (by rw [hm];rfl)
theorem gd61 (h0:Lib0 w0):Gd (cfg w0) (evC 61):=gd_sig fun a d hd=>by cases hd;exact fn61 h0 a.1
end
end Go.Proofs.YtifnpljmjhnbaaaGreatDoor
namespace Go.Proofs.YtifnpljmjhnbaaaGreatDoor
open Go Go.Am
set_option maxRecDepth 100000
variable {w0:World}
noncomputable section
def c126:Ct:=ct 126 [.c .str] fun a=>.leaf (Bo (isName a.1))
theorem gd126 (h0:Lib0 w0):Gd (cfg w0) c126:=gd_sig fun a d hd=>by
 obtain ⟨s,u⟩:=a
 cases hd
 exact name_good h0 [Str s] _ rfl
def c159:Ct:=ct 159 [.c .str] fun a=>.leaf (Bo (isName a.1))
theorem gd159 (h0:Lib0 w0):Gd (cfg w0) c159:=gd_sig fun a d hd=>by
 obtain ⟨s,u⟩:=a
 cases hd
 exact rname_good h0 [Str s] _ rfl
def nmZ (s:ByteArray):Int:=whenZ (!isName s) 8
theorem run127 (s:ByteArray):bodyK ((cfg w0).at [c159,whenC 102]) 40 (fnOf Tryz.f127) [Str s] = some (I (nmZ s)):=by kernel_rfl
def c127:Ct:=ct 127 [.c .str] fun a=>.leaf (I (nmZ a.1))
theorem gd127 (h0:Lib0 w0):Gd (cfg w0) c127:=gd_k h0 (cs:=[c159,whenC 102]) ⟨gd159 h0,gd102 h0,trivial⟩ (fd:=fnOf Tryz.f127) rfl (n:=40) fun a d hd=>by
 obtain ⟨s,u⟩:=a
 cases hd
 exact run127 s
def inP (l:List (Tup paK)) (j:Int):Bool:=Nat.beq 5 5 && (decide (0 ≤ j) && decide (j < l.length))
theorem inP_nat {l:List (Tup paK)} {j:Nat} (h:j < l.length):inP l (j:Int) = true:=inb 5 h
def spanP (x:Tup paK):Int:=spanZ (pf x) (pt x) 100000
def intP (x:Tup paK):Int:=interZ (pl x) (ph x) 0 maxE
def restP (x:Tup paK):Int:=firstZ [spanP x,intP x]
def chkE (seen:List ByteArray) (x:Tup paK):Int:=bif nmZ (pn x) != 0 then nmZ (pn x) else bif seen.any (fun s=>pn x == s) then 9 else restP x
def chkFrom (seen:List ByteArray):List (Tup paK)→Int
 | []=>0
 | w :: ws=>bif chkE seen w != 0 then chkE seen w else chkFrom (seen++[pn w]) ws
def chkPa (l:List (Tup paK)):Int:=bif decide ((l.length:Int) > 8) then 5 else chkFrom [] l
abbrev BB:=List (ByteArray × Bool)
def known (w:Tup paK) (es:BB):Bool:=getT (kk:=.str) (vk:=.bool) w.1 es
def learn (w:Tup paK) (es:BB):BB:=putM (kk:=.str) (vk:=.bool) w.1 true es
def err62 (w:Tup paK) (es:BB):Int:=firstZ [nmZ (pn w),whenZ (known w es) 9,spanP w,intP w]
def cs62:List Ct:=c126 :: c123 :: interC 86 :: baseC
theorem cs62_gd (h0:Lib0 w0):Gds (cfg w0) cs62:=⟨gd126 h0,gd123 h0,gd86 h0,baseC_gd h0⟩
def rel62:List (Nat × Cv):=[(11,.id),(12,.id),(13,.id),(3,.id),(2,.id)]
def st62 (l:List (Tup paK)) (a:Int × (BB × Int)):List D:=[.vec paK l,I l.length,I a.1,.omap .str .bool a.2.1,I a.2.2]
theorem round62 (l:List (Tup paK)) (j:Int) (es:BB) (e:Int):rndD ((cfg w0).at cs62) 40 [] 40 (fnOf Tryz.f62).ntmps rel62 (lpB 0 (fnOf Tryz.f62).body) (st62 l (j,(es,e))) =
  bif decide (j < l.length) then bif inP l j then
   bif err62 (nth l j.toNat) es != 0 then some ([],.ret,st62 l (j,(es,err62 (nth l j.toNat) es)))
   else some ([],.normal,st62 l (W (j + 1),(learn (nth l j.toNat) es,e)))
  else none else some ([],.exit 0,st62 l (j,(es,e))):=by kernel_rfl
theorem body62 (l:List (Tup paK)) (x:X) (p:Int × (BB × Int)) (hx:x = .ret ∨ x = .normal):bodyT ((cfg w0).at cs62) 40 [ldP 0 (fnOf Tryz.f62).ntmps rel62 x (st62 l p)] 40 (fnOf Tryz.f62) [.vec paK l] =
  bif decide ((l.length:Int) > 8) then some ([],I 5) else
  some ([(ldP 0 (fnOf Tryz.f62).ntmps rel62 x (st62 l p),.loop (lpB 0 (fnOf Tryz.f62).body),st62 l (0,([],0)))],onX x (I p.2.2) (I 0)):=by
 rcases hx with rfl | rfl <;> kernel_rfl
def f62 (w:Tup paK) (a:BB × Int):X × (BB × Int):=bif err62 w a.1 != 0 then (.ret,(a.1,err62 w a.1)) else (.normal,(learn w a.1,a.2))
theorem first4 (n s i:Int) (b:Bool):firstZ [n,whenZ b 9,s,i] = bif n != 0 then n else bif b then 9 else firstZ [s,i]:=by
 unfold firstZ firstZ
 cases hn:(n != 0)
 ·cases b <;> rfl
 ·rfl
theorem err62_eq {w:Tup paK} {es:BB} {seen:List ByteArray} (h:known w es = seen.any (fun s=>pn w == s)):err62 w es = chkE seen w:=by
 unfold err62 chkE restP
 rw [h,first4]
theorem known_learn (v w:Tup paK) (es:BB):known v (learn w es) = ((pn v == pn w) || known v es):=by
 refine (getT_put (kk:=.str) (vk:=.bool) rfl v.1 w.1 true es).trans ?_
 show cond (pn v == pn w) true (known v es) = _
 cases (pn v == pn w) <;> rfl
theorem run62:∀ (ws:List (Tup paK)) (seen:List ByteArray) (es:BB) (i:Nat),(∀ w,known w es = seen.any (fun s=>pn w == s)) →
  ∃ p,lsRun 0 f62 ws i (es,0) = (bif chkFrom seen ws != 0 then X.ret else .exit 0,p)∧(chkFrom seen ws ≠ 0→p.2.2 = chkFrom seen ws)
 | [],seen,es,i,_=>⟨_,rfl,fun h=>absurd rfl h⟩
 | w :: ws,seen,es,i,h=>by
   unfold lsRun chkFrom f62
   simp only [err62_eq (h w)]
   cases hc:(chkE seen w != 0) with
   | true=>exact ⟨((i:Int),(es,chkE seen w)),by simp [hc],fun _=>rfl⟩
   | false=>
     simp only [cond_false]
     exact run62 ws (seen++[pn w]) (learn w es) (i + 1) fun v=>by
      rw [known_learn,h v,List.any_append]
      simp [Bool.or_comm]
theorem fn62 (h0:Lib0 w0) (l:List (Tup paK)):FnD (cfg w0) 62 [.vec paK l] (I (chkPa l)):=by
 unfold chkPa
 cases hm:decide ((l.length:Int) > 8) with
 | true=>
   refine fnD_t (cfg_ok w0) h0 (cs62_gd h0) (fd:=fnOf Tryz.f62) rfl (L:=[ldP 0 (fnOf Tryz.f62).ntmps rel62 .normal (st62 l (0,([],0)))]) (o:=[]) ((body62 l .normal (0,([],0)) (.inr rfl)).trans ?_) trivial
   rw [hm];rfl
 | false=>
   have hlen:l.length ≤ 8:=by rw [decide_eq_false_iff_not] at hm;omega
   refine fn_ls h0 (cs62_gd h0) (fd:=fnOf Tryz.f62) rfl rel62 l (by omega) (st62 l) f62 (fun _ _=>True) (a0:=([],0)) trivial
    (fun j a hj _=>.leaf (by
     rw [round62,inP_nat hj,lt_t hj,Int.toNat_natCast]
     unfold f62
     cases (err62 (nth l j) a.1 != 0) <;> rfl)) (fun _ _ _ _ _ _=>trivial)
    (fun a _=>.leaf (by rw [round62,ge_f];rfl)) fun x p hx=>?_
   obtain ⟨q,hq,hq2⟩:=run62 l [] [] 0 (fun w=>rfl)
   rw [hq] at hx
   simp only [cond_false]
   cases hc:(chkFrom [] l != 0) <;> rw [hc] at hx <;> cases hx
   ·rw [show chkFrom [] l = 0 by simpa using hc]
    exact (body62 l _ _ (.inr rfl)).trans (by rw [hm];rfl)
   ·rw [← hq2 (by simpa using hc)]
    exact (body62 l _ _ (.inl rfl)).trans (by rw [hm];rfl)
def paC (g:Nat):Ct:=ct g [.v paK] fun a=>.leaf (I (chkPa a.1))
theorem gd62 (h0:Lib0 w0):Gd (cfg w0) (paC 62):=gd_sig fun a d hd=>by cases hd;exact fn62 h0 a.1
def cs64:List Ct:=c127 :: c124 :: interC 88 :: baseC
theorem cs64_gd (h0:Lib0 w0):Gds (cfg w0) cs64:=⟨gd127 h0,gd124 h0,gd88 h0,baseC_gd h0⟩
def rel64:List (Nat × Cv):=[(0,.id),(3,.id),(2,.id)]
def rel64i:List (Nat × Cv):=[(0,.id),(3,.id),(5,.id),(2,.id)]
def st64 (l:List (Tup paK)) (a:Int × Int):List D:=[.vec paK l,I a.1,I a.2]
def st64i (l:List (Tup paK)) (i:Int) (a:Int × Int):List D:=[.vec paK l,I i,I a.1,I a.2]
def ld64i (l:List (Tup paK)) (i:Int) (x:X) (p:Int × Int):Ld:=ldP 2 (fnOf Tryz.f64).ntmps rel64i x (st64i l i p)
theorem round64i (l:List (Tup paK)) (i k e:Int):rndD ((cfg w0).at cs64) 40 [] 40 (fnOf Tryz.f64).ntmps rel64i (lpB 2 (fnOf Tryz.f64).body) (st64i l i (k,e)) =
  bif decide (k < i) then bif inP l k then bif inP l i then
   bif ((pn (nth l k.toNat)).toList == (pn (nth l i.toNat)).toList) then some ([],.ret,st64i l i (k,9)) else some ([],.normal,st64i l i (W (k + 1),e))
  else none else none else some ([],.exit 2,st64i l i (k,e)):=by kernel_rfl
theorem round64n (l:List (Tup paK)) (i e:Int) (p:Int × Int):rndD ((cfg w0).at cs64) 40 [ld64i l i .normal p] 40 (fnOf Tryz.f64).ntmps rel64 (lpB 0 (fnOf Tryz.f64).body) (st64 l (i,e)) =
  bif decide (i < l.length) then bif inP l i then
   bif nmZ (pn (nth l i.toNat)) != 0 then some ([],.ret,st64 l (i,nmZ (pn (nth l i.toNat)))) else
   bif inP l i then bif inP l i then
    bif restP (nth l i.toNat) != 0 then some ([(ld64i l i .normal p,.loop (lpB 2 (fnOf Tryz.f64).body),st64i l i (0,e))],.ret,st64 l (i,restP (nth l i.toNat)))
    else some ([(ld64i l i .normal p,.loop (lpB 2 (fnOf Tryz.f64).body),st64i l i (0,e))],.normal,st64 l (W (i + 1),p.2))
   else none else none
  else none else some ([],.exit 0,st64 l (i,e)):=by kernel_rfl
theorem round64r (l:List (Tup paK)) (i e:Int) (p:Int × Int):rndD ((cfg w0).at cs64) 40 [ld64i l i .ret p] 40 (fnOf Tryz.f64).ntmps rel64 (lpB 0 (fnOf Tryz.f64).body) (st64 l (i,e)) =
  bif decide (i < l.length) then bif inP l i then
   bif nmZ (pn (nth l i.toNat)) != 0 then some ([],.ret,st64 l (i,nmZ (pn (nth l i.toNat)))) else
   some ([(ld64i l i .ret p,.loop (lpB 2 (fnOf Tryz.f64).body),st64i l i (0,e))],.ret,st64 l (i,p.2))
  else none else some ([],.exit 0,st64 l (i,e)):=by kernel_rfl
theorem body64 (l:List (Tup paK)) (x:X) (p:Int × Int) (hx:x = .ret ∨ x = .normal):bodyT ((cfg w0).at cs64) 40 [ldP 0 (fnOf Tryz.f64).ntmps rel64 x (st64 l p)] 40 (fnOf Tryz.f64) [.vec paK l] =
  bif decide ((l.length:Int) > 8) then some ([],I 5) else
  some ([(ldP 0 (fnOf Tryz.f64).ntmps rel64 x (st64 l p),.loop (lpB 0 (fnOf Tryz.f64).body),st64 l (0,0))],onX x (I p.2) (I 0)):=by
 rcases hx with rfl | rfl <;> kernel_rfl
def step64 (l:List (Tup paK)) (i:Nat) (a:Int):X × Int:=bif chkE ((l.take i).map pn) (nth l i) != 0 then (.ret,chkE ((l.take i).map pn) (nth l i)) else (.normal,a)
theorem take_any {l:List (Tup paK)} {i:Nat} (hi:i ≤ l.length) (p:ByteArray→Bool):(List.range' 0 i).any (fun k=>p (pn (nth l k))) = ((l.take i).map pn).any p:=by
 rw [Bool.eq_iff_iff,List.any_eq_true,List.any_eq_true]
 constructor
 ·rintro ⟨k,hk,hp⟩
  simp only [List.mem_range'_1] at hk
  refine ⟨_,List.mem_map.2 ⟨nth l k,?_,rfl⟩,hp⟩
  rw [List.mem_take_iff_getElem]
  exact ⟨k,by omega,by simp [nth,show k < l.length by omega]⟩
 ·rintro ⟨s,hs,hp⟩
  obtain ⟨w,hw,rfl⟩:=List.mem_map.1 hs
  obtain ⟨k,hk,rfl⟩:=List.mem_take_iff_getElem.1 hw
  refine ⟨k,by simp;omega,?_⟩
  simpa [nth,show k < l.length by omega] using hp
theorem dup_eq {l:List (Tup paK)} {i:Nat} (hi:i ≤ l.length) (s:ByteArray):(List.range' 0 i).any (fun k=>((pn (nth l k)).toList == s.toList)) = ((l.take i).map pn).any (fun t=>s == t):=by
 rw [take_any hi (fun t=>t.toList == s.toList)]
 congr 1
 funext t
 rw [beq_toListBytes s t,Bool.eq_iff_iff,beq_iff_eq,beq_iff_eq];exact eq_comm
theorem rd64 (h0:Lib0 w0) (l:List (Tup paK)) (hl:l.length ≤ 1000000) (j:Nat) (a:Int) (hj:j < l.length):RdOK ((cfg w0).at cs64) (fnOf Tryz.f64).ntmps rel64 (lpB 0 (fnOf Tryz.f64).body) (st64 l ((j:Int),a)) (step64 l j a).1 (st64 l (nx j (step64 l j a))):=by
 cases hw:(nmZ (pn (nth l j)) != 0) with
 | true=>
   have hc:chkE ((l.take j).map pn) (nth l j) = nmZ (pn (nth l j)):=by unfold chkE;rw [hw];rfl
   refine .leaf ((round64n l j a (0,0)).trans ?_)
   unfold step64
   rw [hc,inP_nat hj,lt_t hj,Int.toNat_natCast,hw]
   rfl
 | false=>
   obtain ⟨q,hq⟩:=rgRun_any (id:=2) (p:=fun k=>((pn (nth l k)).toList == (pn (nth l j)).toList)) (c:=(9:Int)) j 0 a
   have key:=fun x p=>ldT_rg (at_ok (cfg_ok w0) cs64) (at_sp h0 (cs64_gd h0)) (N:=(fnOf Tryz.f64).ntmps) (rel:=rel64i) (B:=lpB 2 (fnOf Tryz.f64).body) (id:=2) (k:=j) (by omega) (st64i l j) (fun k a=>bif ((pn (nth l k)).toList == (pn (nth l j)).toList) then (X.ret,9) else (.normal,a)) (fun _ _=>True)
    (fun k b hk _=>.leaf (by
     rw [round64i,inP_nat hj,inP_nat (show k < l.length by omega),lt_t hk,Int.toNat_natCast,Int.toNat_natCast]
     cases ((pn (nth l k)).toList == (pn (nth l j)).toList) <;> rfl)) (fun _ _ _ _ _ _=>trivial)
    (fun b _=>.leaf (by rw [round64i,ge_f];rfl)) (a0:=a) trivial (x:=x) (p:=p)
   rw [dup_eq (by omega)] at hq
   have hce:chkE ((l.take j).map pn) (nth l j) = bif ((l.take j).map pn).any (fun t=>pn (nth l j) == t) then 9 else restP (nth l j):=by unfold chkE;rw [hw];rfl
   unfold step64
   rw [hce]
   cases hb:((l.take j).map pn).any (fun t=>pn (nth l j) == t) <;> rw [hb] at hq
   ·have hrd:=round64n (w0:=w0) l j a (((0 + j:Nat):Int),a)
    rw [inP_nat hj,lt_t hj,Int.toNat_natCast,hw] at hrd
    simp only [cond_false,cond_true] at hrd ⊢
    cases hr:(restP (nth l j) != 0) with
    | true=>rw [hr] at hrd;exact .one hrd (key _ _ hq)
    | false=>rw [hr] at hrd;exact .one hrd (key _ _ hq)
   ·refine .one ((round64r l j a ((q:Int),9)).trans ?_) (key _ _ hq)
    rw [inP_nat hj,lt_t hj,Int.toNat_natCast,hw]
    rfl
theorem run64 (l:List (Tup paK)):∀ (ws pre:List (Tup paK)) (a:Int),l = pre++ws→∃ p,rgRun 0 (step64 l) ws.length pre.length a = (bif chkFrom (pre.map pn) ws != 0 then X.ret else .exit 0,p)∧(chkFrom (pre.map pn) ws ≠ 0→p.2 = chkFrom (pre.map pn) ws)
 | [],pre,a,_=>⟨_,rfl,fun h=>absurd rfl h⟩
 | w :: ws,pre,a,h=>by
   have h1:nth l pre.length = w:=by subst h;simp [nth,List.getD_eq_getElem?_getD]
   have h2:(l.take pre.length).map pn = pre.map pn:=by subst h;simp
   have hs:step64 l pre.length a = bif chkE (pre.map pn) w != 0 then (.ret,chkE (pre.map pn) w) else (.normal,a):=by unfold step64;rw [h1,h2]
   rw [List.length_cons]
   unfold rgRun chkFrom
   rw [hs]
   cases hc:(chkE (pre.map pn) w != 0) with
   | true=>exact ⟨((pre.length:Int),chkE (pre.map pn) w),by simp [hc],fun _=>rfl⟩
   | false=>
     simp only [cond_false]
     have:=run64 l ws (pre++[w]) a (by rw [h];simp)
     simpa using this
theorem fn64 (h0:Lib0 w0) (l:List (Tup paK)):FnD (cfg w0) 64 [.vec paK l] (I (chkPa l)):=by
 unfold chkPa
 cases hm:decide ((l.length:Int) > 8) with
 | true=>
   refine fnD_t (cfg_ok w0) h0 (cs64_gd h0) (fd:=fnOf Tryz.f64) rfl (L:=[ldP 0 (fnOf Tryz.f64).ntmps rel64 .normal (st64 l (0,0))]) (o:=[]) ((body64 l .normal (0,0) (.inr rfl)).trans ?_) trivial
   rw [hm];rfl
 | false=>
   have hlen:l.length ≤ 8:=by rw [decide_eq_false_iff_not] at hm;omega
   refine fn_rg h0 (cs64_gd h0) (fd:=fnOf Tryz.f64) rfl rel64 l.length (by omega) (st64 l) (step64 l) (fun _ _=>True) (a0:=0) trivial
    (fun j a hj _=>rd64 h0 l (by omega) j a hj) (fun _ _ _ _ _ _=>trivial)
    (fun a _=>.leaf ((round64n l _ a (0,0)).trans (by rw [ge_f];rfl))) fun x p hx=>?_
   obtain ⟨q,hq,hq2⟩:=run64 l l [] 0 rfl
   simp only [List.map_nil,List.length_nil] at hq hq2
   rw [hq] at hx
   simp only [cond_false]
   cases hc:(chkFrom [] l != 0) <;> rw [hc] at hx <;> cases hx
   ·rw [show chkFrom [] l = 0 by simpa using hc]
    exact (body64 l _ _ (.inr rfl)).trans (by rw [hm];rfl)
   ·rw [← hq2 (by simpa using hc)]
    exact (body64 l _ _ (.inl rfl)).trans (by rw [hm];rfl)
theorem gd64 (h0:Lib0 w0):Gd (cfg w0) (paC 64):=gd_sig fun a d hd=>by cases hd;exact fn64 h0 a.1
end
end Go.Proofs.YtifnpljmjhnbaaaGreatDoor
