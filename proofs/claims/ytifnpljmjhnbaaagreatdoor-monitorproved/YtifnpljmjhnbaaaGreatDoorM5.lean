/-
 A part of the proof of the statement that the claim names: see the last file.
-/
import Derived.Test.YtifnpljmjhnbaaaGreatDoorM4
namespace Go.Proofs.YtifnpljmjhnbaaaGreatDoor
open Go Go.Am Go.RowKit
set_option maxRecDepth 100000
theorem digs_eq:∀ (f n:Nat) (acc:List UInt8),n < 10 ^ (f + 1)→digs (f + 1) n acc = Lib.decDigits n++acc
 | 0,n,acc,h=>by
   unfold digs
   rw [Lib.decDigits]
   have hn:n < 10:=by simpa using h
   have hb:Nat.blt n 10 = true:=by rw [Nat.blt_eq];exact hn
   rw [hb,dif_pos hn];rfl
 | f + 1,n,acc,h=>by
   unfold digs
   rw [Lib.decDigits]
   split
   ·rename_i hb
    rw [Nat.blt_eq] at hb
    rw [dif_pos hb];rfl
   ·rename_i hb
    have hb':¬ n < 10:=fun h=>by rw [← Nat.blt_eq] at h;rw [hb] at h;cases h
    rw [dif_neg hb',digs_eq f (n / 10) _ (by rw [Nat.pow_succ] at h;omega)]
    simp
theorem itoaL_eq {n:Int} (h1:-9223372036854775808 ≤ n) (h2:n ≤ 9223372036854775807):itoaL n = Lib.itoa n:=by
 unfold Lib.itoa
 have e20:(10:Nat) ^ 20 = 100000000000000000000:=by decide
 cases n with
 | ofNat m=>
   have hm:¬ ((Int.ofNat m:Int) < 0):=by simp
   rw [if_neg hm]
   show digs 20 m [] = _
   rw [digs_eq 19 m [] (by rw [e20];have:(m:Int) ≤ 9223372036854775807:=h2;omega)]
   simp
 | negSucc m=>
   have hm:(Int.negSucc m:Int) < 0:=Int.negSucc_lt_zero m
   rw [if_pos hm]
   show 45 :: digs 20 (m + 1) [] = _
   rw [digs_eq 19 (m + 1) [] (by rw [e20];have:-9223372036854775808 ≤ Int.negSucc m:=h1;omega)]
   simp
theorem below_grow (w:World) (k:Nat) (os:Array Obj):Below w.heap.size w (Go.Sort.grow (w.drewN k) os):=
 ⟨rfl,rfl,rfl,by simp [Go.Sort.grow],fun i hi=>by simp [Go.Sort.grow,Array.getElem?_append,hi]⟩
theorem itoa_fn {w0:World} (hT:∀ w:World,(∀ k,k < 8→w.heap[k]? = w0.heap[k]?)→∀ n:Int,-9223372036854775808 ≤ n→n ≤ 9223372036854775807 →
  Calls Tryz.prog 135 #[.int .i64 n] w fun e w'=>e = .returned (.string ⟨(Lib.itoa n).toArray⟩)∧∃ k os,w' = Go.Sort.grow (w.drewN k) os) (ds:List D) (d:D) (h:itoaF ds = some d):FnD (cfg w0) 135 ds d:=by
 unfold itoaF at h
 split at h
 ·rename_i n
  split at h
  ·rename_i hb
   simp only [Bool.and_eq_true,decide_eq_true_eq] at hb
   cases h
   refine FnD.scal (vs:=[.int .i64 n]) (by simp [scal]) rfl fun w hw=>?_
   refine (hT w (fun k hk=>hw.1.2 k hk) n hb.1 hb.2).mono fun e w' ⟨h1,k,os,h2⟩=>⟨?_,?_⟩
   ·rw [itoaL_eq hb.1 hb.2];exact h1
   ·rw [h2];exact below_grow w k os
  ·cases h
 ·cases h
theorem floor_fn {w0:World} (ds:List D) (d:D) (h:floorF ds = some d):FnD (cfg w0) 219 ds d:=by
 unfold floorF at h
 split at h
 ·rename_i x
  split at h
  ·cases h
  ·rename_i e hne
   cases h
   refine FnD.scal (vs:=[.float .f64 x]) (by simp [scal]) rfl fun w hw=>?_
   refine (Tryz.floor219 x w (fun s t h=>hne s t h)).mono fun e w' ⟨h1,h2⟩=>⟨h1,?_⟩
   rw [h2];exact Below.refl _ _
 ·cases h
theorem abs_fn {w0:World} (ds:List D) (d:D) (h:absF ds = some d):FnD (cfg w0) 228 ds d:=by
 unfold absF at h
 split at h
 ·rename_i x
  split at h
  ·rename_i hb
   cases h
   refine FnD.scal (vs:=[.float .f64 x]) (by simp [scal]) rfl fun w hw=>?_
   refine (Tryz.abs228 x w (by rw [Nat.blt_eq] at hb;exact hb)).mono fun e w' ⟨h1,h2⟩=>⟨h1,?_⟩
   rw [h2];exact Below.refl _ _
  ·cases h
 ·cases h
theorem lib0 {w0:World} (hT:∀ w:World,(∀ k,k < 8→w.heap[k]? = w0.heap[k]?)→∀ n:Int,-9223372036854775808 ≤ n→n ≤ 9223372036854775807 →
  Calls Tryz.prog 135 #[.int .i64 n] w fun e w'=>e = .returned (.string ⟨(Lib.itoa n).toArray⟩)∧∃ k os,w' = Go.Sort.grow (w.drewN k) os):Lib0 w0:=by
 refine ⟨fun g Fn hm ds d hd=>?_,fun g Fn hm=>?_,fun g Fn hm=>?_,fun g Fn hm=>?_⟩
 ·have hm:modeF g = .spec Fn:=hm
  unfold modeF at hm
  split at hm
  ·rename_i e;rw [Nat.beq_eq] at e;cases hm;rw [e];exact itoa_fn hT ds d hd
  ·split at hm
   ·rename_i e;rw [Nat.beq_eq] at e;cases hm;rw [e];exact floor_fn ds d hd
   ·split at hm
    ·rename_i e;rw [Nat.beq_eq] at e;cases hm;rw [e];exact abs_fn ds d hd
    ·split at hm <;> cases hm
 ·have hm:modeF g = .specG Fn:=hm
  unfold modeF at hm
  split at hm
  ·cases hm
  ·split at hm
   ·cases hm
   ·split at hm
    ·cases hm
    ·split at hm <;> cases hm
 ·have hm:modeF g = .specT Fn:=hm
  unfold modeF at hm
  split at hm
  ·cases hm
  ·split at hm
   ·cases hm
   ·split at hm
    ·cases hm
    ·split at hm <;> cases hm
 ·have hm:modeF g = .specH Fn:=hm
  unfold modeF at hm
  split at hm
  ·cases hm
  ·split at hm
   ·cases hm
   ·split at hm
    ·cases hm
    ·split at hm <;> cases hm
end Go.Proofs.YtifnpljmjhnbaaaGreatDoor
namespace Go.Proofs.YtifnpljmjhnbaaaGreatDoor
open Go Go.Am
set_option maxRecDepth 100000
variable {w0:World}
noncomputable section
theorem gd_k (h0:Lib0 w0) {cs:List Ct} (hcs:Gds (cfg w0) cs) {g:Nat} {ss:List Sh} {F:ArgT ss→FT D} {fd:AFn} (hfd:fnTr.get g = some fd) {n:Nat} (h:∀ a d,(F a).run = some d→bodyK ((cfg w0).at cs) n fd (toShs ss a) = some d):Gd (cfg w0) (ct g ss F):=
 gd_body (cfg_ok w0) h0 hcs hfd h
abbrev W (n:Int):Int:=IntKind.i64.wrap n
def whenZ (b:Bool) (e:Int):Int:=bif b then e else 0
def withinZ (n lo hi:Int):Int:=whenZ (decide (n < lo) || decide (n > hi)) 3
def cmpZ (p q:Int):Int:=bif decide (p < q) then -1 else bif decide (q < p) then 1 else 0
abbrev boK:Kd:=.bool
def whenC (g:Nat):Ct:=ct g [.c boK,.c ik] fun a=>.leaf (I (whenZ a.1 a.2.1))
def withinC (g:Nat):Ct:=ct g [.c ik,.c ik,.c ik] fun a=>.leaf (I (withinZ a.1 a.2.1 a.2.2.1))
def rangeC (g:Nat) (lo hi:Int):Ct:=ct g [.c ik] fun a=>.leaf (I (withinZ a.1 lo hi))
theorem when_t {b:Bool} {e:Int}:(bif b then some (I e) else some (I 0)) = some (I (whenZ b e)):=by cases b <;> rfl
theorem within_t {n lo hi:Int}:(bif decide (n < lo) then some (I 3) else bif decide (n > hi) then some (I 3) else some (I 0)) = some (I (withinZ n lo hi)):=by
 unfold withinZ whenZ
 cases decide (n < lo) <;> cases decide (n > hi) <;> rfl
abbrev maxE:Int:=10000000000000
theorem gd104 (h0:Lib0 w0):Gd (cfg w0) (whenC 104):=gd_k h0 (cs:=[]) trivial (fd:=fnOf Tryz.f104) rfl (n:=40) fun a d hd=>by
 obtain ⟨b,e,u⟩:=a;cases hd
 have:bodyK ((cfg w0).at []) 40 (fnOf Tryz.f104) [Bo b,I e] = bif b then some (I e) else some (I 0):=by kernel_rfl
 exact this.trans when_t
theorem gd102 (h0:Lib0 w0):Gd (cfg w0) (whenC 102):=gd_k h0 (cs:=[]) trivial (fd:=fnOf Tryz.f102) rfl (n:=40) fun a d hd=>by
 obtain ⟨b,e,u⟩:=a;cases hd
 have:bodyK ((cfg w0).at []) 40 (fnOf Tryz.f102) [Bo b,I e] = bif b then some (I e) else some (I 0):=by kernel_rfl
 exact this.trans when_t
theorem gd203 (h0:Lib0 w0):Gd (cfg w0) (whenC 203):=gd_k h0 (cs:=[]) trivial (fd:=fnOf Tryz.f203) rfl (n:=40) fun a d hd=>by
 obtain ⟨b,e,u⟩:=a;cases hd
 have:bodyK ((cfg w0).at []) 40 (fnOf Tryz.f203) [Bo b,I e] = bif b then some (I e) else some (I 0):=by kernel_rfl
 exact this.trans when_t
theorem gd85 (h0:Lib0 w0):Gd (cfg w0) (withinC 85):=gd_k h0 (cs:=[]) trivial (fd:=fnOf Tryz.f85) rfl (n:=40) fun a d hd=>by
 obtain ⟨n,lo,hi,u⟩:=a;cases hd
 have key:∀ n lo hi:Int,bodyK ((cfg w0).at []) 40 (fnOf Tryz.f85) [I n,I lo,I hi] = bif decide (n < lo) then some (I 3) else bif decide (n > hi) then some (I 3) else some (I 0):=fun n lo hi=>by kernel_rfl
 exact (key n lo hi).trans within_t
theorem gd30 (h0:Lib0 w0):Gd (cfg w0) (withinC 30):=gd_k h0 (cs:=[]) trivial (fd:=fnOf Tryz.f30) rfl (n:=40) fun a d hd=>by
 obtain ⟨n,lo,hi,u⟩:=a;cases hd
 have key:∀ n lo hi:Int,bodyK ((cfg w0).at []) 40 (fnOf Tryz.f30) [I n,I lo,I hi] = bif decide (n < lo) then some (I 3) else bif decide (n > hi) then some (I 3) else some (I 0):=fun n lo hi=>by kernel_rfl
 exact (key n lo hi).trans within_t
theorem gd18 (h0:Lib0 w0):Gd (cfg w0) (rangeC 18 1 1000000000):=gd_k h0 (cs:=[]) trivial (fd:=fnOf Tryz.f18) rfl (n:=40) fun a d hd=>by
 obtain ⟨n,u⟩:=a;cases hd
 have key:∀ n:Int,bodyK ((cfg w0).at []) 40 (fnOf Tryz.f18) [I n] = bif decide (n < 1) then some (I 3) else bif decide (n > 1000000000) then some (I 3) else some (I 0):=fun n=>by kernel_rfl
 exact (key n).trans within_t
theorem gd120 (h0:Lib0 w0):Gd (cfg w0) (rangeC 120 0 300):=gd_k h0 (cs:=[]) trivial (fd:=fnOf Tryz.f120) rfl (n:=40) fun a d hd=>by
 obtain ⟨n,u⟩:=a;cases hd
 have key:∀ n:Int,bodyK ((cfg w0).at []) 40 (fnOf Tryz.f120) [I n] = bif decide (n < 0) then some (I 3) else bif decide (n > 300) then some (I 3) else some (I 0):=fun n=>by kernel_rfl
 exact (key n).trans within_t
theorem gd158 (h0:Lib0 w0):Gd (cfg w0) (rangeC 158 0 300):=gd_k h0 (cs:=[]) trivial (fd:=fnOf Tryz.f158) rfl (n:=40) fun a d hd=>by
 obtain ⟨n,u⟩:=a;cases hd
 have key:∀ n:Int,bodyK ((cfg w0).at []) 40 (fnOf Tryz.f158) [I n] = bif decide (n < 0) then some (I 3) else bif decide (n > 300) then some (I 3) else some (I 0):=fun n=>by kernel_rfl
 exact (key n).trans within_t
theorem gd47 (h0:Lib0 w0):Gd (cfg w0) (rangeC 47 (-8) 8):=gd_k h0 (cs:=[]) trivial (fd:=fnOf Tryz.f47) rfl (n:=40) fun a d hd=>by
 obtain ⟨n,u⟩:=a;cases hd
 have key:∀ n:Int,bodyK ((cfg w0).at []) 40 (fnOf Tryz.f47) [I n] = bif decide (n < (-8)) then some (I 3) else bif decide (n > 8) then some (I 3) else some (I 0):=fun n=>by kernel_rfl
 exact (key n).trans within_t
theorem gd125 (h0:Lib0 w0):Gd (cfg w0) (rangeC 125 0 maxE):=gd_k h0 (cs:=[]) trivial (fd:=fnOf Tryz.f125) rfl (n:=40) fun a d hd=>by
 obtain ⟨n,u⟩:=a;cases hd
 have key:∀ n:Int,bodyK ((cfg w0).at []) 40 (fnOf Tryz.f125) [I n] = bif decide (n < 0) then some (I 3) else bif decide (n > maxE) then some (I 3) else some (I 0):=fun n=>by kernel_rfl
 exact (key n).trans within_t
def c101:Ct:=ct 101 [.c ik,.c ik] fun a=>.leaf (I (cmpZ a.1 a.2.1))
theorem run101 (p q:Int):bodyK ((cfg w0).at []) 40 (fnOf Tryz.f101) [I p,I q] = some (I (cmpZ p q)):=by
 have:bodyK ((cfg w0).at []) 40 (fnOf Tryz.f101) [I p,I q] =
  bif (p != p) then bif (q != q) then some (I 0) else some (I (-1)) else bif (q != q) then some (I 1) else bif decide (p < q) then some (I (-1)) else bif decide (p > q) then some (I 1) else some (I 0):=by kernel_rfl
 refine this.trans ?_
 unfold cmpZ
 simp only [bne_self_eq_false,cond_false]
 cases decide (p < q)
 ·simp only [cond_false,gt_iff_lt]
  cases decide (q < p) <;> rfl
 ·rfl
theorem gd101 (h0:Lib0 w0):Gd (cfg w0) c101:=gd_k h0 (cs:=[]) trivial (fd:=fnOf Tryz.f101) rfl (n:=40) fun a d hd=>by
 obtain ⟨p,q,u⟩:=a;cases hd
 exact run101 p q
def cfgX (w0:World) (cs:List Ct):Cfg:={ (cfg w0).on cs with crisp:=true }
theorem cfgX_ok (w0:World) (cs:List Ct):CfgOk (cfgX w0 cs):=⟨(cfg_ok w0).1,(cfg_ok w0).2,(cfg_ok w0).3⟩
def eqV:Value→Value→Bool
 | .int k a,.int k' b=>decide (k = k') && decide (a = b)
 | .string a,.string b=>a.data.toList == b.data.toList
 | .bool a,.bool b=>a == b
 | .float k a,.float k' b=>decide (k = k') && Nat.beq a b
 | .slice none 0 0,.slice none 0 0=>true
 | _,_=>false
theorem eqV_eq {a b:Value} (h:eqV a b = true):a = b:=by
 unfold eqV at h
 split at h
 ·simp only [Bool.and_eq_true,decide_eq_true_eq] at h;rw [h.1,h.2]
 ·rename_i a b
  obtain ⟨⟨a⟩⟩:=a
  obtain ⟨⟨b⟩⟩:=b
  simp only [beq_iff_eq] at h
  rw [h]
 ·rw [beq_iff_eq] at h;rw [h]
 ·simp only [Bool.and_eq_true,decide_eq_true_eq,Nat.beq_eq] at h;rw [h.1,h.2]
 ·rfl
 ·cases h
def eqL (E:D→D→Bool):List D→List D→Bool
 | [],[]=>true
 | a :: xs,b :: ys=>E a b && eqL E xs ys
 | _,_=>false
def eqD:Nat→D→D→Bool
 | 0,_,_=>false
 | n + 1,a,b=>match a,b with
   | .val x,.val y=>eqV x y
   | .agg xs,.agg ys=>eqL (eqD n) xs ys
   | .sl k z xs,.sl k' z' ys=>Nat.beq k k' && Nat.beq z z' && eqL (eqD n) xs ys
   | _,_=>false
theorem eqL_eq {E:D→D→Bool} (hE:∀ a b,E a b = true→a = b):∀ {xs ys:List D},eqL E xs ys = true→xs = ys
 | [],[],_=>rfl
 | a :: xs,b :: ys,h=>by
   simp only [eqL,Bool.and_eq_true] at h
   rw [hE a b h.1,eqL_eq hE h.2]
 | [],_ :: _,h=>by cases h
 | _ :: _,[],h=>by cases h
theorem eqD_eq:∀ (n:Nat) (a b:D),eqD n a b = true→a = b
 | 0,_,_,h=>by cases h
 | n + 1,a,b,h=>by
   unfold eqD at h
   split at h
   ·rw [eqV_eq h]
   ·rw [eqL_eq (eqD_eq n) h]
   ·simp only [Bool.and_eq_true,Nat.beq_eq] at h
    rw [h.1.1,h.1.2,eqL_eq (eqD_eq n) h.2]
   ·cases h
def atT:List (List D × D)→List D→FT D
 | [],_=>.bad
 | (ds,d) :: r,xs=>match eqL (eqD 8) xs ds with
   | true=>.leaf d
   | false=>atT r xs
def atC (g:Nat) (l:List (List D × D)):Ct:=⟨g,atT l⟩
def RunAt (w0:World) (g:Nat) (p:List D × D):Prop:=FnD (cfg w0) g p.1 p.2
def RunsAt (w0:World) (g:Nat):List (List D × D)→Prop
 | []=>True
 | p :: r=>RunAt w0 g p∧RunsAt w0 g r
theorem gd_at {g:Nat}:∀ {l:List (List D × D)},RunsAt w0 g l→Gd (cfg w0) (atC g l)
 | [],_=>fun ds d hd=>by cases hd
 | (ds',d') :: r,h=>fun ds d hd=>by
   simp only [atC,atT] at hd
   split at hd
   ·rename_i e
    cases eqL_eq (eqD_eq 8) e
    cases hd
    exact h.1
   ·exact gd_at h.2 ds d hd
theorem run_at (h0:Lib0 w0) {cs:List Ct} (hcs:Gds (cfg w0) cs) {g:Nat} {fd:AFn} (hfd:fnTr.get g = some fd) {ds:List D} {d:D} {n:Nat} (h:bodyD (cfgX w0 cs) (ev (cfgX w0 cs) n) fd ds = some d):RunAt w0 g (ds,d):=
 bodyD_sound (C:=cfgX w0 cs) (cfgX_ok w0 cs) (ev_sound (cfgX_ok w0 cs) (specs_on h0 hcs) n) hfd h
def awA:List Ct:=[whenC 104,whenC 102,whenC 203,withinC 85,withinC 30,rangeC 18 1 1000000000,rangeC 120 0 300,rangeC 158 0 300,rangeC 47 (-8) 8,rangeC 125 0 maxE,c101]
theorem awA_gd (h0:Lib0 w0):Gds (cfg w0) awA:=⟨gd104 h0,gd102 h0,gd203 h0,gd85 h0,gd30 h0,gd18 h0,gd120 h0,gd158 h0,gd47 h0,gd125 h0,gd101 h0,trivial⟩
end
end Go.Proofs.YtifnpljmjhnbaaaGreatDoor
namespace Go.Proofs.YtifnpljmjhnbaaaGreatDoor
open Go Go.Am
set_option maxRecDepth 100000
variable {w0:World}
noncomputable section
def i1 (x:Tup intK):Int:=x.1
def firstZ:List Int→Int
 | []=>0
 | e :: es=>bif e != 0 then e else firstZ es
theorem lsRun_first (p:Tup intK→Int):∀ (l:List (Tup intK)) (i:Nat) (a:Int),∃ q:Nat,lsRun 0 (fun x a=>bif p x != 0 then (X.ret,p x) else (.normal,a)) l i a = bif firstZ (l.map p) != 0 then (.ret,((q:Int),firstZ (l.map p))) else (.exit 0,(((i + l.length:Nat):Int),a))
 | [],i,a=>⟨0,rfl⟩
 | x :: xs,i,a=>by
   obtain ⟨q,hq⟩:=lsRun_first p xs (i + 1) a
   unfold lsRun
   rw [List.map_cons]
   unfold firstZ
   cases hx:(p x != 0) with
   | true=>exact ⟨i,by simp only [hx,cond_true]⟩
   | false=>
     refine ⟨q,?_⟩
     simp only [cond_false]
     rw [hq]
     simp only [List.length_cons,show i + 1 + xs.length = i + (xs.length + 1) by omega]
def rel84:List (Nat × Cv):=[(5,.id),(6,.id),(7,.id),(2,.id)]
def st84 (l:List (Tup intK)) (a:Int × Int):List D:=[.vec intK l,I l.length,I a.1,I a.2]
theorem round84 (l:List (Tup intK)) (j b:Int):rndD ((cfg w0).at []) 40 [] 40 (fnOf Tryz.f84).ntmps rel84 (lpB 0 (fnOf Tryz.f84).body) (st84 l (j,b)) =
  bif decide (j < l.length) then
   bif (Nat.beq 1 1 && (decide (0 ≤ j) && decide (j < l.length))) then
    bif i1 (nth l j.toNat) != 0 then some ([],.ret,st84 l (j,i1 (nth l j.toNat))) else some ([],.normal,st84 l (W (j + 1),b))
   else none
  else some ([],.exit 0,st84 l (j,b)):=by kernel_rfl
theorem body84 (l:List (Tup intK)) (x:X) (p:Int × Int) (hx:x = .ret ∨ x = .normal):bodyT ((cfg w0).at []) 40 [ldP 0 (fnOf Tryz.f84).ntmps rel84 x (st84 l p)] 40 (fnOf Tryz.f84) [.vec intK l] =
  some ([(ldP 0 (fnOf Tryz.f84).ntmps rel84 x (st84 l p),.loop (lpB 0 (fnOf Tryz.f84).body),st84 l (0,0))],onX x (I p.2) (I 0)):=by
 rcases hx with rfl | rfl <;> kernel_rfl
theorem fn84 (h0:Lib0 w0) (l:List (Tup intK)) (hl:l.length ≤ 100000):FnD (cfg w0) 84 [.vec intK l] (I (firstZ (l.map i1))):=by
 refine fn_ls h0 (cs:=[]) trivial (fd:=fnOf Tryz.f84) rfl rel84 l (by omega) (st84 l) (fun x a=>bif i1 x != 0 then (X.ret,i1 x) else (.normal,a)) (fun _ _=>True) (a0:=0) trivial
  (fun j a hj _=>.leaf (by
   rw [round84,inb 1 hj,lt_t hj,Int.toNat_natCast]
   cases (i1 (nth l j) != 0) <;> rfl)) (fun _ _ _ _ _ _=>trivial)
  (fun a _=>.leaf (by rw [round84,ge_f];rfl)) fun x p hx=>?_
 obtain ⟨q,hq⟩:=lsRun_first i1 l 0 0
 rw [hq] at hx
 cases hf:(firstZ (l.map i1) != 0) <;> rw [hf] at hx <;> cases hx
 ·rw [show firstZ (l.map i1) = 0 by simpa using hf]
  exact body84 l _ _ (.inr rfl)
 ·exact body84 l _ _ (.inl rfl)
def firstC (g:Nat):Ct:=ct g [.v intK] fun a=>.br (Nat.ble (a.1:List (Tup intK)).length 100000) (.leaf (I (firstZ ((a.1:List (Tup intK)).map i1)))) .bad
theorem gd84 (h0:Lib0 w0):Gd (cfg w0) (firstC 84):=gd_sig fun a d hd=>by
 obtain ⟨hg,hd⟩:=br_run hd
 cases hd
 exact fn84 h0 a.1 (Nat.le_of_ble_eq_true hg)
def rel17:List (Nat × Cv):=[(0,.id),(3,.id),(2,.id)]
def st17 (l:List (Tup intK)) (a:Int × Int):List D:=[.vec intK l,I a.1,I a.2]
theorem round17 (l:List (Tup intK)) (j b:Int):rndD ((cfg w0).at []) 40 [] 40 (fnOf Tryz.f17).ntmps rel17 (lpB 0 (fnOf Tryz.f17).body) (st17 l (j,b)) =
  bif decide (j < l.length) then
   bif (Nat.beq 1 1 && (decide (0 ≤ j) && decide (j < l.length))) then
    bif i1 (nth l j.toNat) != 0 then bif (Nat.beq 1 1 && (decide (0 ≤ j) && decide (j < l.length))) then some ([],.ret,st17 l (j,i1 (nth l j.toNat))) else none else some ([],.normal,st17 l (W (j + 1),b))
   else none
  else some ([],.exit 0,st17 l (j,b)):=by kernel_rfl
theorem body17 (l:List (Tup intK)) (x:X) (p:Int × Int) (hx:x = .ret ∨ x = .normal):bodyT ((cfg w0).at []) 40 [ldP 0 (fnOf Tryz.f17).ntmps rel17 x (st17 l p)] 40 (fnOf Tryz.f17) [.vec intK l] =
  some ([(ldP 0 (fnOf Tryz.f17).ntmps rel17 x (st17 l p),.loop (lpB 0 (fnOf Tryz.f17).body),st17 l (0,0))],onX x (I p.2) (I 0)):=by
 rcases hx with rfl | rfl <;> kernel_rfl
theorem fn17 (h0:Lib0 w0) (l:List (Tup intK)) (hl:l.length ≤ 100000):FnD (cfg w0) 17 [.vec intK l] (I (firstZ (l.map i1))):=by
 refine fn_ls h0 (cs:=[]) trivial (fd:=fnOf Tryz.f17) rfl rel17 l (by omega) (st17 l) (fun x a=>bif i1 x != 0 then (X.ret,i1 x) else (.normal,a)) (fun _ _=>True) (a0:=0) trivial
  (fun j a hj _=>.leaf (by
   rw [round17,inb 1 hj,lt_t hj,Int.toNat_natCast]
   cases (i1 (nth l j) != 0) <;> rfl)) (fun _ _ _ _ _ _=>trivial)
  (fun a _=>.leaf (by rw [round17,ge_f];rfl)) fun x p hx=>?_
 obtain ⟨q,hq⟩:=lsRun_first i1 l 0 0
 rw [hq] at hx
 cases hf:(firstZ (l.map i1) != 0) <;> rw [hf] at hx <;> cases hx
 ·rw [show firstZ (l.map i1) = 0 by simpa using hf]
  exact body17 l _ _ (.inr rfl)
 ·exact body17 l _ _ (.inl rfl)
theorem gd17 (h0:Lib0 w0):Gd (cfg w0) (firstC 17):=gd_sig fun a d hd=>by
 obtain ⟨hg,hd⟩:=br_run hd
 cases hd
 exact fn17 h0 a.1 (Nat.le_of_ble_eq_true hg)
theorem rgRun_any {β:Type} {id:Nat} {p:Nat→Bool} {c:β}:∀ (f i:Nat) (a:β),∃ q:Nat,rgRun id (fun j a=>bif p j then (X.ret,c) else (.normal,a)) f i a = bif (List.range' i f).any p then (.ret,((q:Int),c)) else (.exit id,(((i + f:Nat):Int),a))
 | 0,i,a=>⟨0,rfl⟩
 | f + 1,i,a=>by
   obtain ⟨q,hq⟩:=rgRun_any (id:=id) (p:=p) (c:=c) f (i + 1) a
   unfold rgRun
   rw [List.range'_succ,List.any_cons]
   cases hp:p i with
   | true=>exact ⟨i,by simp⟩
   | false=>
     refine ⟨q,?_⟩
     simp only [cond_false,Bool.false_or]
     rw [hq,show i + 1 + f = i + (f + 1) by omega]
def sameI (a b:List (Tup intK)):Bool:=decide (a.map i1 = b.map i1)
theorem sameI_any {a b:List (Tup intK)} (h:a.length = b.length):(List.range' 0 a.length).any (fun j=>i1 (nth a j) != i1 (nth b j)) = !sameI a b:=by
 unfold sameI
 rw [Bool.eq_iff_iff,List.any_eq_true]
 simp only [List.mem_range'_1,bne_iff_ne,Bool.not_eq_true',decide_eq_false_iff_not]
 constructor
 ·rintro ⟨j,⟨_,hj⟩,hne⟩ he
  have:=congrArg (fun l=>l[j]?) he
  simp only [List.getElem?_map] at this
  rw [List.getElem?_eq_getElem (by omega),List.getElem?_eq_getElem (by omega)] at this
  simp only [Option.map_some,Option.some.injEq] at this
  apply hne
  simp only [nth,List.getD_eq_getElem?_getD,List.getElem?_eq_getElem (show j < a.length by omega),List.getElem?_eq_getElem (show j < b.length by omega),Option.getD_some]
  exact this
 ·intro hne
  apply Classical.byContradiction
  intro hno
  apply hne
  apply List.ext_getElem?
  intro j
  simp only [List.getElem?_map]
  rcases Nat.lt_or_ge j a.length with hj | hj
  ·rw [List.getElem?_eq_getElem hj,List.getElem?_eq_getElem (by omega)]
   simp only [Option.map_some,Option.some.injEq]
   apply Classical.byContradiction
   intro hx
   refine hno ⟨j,⟨by omega,by omega⟩,fun hy=>hx ?_⟩
   simpa only [nth,List.getD_eq_getElem?_getD,List.getElem?_eq_getElem (show j < a.length by omega),List.getElem?_eq_getElem (show j < b.length by omega),Option.getD_some] using hy
  ·rw [List.getElem?_eq_none hj,List.getElem?_eq_none (by omega)]
def rel51:List (Nat × Cv):=[(0,.id),(1,.id),(5,.id),(4,.id)]
def st51 (a b:List (Tup intK)) (s:Int × Bool):List D:=[.vec intK a,.vec intK b,I s.1,Bo s.2]
theorem round51 (a b:List (Tup intK)) (j:Int) (r:Bool):rndD ((cfg w0).at []) 40 [] 40 (fnOf Tryz.f51).ntmps rel51 (lpB 0 (fnOf Tryz.f51).body) (st51 a b (j,r)) =
  bif decide (j < a.length) then
   bif (Nat.beq 1 1 && (decide (0 ≤ j) && decide (j < a.length))) then
    bif (Nat.beq 1 1 && (decide (0 ≤ j) && decide (j < b.length))) then
     bif i1 (nth a j.toNat) != i1 (nth b j.toNat) then some ([],.ret,st51 a b (j,false)) else some ([],.normal,st51 a b (W (j + 1),r))
    else none
   else none
  else some ([],.exit 0,st51 a b (j,r)):=by kernel_rfl
theorem body51 (a b:List (Tup intK)) (x:X) (p:Int × Bool) (hx:x = .ret ∨ x = .normal):bodyT ((cfg w0).at []) 40 [ldP 0 (fnOf Tryz.f51).ntmps rel51 x (st51 a b p)] 40 (fnOf Tryz.f51) [.vec intK a,.vec intK b] =
  bif (a.length:Int) != b.length then some ([],Bo false) else
  some ([(ldP 0 (fnOf Tryz.f51).ntmps rel51 x (st51 a b p),.loop (lpB 0 (fnOf Tryz.f51).body),st51 a b (0,false))],onX x (Bo p.2) (Bo true)):=by
 rcases hx with rfl | rfl <;> kernel_rfl
theorem fn51 (h0:Lib0 w0) (a b:List (Tup intK)) (hl:a.length ≤ 100000):FnD (cfg w0) 51 [.vec intK a,.vec intK b] (Bo (sameI a b)):=by
 cases hne:((a.length:Int) != b.length) with
 | true=>
   have:sameI a b = false:=by
    unfold sameI
    rw [decide_eq_false_iff_not]
    intro h
    have:=congrArg List.length h
    simp only [List.length_map] at this
    rw [this] at hne
    simp at hne
   rw [this]
   refine fnD_t (cfg_ok w0) h0 (cs:=[]) trivial (fd:=fnOf Tryz.f51) rfl (L:=[ldP 0 (fnOf Tryz.f51).ntmps rel51 .normal (st51 a b (0,true))]) (o:=[]) ((body51 a b .normal (0,true) (.inr rfl)).trans ?_) trivial
   rw [hne];rfl
 | false=>
   have hab:a.length = b.length:=Int.ofNat.inj (by simpa using hne)
   refine fn_rg h0 (cs:=[]) trivial (fd:=fnOf Tryz.f51) rfl rel51 a.length (by omega) (st51 a b) (fun j r=>bif i1 (nth a j) != i1 (nth b j) then (X.ret,false) else (.normal,r)) (fun _ _=>True) (a0:=false) trivial
    (fun j r hj _=>.leaf (by
     rw [round51,inb 1 hj,← hab,inb 1 hj,lt_t hj,Int.toNat_natCast]
     cases (i1 (nth a j) != i1 (nth b j)) <;> rfl)) (fun _ _ _ _ _ _=>trivial)
    (fun r _=>.leaf (by rw [round51,ge_f];rfl)) fun x p hx=>?_
   obtain ⟨q,hq⟩:=rgRun_any (id:=0) (p:=fun j=>i1 (nth a j) != i1 (nth b j)) (c:=false) a.length 0 false
   rw [hq,sameI_any hab] at hx
   cases hs:sameI a b <;> rw [hs] at hx <;> cases hx
   ·exact (body51 a b _ _ (.inl rfl)).trans (by rw [hne];rfl)
   ·exact (body51 a b _ _ (.inr rfl)).trans (by rw [hne];rfl)
def c51:Ct:=ct 51 [.v intK,.v intK] fun a=>.br (Nat.ble (a.1:List (Tup intK)).length 100000) (.leaf (Bo (sameI a.1 a.2.1))) .bad
theorem gd51 (h0:Lib0 w0):Gd (cfg w0) c51:=gd_sig fun a d hd=>by
 obtain ⟨hg,hd⟩:=br_run hd
 cases hd
 exact fn51 h0 a.1 a.2.1 (Nat.le_of_ble_eq_true hg)
end
end Go.Proofs.YtifnpljmjhnbaaaGreatDoor
namespace Go.Proofs.YtifnpljmjhnbaaaGreatDoor
open Go Go.Am
set_option maxRecDepth 100000
variable {w0:World}
noncomputable section
abbrev IvK:List Kd:=[ik,ik]
def interZ (a b lo hi:Int):Int:=
 bif withinZ a lo hi != 0 then withinZ a lo hi else bif withinZ b lo hi != 0 then withinZ b lo hi else bif whenZ (decide (a > b)) 11 != 0 then whenZ (decide (a > b)) 11 else 0
def baseC:List Ct:=[whenC 104,whenC 102,whenC 203,withinC 85,withinC 30,rangeC 18 1 1000000000,rangeC 120 0 300,rangeC 158 0 300,rangeC 47 (-8) 8,rangeC 125 0 maxE,c101,firstC 84,firstC 17,c51]
theorem baseC_gd (h0:Lib0 w0):Gds (cfg w0) baseC:=⟨gd104 h0,gd102 h0,gd203 h0,gd85 h0,gd30 h0,gd18 h0,gd120 h0,gd158 h0,gd47 h0,gd125 h0,gd101 h0,gd84 h0,gd17 h0,gd51 h0,trivial⟩
def interC (g:Nat):Ct:=ct g [.b IvK,.c ik,.c ik] fun a=>.leaf (I (interZ a.1.1 a.1.2.1 a.2.1 a.2.2.1))
theorem run86 (a b lo hi:Int):bodyK ((cfg w0).at baseC) 40 (fnOf Tryz.f86) [.agg [I a,I b],I lo,I hi] = some (I (interZ a b lo hi)):=by kernel_rfl
theorem gd86 (h0:Lib0 w0):Gd (cfg w0) (interC 86):=gd_k h0 (cs:=baseC) (baseC_gd h0) (fd:=fnOf Tryz.f86) rfl (n:=40) fun a d hd=>by
 obtain ⟨⟨x,y,_⟩,lo,hi,u⟩:=a;cases hd
 exact run86 x y lo hi
theorem run88 (a b lo hi:Int):bodyK ((cfg w0).at baseC) 40 (fnOf Tryz.f88) [.agg [I a,I b],I lo,I hi] = some (I (interZ a b lo hi)):=by kernel_rfl
theorem gd88 (h0:Lib0 w0):Gd (cfg w0) (interC 88):=gd_k h0 (cs:=baseC) (baseC_gd h0) (fd:=fnOf Tryz.f88) rfl (n:=40) fun a d hd=>by
 obtain ⟨⟨x,y,_⟩,lo,hi,u⟩:=a;cases hd
 exact run88 x y lo hi
def mx (a b:Int):Int:=if b > a then b else a
end
end Go.Proofs.YtifnpljmjhnbaaaGreatDoor
