/-
 A part of the proof of the statement that the claim names: see the last file.
-/
import Derived.Test.YtifnpljmjhnbaaaGreatDoorP1
import Derived.Test.YtifnpljmjhnbaaaGreatDoorS1
import Derived.Test.YtifnpljmjhnbaaaGreatDoorAm5
namespace Go.Proofs.YtifnpljmjhnbaaaGreatDoor
open Go Go.Am
set_option maxRecDepth 100000
variable {w0:World}
noncomputable section
def inO (o:List (Tup intK)) (j:Int):Bool:=Nat.beq 1 1 && (decide (0 ≤ j) && decide (j < o.length))
theorem inO_nat {o:List (Tup intK)} {j:Nat} (h:j < o.length):inO o (j:Int) = true:=inb 1 h
def sm (l:List (Tup intK)):Bool:=Nat.ble l.length 100000
theorem sm_le {l:List (Tup intK)} (h:sm l = true):l.length ≤ 100000:=Nat.le_of_ble_eq_true h
theorem room_own {l:List (Tup intK)} (h:sm l = true):(Nat.ble (([]++l).length * 8) 1000000000000 && Nat.ble ([]++l).length 1000000000000) = true:=by
 have:=sm_le h
 simp only [List.nil_append,Bool.and_eq_true,Nat.ble_eq]
 omega
theorem run26 (l:List (Tup intK)):bodyK ((cfg w0).at []) 40 (fnOf Tryz.f26) [.vec intK l] =
  bif (Nat.ble (([]++l).length * 8) 1000000000000 && Nat.ble ([]++l).length 1000000000000) then some (.vec intK ([]++l)) else none:=by kernel_rfl
def c26:Ct:=ct 26 [.v intK] fun a=>.br (sm a.1) (.leaf (.vec intK a.1)) .bad
theorem gd26 (h0:Lib0 w0):Gd (cfg w0) c26:=gd_k h0 (cs:=[]) trivial (fd:=fnOf Tryz.f26) rfl (n:=40) fun a d hd=>by
 obtain ⟨l,u⟩:=a
 obtain ⟨hg,hd⟩:=br_run hd
 cases hd
 refine (run26 l).trans ?_
 rw [room_own hg]
 rfl
def wiE (lo hi:Int) (x:Tup intK):Tup intK:=t1 (withinZ (i1 x) lo hi)
def rel149:List (Nat × Cv):=[(8,.id),(9,.id),(10,.id),(5,.ov intK),(1,.id)]
def st149 (lo hi:Int) (l:List (Tup intK)) (a:Int × List (Tup intK)):List D:=[.vec intK l,I l.length,I a.1,.ovec intK a.2,.fn 150 [] [.box [I lo],.box [I hi]]]
theorem round149 (lo hi j:Int) (l:List (Tup intK)) (o:List (Tup intK)):rndD ((cfg w0).at [withinC 85]) 40 [] 40 (fnOf Tryz.f149).ntmps rel149 (lpB 0 (fnOf Tryz.f149).body) (st149 lo hi l (j,o)) =
  bif decide (j < l.length) then bif inO l j then
   bif (Nat.ble ((o++[wiE lo hi (nth l j.toNat)]).length * 8) 1000000000000 && Nat.ble (o++[wiE lo hi (nth l j.toNat)]).length 1000000000000) then some ([],.normal,st149 lo hi l (W (j + 1),o++[wiE lo hi (nth l j.toNat)])) else none
  else none else some ([],.exit 0,st149 lo hi l (j,o)):=by kernel_rfl
theorem body149 (lo hi:Int) (l:List (Tup intK)) (p:Int × List (Tup intK)):bodyT ((cfg w0).at [withinC 85]) 40 [ldP 0 (fnOf Tryz.f149).ntmps rel149 .normal (st149 lo hi l p)] 40 (fnOf Tryz.f149) [.vec intK l,.fn 150 [] [.box [I lo],.box [I hi]]] =
  some ([(ldP 0 (fnOf Tryz.f149).ntmps rel149 .normal (st149 lo hi l p),.loop (lpB 0 (fnOf Tryz.f149).body),st149 lo hi l (0,[]))],.vec intK p.2):=by kernel_rfl
theorem fn149 (h0:Lib0 w0) (lo hi:Int) (l:List (Tup intK)) (hg:l.length ≤ 100000):FnD (cfg w0) 149 [.vec intK l,.fn 150 [] [.box [I lo],.box [I hi]]] (.vec intK (l.map (wiE lo hi))):=by
 refine fn_ls h0 (cs:=[withinC 85]) ⟨gd85 h0,trivial⟩ (fd:=fnOf Tryz.f149) rfl rel149 l (by omega) (st149 lo hi l) (fun w a=>(X.normal,a++[wiE lo hi w])) (fun j a=>a.length = j) (a0:=[]) rfl
  (fun j a hj hi'=>.leaf (by
   have hi':a.length = j:=hi'
   rw [round149,inO_nat hj,lt_t hj,Int.toNat_natCast,room (by omega) (by omega)]
   rfl)) (fun j a a' _ hi h=>by cases h;simp [hi])
  (fun a _=>.leaf (by rw [round149,ge_f];rfl)) fun x p hx=>?_
 rw [lsRun_fold (h:=fun w b=>b++[wiE lo hi w]) 0 l 0 [] (fun _ _ _=>rfl),foldl_snoc (wiE lo hi)] at hx
 cases hx
 exact body149 lo hi l _
def asRg (d:D):Option (Int × Int):=match d with
 | .fn 150 [] [.box [.val (.int .i64 a)],.box [.val (.int .i64 b)]]=>some (a,b)
 | _=>none
theorem asRg_eq {d:D} {p:Int × Int} (h:asRg d = some p):d = .fn 150 [] [.box [I p.1],.box [I p.2]]:=by
 unfold asRg at h
 split at h
 ·cases h;rfl
 ·cases h
def c149:Ct:=ct 149 [.v intK,.x] fun a=>match asRg a.2.1 with
 | some p=>.br (sm a.1) (.leaf (.vec intK ((a.1:List (Tup intK)).map (wiE p.1 p.2)))) .bad
 | none=>.bad
theorem gd149 (h0:Lib0 w0):Gd (cfg w0) c149:=gd_sig fun a d hd=>by
 obtain ⟨l,f,u⟩:=a
 simp only at hd
 cases hb:asRg f with
 | none=>rw [hb] at hd;cases hd
 | some p=>
   rw [hb] at hd
   obtain ⟨hg,hd⟩:=br_run hd
   cases hd
   cases asRg_eq hb
   exact fn149 h0 p.1 p.2 l (sm_le hg)
def rgE (l:List (Tup intK)) (lo hi:Int):Int:=firstZ ((l.map (wiE lo hi)).map i1)
theorem run105 (l:List (Tup intK)) (lo hi:Int):bodyK ((cfg w0).at [c149,firstC 84]) 40 (fnOf Tryz.f105) [.vec intK l,I lo,I hi] =
  bif sm l then bif Nat.ble (l.map (wiE lo hi)).length 100000 then some (I (rgE l lo hi)) else none else none:=by kernel_rfl
theorem run105' (l:List (Tup intK)) (lo hi:Int) (hg:sm l = true):bodyK ((cfg w0).at [c149,firstC 84]) 40 (fnOf Tryz.f105) [.vec intK l,I lo,I hi] = some (I (rgE l lo hi)):=by
 rw [run105,hg,List.length_map,show Nat.ble l.length 100000 = true from hg]
 rfl
def c105:Ct:=ct 105 [.v intK,.c ik,.c ik] fun a=>.br (sm a.1) (.leaf (I (rgE a.1 a.2.1 a.2.2.1))) .bad
theorem gd105 (h0:Lib0 w0):Gd (cfg w0) c105:=gd_k h0 (cs:=[c149,firstC 84]) ⟨gd149 h0,gd84 h0,trivial⟩ (fd:=fnOf Tryz.f105) rfl (n:=40) fun a d hd=>by
 obtain ⟨l,lo,hi,u⟩:=a
 obtain ⟨hg,hd⟩:=br_run hd
 cases hd
 exact run105' l lo hi hg
end
end Go.Proofs.YtifnpljmjhnbaaaGreatDoor
namespace Go.Am
variable {G:Gl} {GB:Nat}
theorem GiveOK.sl_one {w w':World} {ks:List Kd} {n:Nat} {vs:List Value} {l:List (Tup ks)} {u:Value} (hf:flatK ks = true) (hs:0 < ks.length) (hn:0 < n) (hv:vs.length = n * ks.length) (hl:ofRows ks n vs = some l)
  (h:GiveOK G GB w w' (.sl n ks.length (vs.map .val)) u):GiveOK G GB w w' (.vec ks l) u:=fun r0 h0 H0=>by
 obtain ⟨r1,S,H,v⟩:=h r0 h0 H0
 simp only [imp,imps_vals] at S H v ⊢
 obtain ⟨r2,T,K,v2,_⟩:=row_list hf hs hn hv hl H0 S H v
 exact ⟨r2,T,K,v2⟩
theorem FnD.sl_one {C:Cfg} {g:FuncId} {ds:List D} {ks:List Kd} {n:Nat} {vs:List Value} {l:List (Tup ks)} (hf:flatK ks = true) (hs:0 < ks.length) (hn:0 < n) (hv:vs.length = n * ks.length) (hl:ofRows ks n vs = some l)
  (h:FnD C g ds (.sl n ks.length (vs.map .val))):FnD C g ds (.vec ks l):=fun w args hb hi=>
 (h w args hb hi).mono fun _ _ ⟨u,a,b⟩=>⟨u,a,b.sl_one hf hs hn hv hl⟩
end Go.Am
namespace Go.Proofs.YtifnpljmjhnbaaaGreatDoor
open Go Go.Am
set_option maxRecDepth 100000
variable {w0:World}
noncomputable section
abbrev evK:List Kd:=[ik,ik,ik,ik,ik,ik]
abbrev paK:List Kd:=[.str,ik,ik,ik,ik]
abbrev strK:List Kd:=[.str]
def ef (x:Tup evK):Int:=x.1
def et (x:Tup evK):Int:=x.2.1
def ee (x:Tup evK):Int:=x.2.2.1
def ep (x:Tup evK):Int:=x.2.2.2.1
def ea (x:Tup evK):Int:=x.2.2.2.2.1
def em (x:Tup evK):Int:=x.2.2.2.2.2.1
def pn (x:Tup paK):ByteArray:=x.1
def pf (x:Tup paK):Int:=x.2.1
def pt (x:Tup paK):Int:=x.2.2.1
def pl (x:Tup paK):Int:=x.2.2.2.1
def ph (x:Tup paK):Int:=x.2.2.2.2.1
abbrev evD (x:Tup evK):D:=.agg [I x.1,I x.2.1,I x.2.2.1,I x.2.2.2.1,I x.2.2.2.2.1,I x.2.2.2.2.2.1]
abbrev paD (x:Tup paK):D:=.agg [Str x.1,I x.2.1,I x.2.2.1,I x.2.2.2.1,I x.2.2.2.2.1]
theorem bif3_I {a b c:Bool} {e:Int}:(bif a then some (I (whenZ true e)) else bif b then some (I (whenZ true e)) else some (I (whenZ c e))) = some (I (whenZ (a || (b || c)) e)):=by cases a <;> cases b <;> rfl
def spanZ (f t m:Int):Int:=whenZ (decide (f < 0) || (decide (f ≥ t) || decide (t > m))) 14
theorem run123 (f t:Int):bodyK ((cfg w0).at [whenC 104]) 40 (fnOf Tryz.f123) [.agg [I f,I t]] = bif decide (f < 0) then some (I (whenZ true 14)) else bif decide (f ≥ t) then some (I (whenZ true 14)) else some (I (whenZ (decide (t > 100000)) 14)):=by kernel_rfl
def c123:Ct:=ct 123 [.b IvK] fun a=>.leaf (I (spanZ a.1.1 a.1.2.1 100000))
theorem gd123 (h0:Lib0 w0):Gd (cfg w0) c123:=gd_k h0 (cs:=[whenC 104]) ⟨gd104 h0,trivial⟩ (fd:=fnOf Tryz.f123) rfl (n:=40) fun a d hd=>by
 obtain ⟨⟨f,t,_⟩,u⟩:=a
 cases hd
 exact (run123 f t).trans bif3_I
theorem run124 (f t m:Int):bodyK ((cfg w0).at [whenC 102]) 40 (fnOf Tryz.f124) [.agg [I f,I t],I m] = bif decide (f < 0) then some (I (whenZ true 14)) else bif decide (f ≥ t) then some (I (whenZ true 14)) else some (I (whenZ (decide (t > m)) 14)):=by kernel_rfl
def c124:Ct:=ct 124 [.b IvK,.c ik] fun a=>.leaf (I (spanZ a.1.1 a.1.2.1 a.2.1))
theorem gd124 (h0:Lib0 w0):Gd (cfg w0) c124:=gd_k h0 (cs:=[whenC 102]) ⟨gd102 h0,trivial⟩ (fd:=fnOf Tryz.f124) rfl (n:=40) fun a d hd=>by
 obtain ⟨⟨f,t,_⟩,m,u⟩:=a
 cases hd
 exact (run124 f t m).trans bif3_I
def shortE (l:List (Tup evK)):Bool:=decide ((l.length:Int) ≤ 4) || ((l.length:Int) == 9)
def longP (x:Tup paK):Bool:=decide (((pn x).size:Int) > 40)
def rel53:List (Nat × Cv):=[(0,.id),(3,.id),(2,.id)]
def st53 (l:List (Tup paK)) (a:Int × Bool):List D:=[.vec paK l,I a.1,Bo a.2]
theorem round53 (l:List (Tup paK)) (j:Int) (b:Bool):rndD ((cfg w0).at []) 40 [] 40 (fnOf Tryz.f53).ntmps rel53 (lpB 0 (fnOf Tryz.f53).body) (st53 l (j,b)) =
  bif decide (j < l.length) then bif (Nat.beq 5 5 && (decide (0 ≤ j) && decide (j < l.length))) then
   bif longP (nth l j.toNat) then some ([],.ret,st53 l (j,false)) else some ([],.normal,st53 l (W (j + 1),b))
  else none else some ([],.exit 0,st53 l (j,b)):=by kernel_rfl
theorem body53r (l:List (Tup paK)) (p:Int × Bool):bodyT ((cfg w0).at []) 40 [ldP 0 (fnOf Tryz.f53).ntmps rel53 .ret (st53 l p)] 40 (fnOf Tryz.f53) [.vec paK l] =
  some ([(ldP 0 (fnOf Tryz.f53).ntmps rel53 .ret (st53 l p),.loop (lpB 0 (fnOf Tryz.f53).body),st53 l (0,false))],Bo p.2):=by kernel_rfl
theorem body53n (l:List (Tup paK)) (p:Int × Bool):bodyT ((cfg w0).at []) 40 [ldP 0 (fnOf Tryz.f53).ntmps rel53 .normal (st53 l p)] 40 (fnOf Tryz.f53) [.vec paK l] =
  bif decide ((l.length:Int) ≤ 4) then some ([(ldP 0 (fnOf Tryz.f53).ntmps rel53 .normal (st53 l p),.loop (lpB 0 (fnOf Tryz.f53).body),st53 l (0,false))],Bo true) else some ([(ldP 0 (fnOf Tryz.f53).ntmps rel53 .normal (st53 l p),.loop (lpB 0 (fnOf Tryz.f53).body),st53 l (0,false))],Bo ((l.length:Int) == 9)):=by kernel_rfl
def shortP (l:List (Tup paK)):Bool:=!(l.any longP) && (decide ((l.length:Int) ≤ 4) || ((l.length:Int) == 9))
theorem lsRun_anyc {ks:List Kd} {β:Type} (p:Tup ks→Bool) (c:β):∀ (l:List (Tup ks)) (i:Nat) (a:β),∃ q:Nat,lsRun 0 (fun x a=>bif p x then (X.ret,c) else (.normal,a)) l i a = bif l.any p then (.ret,((q:Int),c)) else (.exit 0,(((i + l.length:Nat):Int),a))
 | [],i,a=>⟨0,rfl⟩
 | x :: xs,i,a=>by
   obtain ⟨q,hq⟩:=lsRun_anyc p c xs (i + 1) a
   unfold lsRun
   rw [List.any_cons]
   cases hx:p x with
   | true=>exact ⟨i,by simp⟩
   | false=>
     refine ⟨q,?_⟩
     simp only [cond_false,Bool.false_or]
     rw [hq,List.length_cons,show i + 1 + xs.length = i + (xs.length + 1) by omega]
theorem fn_lsW (h0:Lib0 w0) {cs:List Ct} (hcs:Gds (cfg w0) cs) {g:FuncId} {fd:AFn} (hfd:fnTr.get g = some fd) (rel:List (Nat × Cv)) {ks:List Kd} (l:List (Tup ks)) (hlen:l.length ≤ 9223372036854775807) {α:Type} (st:Int × α→List D)
  (f:Tup ks→α→X × α) (inv:Nat→α→Prop) {a0:α} (hi:inv 0 a0)
  (hr:∀ (j:Nat) a,j < l.length→inv j a→RdOK ((cfg w0).at cs) fd.ntmps rel (lpB 0 fd.body) (st ((j:Int),a)) (f (nth l j) a).1 (st (nx j (f (nth l j) a))))
  (hn:∀ (j:Nat) a a',j < l.length→inv j a→f (nth l j) a = (.normal,a')→inv (j + 1) a')
  (he:∀ a,inv l.length a→RdOK ((cfg w0).at cs) fd.ntmps rel (lpB 0 fd.body) (st ((l.length:Int),a)) (.exit 0) (st ((l.length:Int),a)))
  {ds:List D} {d:D} (hb:∀ x p,lsRun 0 f l 0 a0 = (x,p)→bodyT ((cfg w0).at cs) 40 [ldP 0 fd.ntmps rel (outX 0 x) (st p)] 40 fd ds = some ([(ldP 0 fd.ntmps rel (outX 0 x) (st p),.loop (lpB 0 fd.body),st (0,a0))],d)):FnD (cfg w0) g ds d:=by
 cases hx:lsRun 0 f l 0 a0 with
 | mk x p=>exact fnD_lp (cfg_ok w0) h0 hcs hfd (hb x p hx) (ldT_lsW (at_ok (cfg_ok w0) cs) (at_sp h0 hcs) l (by omega) st f inv hr hn he hi hx)
theorem fn53 (h0:Lib0 w0) (l:List (Tup paK)) (hl:l.length ≤ 9223372036854775807):FnD (cfg w0) 53 [.vec paK l] (Bo (shortP l)):=by
 refine fn_lsW h0 (cs:=[]) trivial (fd:=fnOf Tryz.f53) rfl rel53 l (by omega) (st53 l) (fun x a=>bif longP x then (X.ret,false) else (.normal,a)) (fun _ _=>True) (a0:=false) trivial
  (fun j a hj _=>.leaf (by
   rw [round53,inb 5 hj,lt_t hj,Int.toNat_natCast]
   cases longP (nth l j) <;> rfl)) (fun _ _ _ _ _ _=>trivial)
  (fun a _=>.leaf (by rw [round53,ge_f];rfl)) fun x p hx=>?_
 obtain ⟨q,hq⟩:=lsRun_anyc longP false l 0 false
 rw [hq] at hx
 unfold shortP
 cases ha:l.any longP <;> rw [ha] at hx <;> cases hx
 ·refine (body53n l _).trans ?_
  cases decide ((l.length:Int) ≤ 4) <;> rfl
 ·exact body53r l _
def c53:Ct:=ct 53 [.v paK] fun a=>.br (Nat.ble (a.1:List (Tup paK)).length 9223372036854775807) (.leaf (Bo (shortP a.1))) .bad
theorem gd53 (h0:Lib0 w0):Gd (cfg w0) c53:=gd_sig fun a d hd=>by
 obtain ⟨hg,hd⟩:=br_run hd
 cases hd
 exact fn53 h0 a.1 (Nat.le_of_ble_eq_true hg)
def rel60:List (Nat × Cv):=[(6,.id),(7,.id),(8,.id),(3,.ov evK)]
def st60 (l:List (Tup evK)) (a:Int × List (Tup evK)):List D:=[.vec evK l,I l.length,I a.1,.ovec evK a.2]
theorem round60 (l o:List (Tup evK)) (j:Int):rndD ((cfg w0).at []) 40 [] 40 (fnOf Tryz.f60).ntmps rel60 (lpB 0 (fnOf Tryz.f60).body) (st60 l (j,o)) =
  bif decide (j < l.length) then bif (Nat.beq 6 6 && (decide (0 ≤ j) && decide (j < l.length))) then
   bif (Nat.ble ((o++[nth l j.toNat]).length * 48) 1000000000000 && Nat.ble (o++[nth l j.toNat]).length 1000000000000) then some ([],.normal,st60 l (W (j + 1),o++[nth l j.toNat])) else none
  else none else some ([],.exit 0,st60 l (j,o)):=by kernel_rfl
theorem body60 (l:List (Tup evK)) (p:Int × List (Tup evK)):bodyT ((cfg w0).at []) 40 [ldP 0 (fnOf Tryz.f60).ntmps rel60 .normal (st60 l p)] 40 (fnOf Tryz.f60) [.vec evK l] =
  some ([(ldP 0 (fnOf Tryz.f60).ntmps rel60 .normal (st60 l p),.loop (lpB 0 (fnOf Tryz.f60).body),st60 l (0,[]))],.vec evK p.2):=by kernel_rfl
theorem fn60 (h0:Lib0 w0) (l:List (Tup evK)) (hg:l.length ≤ 100000):FnD (cfg w0) 60 [.vec evK l] (.vec evK l):=by
 refine fn_ls h0 (cs:=[]) trivial (fd:=fnOf Tryz.f60) rfl rel60 l (by omega) (st60 l) (fun w a=>(X.normal,a++[w])) (fun j a=>a.length = j) (a0:=[]) rfl
  (fun j a hj hi=>.leaf (by
   have hi:a.length = j:=hi
   rw [round60,inb 6 hj,lt_t hj,Int.toNat_natCast,room (by omega) (by omega)]
   rfl)) (fun j a a' _ hi h=>by cases h;simp [hi])
  (fun a _=>.leaf (by rw [round60,ge_f];rfl)) fun x p hx=>?_
 rw [lsRun_fold (h:=fun w b=>b++[w]) 0 l 0 [] (fun _ _ _=>rfl),show (fun b (w:Tup evK)=>b++[w]) = (fun b w=>b++[id w]) from rfl,foldl_snoc id,List.map_id,List.nil_append] at hx
 cases hx
 exact body60 l _
def rel63:List (Nat × Cv):=[(6,.id),(7,.id),(8,.id),(3,.ov paK)]
def st63 (l:List (Tup paK)) (a:Int × List (Tup paK)):List D:=[.vec paK l,I l.length,I a.1,.ovec paK a.2]
theorem round63 (l o:List (Tup paK)) (j:Int):rndD ((cfg w0).at []) 40 [] 40 (fnOf Tryz.f63).ntmps rel63 (lpB 0 (fnOf Tryz.f63).body) (st63 l (j,o)) =
  bif decide (j < l.length) then bif (Nat.beq 5 5 && (decide (0 ≤ j) && decide (j < l.length))) then
   bif (Nat.ble ((o++[nth l j.toNat]).length * 48) 1000000000000 && Nat.ble (o++[nth l j.toNat]).length 1000000000000) then some ([],.normal,st63 l (W (j + 1),o++[nth l j.toNat])) else none
  else none else some ([],.exit 0,st63 l (j,o)):=by kernel_rfl
theorem body63 (l:List (Tup paK)) (p:Int × List (Tup paK)):bodyT ((cfg w0).at []) 40 [ldP 0 (fnOf Tryz.f63).ntmps rel63 .normal (st63 l p)] 40 (fnOf Tryz.f63) [.vec paK l] =
  some ([(ldP 0 (fnOf Tryz.f63).ntmps rel63 .normal (st63 l p),.loop (lpB 0 (fnOf Tryz.f63).body),st63 l (0,[]))],.vec paK p.2):=by kernel_rfl
theorem fn63 (h0:Lib0 w0) (l:List (Tup paK)) (hg:l.length ≤ 100000):FnD (cfg w0) 63 [.vec paK l] (.vec paK l):=by
 refine fn_ls h0 (cs:=[]) trivial (fd:=fnOf Tryz.f63) rfl rel63 l (by omega) (st63 l) (fun w a=>(X.normal,a++[w])) (fun j a=>a.length = j) (a0:=[]) rfl
  (fun j a hj hi=>.leaf (by
   have hi:a.length = j:=hi
   rw [round63,inb 5 hj,lt_t hj,Int.toNat_natCast,room (by omega) (by omega)]
   rfl)) (fun j a a' _ hi h=>by cases h;simp [hi])
  (fun a _=>.leaf (by rw [round63,ge_f];rfl)) fun x p hx=>?_
 rw [lsRun_fold (h:=fun w b=>b++[w]) 0 l 0 [] (fun _ _ _=>rfl),show (fun b (w:Tup paK)=>b++[w]) = (fun b w=>b++[id w]) from rfl,foldl_snoc id,List.map_id,List.nil_append] at hx
 cases hx
 exact body63 l _
def c60:Ct:=ct 60 [.v evK] fun a=>.br (Nat.ble (a.1:List (Tup evK)).length 100000) (.leaf (.vec evK a.1)) .bad
theorem gd60 (h0:Lib0 w0):Gd (cfg w0) c60:=gd_sig fun a d hd=>by
 obtain ⟨hg,hd⟩:=br_run hd
 cases hd
 exact fn60 h0 a.1 (Nat.le_of_ble_eq_true hg)
def c63:Ct:=ct 63 [.v paK] fun a=>.br (Nat.ble (a.1:List (Tup paK)).length 100000) (.leaf (.vec paK a.1)) .bad
theorem gd63 (h0:Lib0 w0):Gd (cfg w0) c63:=gd_sig fun a d hd=>by
 obtain ⟨hg,hd⟩:=br_run hd
 cases hd
 exact fn63 h0 a.1 (Nat.le_of_ble_eq_true hg)
end
end Go.Proofs.YtifnpljmjhnbaaaGreatDoor
