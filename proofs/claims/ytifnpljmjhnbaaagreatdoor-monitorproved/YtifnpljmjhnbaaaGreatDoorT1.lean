/-
 A part of the proof of the statement that the claim names: see the last file.
-/
import Derived.Test.YtifnpljmjhnbaaaGreatDoorS4
import Derived.Test.YtifnpljmjhnbaaaGreatDoorF1
import Derived.Test.YtifnpljmjhnbaaaGreatDoorAm5
namespace Go.Proofs.YtifnpljmjhnbaaaGreatDoor
open Go Go.Am
set_option maxRecDepth 100000
variable {w0:World}
noncomputable section
theorem run128 (l:List (Tup evK)) (p:List (Tup paK)) (s:Int):bodyK ((cfg w0).at (evC 59 :: paC 62 :: rangeC 158 0 300 :: baseC)) 40 (fnOf Tryz.f128) [.vec evK l,.vec paK p,I s] = some (I (allZ l p s)):=by kernel_rfl
def c128:Ct:=ct 128 [.v evK,.v paK,.c ik] fun a=>.leaf (I (allZ a.1 a.2.1 a.2.2.1))
theorem gd128 (h0:Lib0 w0):Gd (cfg w0) c128:=gd_k h0 (cs:=evC 59 :: paC 62 :: rangeC 158 0 300 :: baseC) ⟨gd59 h0,gd62 h0,gd158 h0,baseC_gd h0⟩ (fd:=fnOf Tryz.f128) rfl (n:=40) fun a d hd=>by
 obtain ⟨l,p,s,u⟩:=a
 cases hd
 exact run128 l p s
def valN (e:Tup evK) (p:Tup paK) (s:Int):Int:=bif somB (whyP e p s) then -1 else IntKind.i64.wrap (1000 - distP e p)
def evB (e:Tup evK):D:=.box [I e.1,I e.2.1,I e.2.2.1,I e.2.2.2.1,I e.2.2.2.2.1,I e.2.2.2.2.2.1]
theorem run163 (e:Tup evK) (p:Tup paK) (s:Int):bodyK ((cfg w0).at [c118,c119]) 40 (fnOf Tryz.f163) [paD p,evB e,.box [I s]] =
  bif somB (whyP e p s) then some (I (-1)) else some (I (IntKind.i64.wrap (1000 - distP e p))):=by
 obtain ⟨a1,a2,a3,a4,a5,a6,_⟩:=e
 obtain ⟨b1,b2,b3,b4,b5,_⟩:=p
 kernel_rfl
def c163:Ct:=ct 163 [.b paK,.r evK,.r intK] fun a=>.leaf (I (valN a.2.1 a.1 a.2.2.1.1))
theorem run163' (e:Tup evK) (p:Tup paK) (s:Int):bodyK ((cfg w0).at [c118,c119]) 40 (fnOf Tryz.f163) [paD p,evB e,.box [I s]] = some (I (valN e p s)):=by
 rw [run163]
 unfold valN
 cases somB (whyP e p s) <;> rfl
theorem gd163 (h0:Lib0 w0):Gd (cfg w0) c163:=gd_k h0 (cs:=[c118,c119]) ⟨gd118 h0,gd119 h0,trivial⟩ (fd:=fnOf Tryz.f163) rfl (n:=40) fun a d hd=>by
 obtain ⟨⟨b1,b2,b3,b4,b5,_⟩,⟨a1,a2,a3,a4,a5,a6,_⟩,⟨s,_⟩,u⟩:=a
 cases hd
 exact run163' (a1,a2,a3,a4,a5,a6,()) (b1,b2,b3,b4,b5,()) s
def vaE (e:Tup evK) (s:Int) (x:Tup paK):Tup intK:=t1 (valN e x s)
def fn163 (e:Tup evK) (s:Int):D:=.fn 163 [] [evB e,.box [I s]]
def rel162:List (Nat × Cv):=[(8,.id),(9,.id),(10,.id),(5,.ov intK),(1,.id)]
def st162 (e:Tup evK) (s:Int) (l:List (Tup paK)) (a:Int × List (Tup intK)):List D:=[.vec paK l,I l.length,I a.1,.ovec intK a.2,fn163 e s]
theorem round162 (e:Tup evK) (s j:Int) (l:List (Tup paK)) (o:List (Tup intK)):rndD ((cfg w0).at [c163]) 40 [] 40 (fnOf Tryz.f162).ntmps rel162 (lpB 0 (fnOf Tryz.f162).body) (st162 e s l (j,o)) =
  bif decide (j < l.length) then bif inP l j then
   bif (Nat.ble ((o++[vaE e s (nth l j.toNat)]).length * 8) 1000000000000 && Nat.ble (o++[vaE e s (nth l j.toNat)]).length 1000000000000) then some ([],.normal,st162 e s l (W (j + 1),o++[vaE e s (nth l j.toNat)])) else none
  else none else some ([],.exit 0,st162 e s l (j,o)):=by kernel_rfl
theorem body162 (e:Tup evK) (s:Int) (l:List (Tup paK)) (p:Int × List (Tup intK)):bodyT ((cfg w0).at [c163]) 40 [ldP 0 (fnOf Tryz.f162).ntmps rel162 .normal (st162 e s l p)] 40 (fnOf Tryz.f162) [.vec paK l,fn163 e s] =
  some ([(ldP 0 (fnOf Tryz.f162).ntmps rel162 .normal (st162 e s l p),.loop (lpB 0 (fnOf Tryz.f162).body),st162 e s l (0,[]))],.vec intK p.2):=by kernel_rfl
theorem fn162 (h0:Lib0 w0) (e:Tup evK) (s:Int) (l:List (Tup paK)) (hg:l.length ≤ 100000):FnD (cfg w0) 162 [.vec paK l,fn163 e s] (.vec intK (l.map (vaE e s))):=by
 refine fn_ls h0 (cs:=[c163]) ⟨gd163 h0,trivial⟩ (fd:=fnOf Tryz.f162) rfl rel162 l (by omega) (st162 e s l) (fun w a=>(X.normal,a++[vaE e s w])) (fun j a=>a.length = j) (a0:=[]) rfl
  (fun j a hj hi'=>.leaf (by
   have hi':a.length = j:=hi'
   rw [round162,inP_nat hj,lt_t hj,Int.toNat_natCast,room (by omega) (by omega)]
   rfl)) (fun j a a' _ hi h=>by cases h;simp [hi])
  (fun a _=>.leaf (by rw [round162,ge_f];rfl)) fun x p hx=>?_
 rw [lsRun_fold (h:=fun w b=>b++[vaE e s w]) 0 l 0 [] (fun _ _ _=>rfl),foldl_snoc (vaE e s)] at hx
 cases hx
 exact body162 e s l _
def asEs (d:D):Option (Tup evK × Int):=match d with
 | .fn 163 [] [.box [.val (.int .i64 a),.val (.int .i64 b),.val (.int .i64 c),.val (.int .i64 d),.val (.int .i64 e),.val (.int .i64 f)],.box [.val (.int .i64 s)]]=>some ((a,b,c,d,e,f,()),s)
 | _=>none
theorem asEs_eq {d:D} {p:Tup evK × Int} (h:asEs d = some p):d = fn163 p.1 p.2:=by
 unfold asEs at h
 split at h
 ·cases h;rfl
 ·cases h
def smP (l:List (Tup paK)):Bool:=Nat.ble l.length 100000
def c162:Ct:=ct 162 [.v paK,.x] fun a=>match asEs a.2.1 with
 | some p=>.br (smP a.1) (.leaf (.vec intK ((a.1:List (Tup paK)).map (vaE p.1 p.2)))) .bad
 | none=>.bad
theorem gd162 (h0:Lib0 w0):Gd (cfg w0) c162:=gd_sig fun a d hd=>by
 obtain ⟨l,f,u⟩:=a
 simp only at hd
 cases hb:asEs f with
 | none=>rw [hb] at hd;cases hd
 | some p=>
   rw [hb] at hd
   obtain ⟨hg,hd⟩:=br_run hd
   cases hd
   cases asEs_eq hb
   exact fn162 h0 p.1 p.2 l (Nat.le_of_ble_eq_true hg)
def vaL (e:Tup evK) (p:List (Tup paK)) (s:Int):List (Tup intK):=p.map (vaE e s)
def rowD (p:List (Tup paK)) (s:Int) (e:Tup evK):D:=.vec intK (vaL e p s)
def valsD (l:List (Tup evK)) (p:List (Tup paK)) (s:Int):D:=match l with
 | []=>.val (.slice none 0 0)
 | e :: es=>.sl (es.length + 1) 1 (rowD p s e :: es.map (rowD p s))
end
end Go.Proofs.YtifnpljmjhnbaaaGreatDoor
namespace Go.Proofs.YtifnpljmjhnbaaaGreatDoor
open Go Go.Am
set_option maxRecDepth 100000
variable {w0:World}
noncomputable section
def gAll:Bool→List (Tup evK)→D→Option D
 | _,[],d=>some d
 | g,_ :: es,d=>bif g then gAll g es d else none
theorem run129_0 (p:List (Tup paK)) (s:Int):bodyK ((cfg w0).at [c162]) 60 (fnOf Tryz.f129) [.vec evK [],.vec paK p,I s] = gAll (smP p) [] (valsD [] p s):=by kernel_rfl
theorem run129_1 (a:Tup evK) (p:List (Tup paK)) (s:Int):bodyK ((cfg w0).at [c162]) 60 (fnOf Tryz.f129) [.vec evK [a],.vec paK p,I s] = gAll (smP p) [a] (valsD [a] p s):=by kernel_rfl
theorem run129_2 (a b:Tup evK) (p:List (Tup paK)) (s:Int):bodyK ((cfg w0).at [c162]) 60 (fnOf Tryz.f129) [.vec evK [a,b],.vec paK p,I s] = gAll (smP p) [a,b] (valsD [a,b] p s):=by kernel_rfl
theorem run129_3 (a b c:Tup evK) (p:List (Tup paK)) (s:Int):bodyK ((cfg w0).at [c162]) 60 (fnOf Tryz.f129) [.vec evK [a,b,c],.vec paK p,I s] = gAll (smP p) [a,b,c] (valsD [a,b,c] p s):=by kernel_rfl
theorem run129_4 (a b c d:Tup evK) (p:List (Tup paK)) (s:Int):bodyK ((cfg w0).at [c162]) 60 (fnOf Tryz.f129) [.vec evK [a,b,c,d],.vec paK p,I s] = gAll (smP p) [a,b,c,d] (valsD [a,b,c,d] p s):=by kernel_rfl
def few (l:List (Tup evK)):Bool:=match l with
 | _ :: _ :: _ :: _ :: _ :: _=>false
 | _=>true
theorem gAll_true (l:List (Tup evK)) (d:D):gAll true l d = some d:=by
 induction l with
 | nil=>rfl
 | cons a l ih=>exact ih
theorem run129 (l:List (Tup evK)) (p:List (Tup paK)) (s:Int) (hl:few l = true) (hp:smP p = true):bodyK ((cfg w0).at [c162]) 60 (fnOf Tryz.f129) [.vec evK l,.vec paK p,I s] = some (valsD l p s):=by
 match l,hl with
 | [],_=>exact run129_0 p s
 | [a],_=>exact (run129_1 a p s).trans (by rw [hp,gAll_true])
 | [a,b],_=>exact (run129_2 a b p s).trans (by rw [hp,gAll_true])
 | [a,b,c],_=>exact (run129_3 a b c p s).trans (by rw [hp,gAll_true])
 | [a,b,c,d],_=>exact (run129_4 a b c d p s).trans (by rw [hp,gAll_true])
def c129:Ct:=ct 129 [.v evK,.v paK,.c ik] fun a=>.br (few a.1) (.br (smP a.2.1) (.leaf (valsD a.1 a.2.1 a.2.2.1)) .bad) .bad
theorem gd129 (h0:Lib0 w0):Gd (cfg w0) c129:=gd_sig fun a d hd=>by
 obtain ⟨l,p,s,u⟩:=a
 obtain ⟨hl,hd⟩:=br_run hd
 obtain ⟨hp,hd⟩:=br_run hd
 cases hd
 exact fnD_k (cfg_ok w0) h0 (cs:=[c162]) ⟨gd162 h0,trivial⟩ (fd:=fnOf Tryz.f129) rfl (run129 l p s hl hp)
def isV (x:Tup intK):Bool:=i1 x != -1
def rel164:List (Nat × Cv):=[(0,.id),(7,.id),(8,.id),(1,.id),(4,.id)]
def st164 (l:List (Tup intK)) (a:Int × Int):List D:=[.vec intK l,I l.length,I a.1,.fn 131 [] [],I a.2]
theorem round164 (l:List (Tup intK)) (j b:Int):rndD ((cfg w0).at []) 40 [] 40 (fnOf Tryz.f164).ntmps rel164 (lpB 0 (fnOf Tryz.f164).body) (st164 l (j,b)) =
  bif decide (j < l.length) then bif inO l j then
   bif isV (nth l j.toNat) then some ([],.ret,st164 l (j,j)) else some ([],.normal,st164 l (W (j + 1),b))
  else none else some ([],.exit 0,st164 l (j,b)):=by kernel_rfl
theorem body164 (l:List (Tup intK)) (x:X) (p:Int × Int) (hx:x = .ret ∨ x = .normal):bodyT ((cfg w0).at []) 40 [ldP 0 (fnOf Tryz.f164).ntmps rel164 x (st164 l p)] 40 (fnOf Tryz.f164) [.vec intK l,.fn 131 [] []] =
  some ([(ldP 0 (fnOf Tryz.f164).ntmps rel164 x (st164 l p),.loop (lpB 0 (fnOf Tryz.f164).body),st164 l (0,0))],onX x (I p.2) (I (-1))):=by
 rcases hx with rfl | rfl <;> kernel_rfl
def ixV (l:List (Tup intK)):Int:=ixR (fun j=>isV (nth l j)) l.length 0
theorem fn164 (h0:Lib0 w0) (l:List (Tup intK)) (hg:l.length ≤ 100000):FnD (cfg w0) 164 [.vec intK l,.fn 131 [] []] (I (ixV l)):=by
 refine fn_rg h0 (cs:=[]) trivial (fd:=fnOf Tryz.f164) rfl rel164 l.length (by omega) (st164 l) (fun j a=>bif isV (nth l j) then (X.ret,(j:Int)) else (.normal,a)) (fun _ _=>True) (a0:=0) trivial
  (fun j r hj _=>.leaf (by
   rw [round164,inO_nat hj,lt_t hj,Int.toNat_natCast]
   cases isV (nth l j) <;> rfl)) (fun _ _ _ _ _ _=>trivial)
  (fun r _=>.leaf (by rw [round164,ge_f];rfl)) fun x p hx=>?_
 rw [rgRun_ix] at hx
 cases hz:decide (ixR (fun j=>isV (nth l j)) l.length 0 ≥ 0) <;> rw [hz] at hx <;> cases hx
 ·have e:ixV l = -1:=ixR_neg _ _ hz
  rw [e]
  exact body164 l _ _ (.inr rfl)
 ·exact body164 l _ _ (.inl rfl)
def c164:Ct:=ct 164 [.v intK,.x] fun a=>match isFn 131 a.2.1 with
 | true=>.br (sm a.1) (.leaf (I (ixV a.1))) .bad
 | false=>.bad
theorem gd164 (h0:Lib0 w0):Gd (cfg w0) c164:=gd_sig fun a d hd=>by
 obtain ⟨l,f,u⟩:=a
 simp only at hd
 cases hb:isFn 131 f with
 | false=>rw [hb] at hd;cases hd
 | true=>
   rw [hb] at hd
   obtain ⟨hg,hd⟩:=br_run hd
   cases hd
   cases isFn_eq hb
   exact fn164 h0 l (sm_le hg)
def anyV (l:List (Tup intK)):Bool:=decide (ixV l ≥ 0)
theorem run130 (l:List (Tup intK)):bodyK ((cfg w0).at [c164]) 40 (fnOf Tryz.f130) [.vec intK l,.fn 131 [] []] = bif sm l then some (Bo (anyV l)) else none:=by kernel_rfl
def c130:Ct:=ct 130 [.v intK,.x] fun a=>match isFn 131 a.2.1 with
 | true=>.br (sm a.1) (.leaf (Bo (anyV a.1))) .bad
 | false=>.bad
theorem gd130 (h0:Lib0 w0):Gd (cfg w0) c130:=gd_sig fun a d hd=>by
 obtain ⟨l,f,u⟩:=a
 simp only at hd
 cases hb:isFn 131 f with
 | false=>rw [hb] at hd;cases hd
 | true=>
   rw [hb] at hd
   obtain ⟨hg,hd⟩:=br_run hd
   cases hd
   cases isFn_eq hb
   exact fnD_k (cfg_ok w0) h0 (cs:=[c164]) ⟨gd164 h0,trivial⟩ (fd:=fnOf Tryz.f130) rfl ((run130 l).trans (by rw [hg];rfl))
theorem anyV_eq (l:List (Tup intK)):anyV l = l.any isV:=by
 unfold anyV ixV
 rw [ixR_any,range_any]
def idxD (acc:List Int):D:=match acc with
 | []=>.val (.slice none 0 0)
 | _=>.sl acc.length 1 (acc.map I)
def tU:List (List (Tup intK))→Int→List Int→Option D
 | [],_,acc=>some (.tup [idxD acc,I 0])
 | r :: rs,i,acc=>bif sm r then bif !anyV r then tU rs (i + 1) (acc++[i]) else tU rs (i + 1) acc else none
def cs66:List Ct:=[c128,c129,c130]
def t66 (l:List (Tup evK)) (p:List (Tup paK)) (s:Int):Option D:=
 bif allZ l p s != 0 then some (.tup [.val (.slice none 0 0),I (allZ l p s)]) else bif smP p then tU (l.map fun e=>vaL e p s) 0 [] else none
end
end Go.Proofs.YtifnpljmjhnbaaaGreatDoor
namespace Go.Proofs.YtifnpljmjhnbaaaGreatDoor
open Go Go.Am
set_option maxRecDepth 100000
variable {w0:World}
noncomputable section
def cBad:Ct:=ct 129 [.x,.x,.x] fun _=>.bad
theorem gdBad:Gd (cfg w0) cBad:=gd_sig fun a d hd=>by cases hd
theorem run66_0 (p:List (Tup paK)) (s:Int):bodyK ((cfg w0).at cs66) 60 (fnOf Tryz.f66) [.vec evK [],.vec paK p,I s] = t66 [] p s:=by kernel_rfl
theorem run66_1 (a:Tup evK) (p:List (Tup paK)) (s:Int):bodyK ((cfg w0).at cs66) 60 (fnOf Tryz.f66) [.vec evK [a],.vec paK p,I s] = t66 [a] p s:=by kernel_rfl
theorem run66_2 (a b:Tup evK) (p:List (Tup paK)) (s:Int):bodyK ((cfg w0).at cs66) 60 (fnOf Tryz.f66) [.vec evK [a,b],.vec paK p,I s] = t66 [a,b] p s:=by kernel_rfl
theorem run66_3 (a b c:Tup evK) (p:List (Tup paK)) (s:Int):bodyK ((cfg w0).at cs66) 60 (fnOf Tryz.f66) [.vec evK [a,b,c],.vec paK p,I s] = t66 [a,b,c] p s:=by kernel_rfl
theorem run66_4 (a b c d:Tup evK) (p:List (Tup paK)) (s:Int):bodyK ((cfg w0).at cs66) 60 (fnOf Tryz.f66) [.vec evK [a,b,c,d],.vec paK p,I s] = t66 [a,b,c,d] p s:=by kernel_rfl
theorem run66_x (l:List (Tup evK)) (p:List (Tup paK)) (s:Int):bodyK ((cfg w0).at [c128,cBad]) 60 (fnOf Tryz.f66) [.vec evK l,.vec paK p,I s] = bif allZ l p s != 0 then some (.tup [.val (.slice none 0 0),I (allZ l p s)]) else none:=by kernel_rfl
theorem few_run {α:Type} {f:List (Tup evK)→α} {g:List (Tup evK)→α} (h0:f [] = g []) (h1:∀ a,f [a] = g [a]) (h2:∀ a b,f [a,b] = g [a,b]) (h3:∀ a b c,f [a,b,c] = g [a,b,c]) (h4:∀ a b c d,f [a,b,c,d] = g [a,b,c,d]) :
  ∀ l,few l = true→f l = g l
 | [],_=>h0
 | [a],_=>h1 a
 | [a,b],_=>h2 a b
 | [a,b,c],_=>h3 a b c
 | [a,b,c,d],_=>h4 a b c d
theorem run66 (l:List (Tup evK)) (p:List (Tup paK)) (s:Int) (hl:few l = true):bodyK ((cfg w0).at cs66) 60 (fnOf Tryz.f66) [.vec evK l,.vec paK p,I s] = t66 l p s:=
 few_run (f:=fun l=>bodyK ((cfg w0).at cs66) 60 (fnOf Tryz.f66) [.vec evK l,.vec paK p,I s]) (g:=fun l=>t66 l p s) (run66_0 p s) (fun a=>run66_1 a p s) (fun a b=>run66_2 a b p s) (fun a b c=>run66_3 a b c p s) (fun a b c d=>run66_4 a b c d p s) l hl
def unkL:List (List (Tup intK))→Int→List Int
 | [],_=>[]
 | r :: rs,i=>bif r.any isV then unkL rs (i + 1) else i :: unkL rs (i + 1)
theorem tU_eq:∀ (rs:List (List (Tup intK))) (i:Int) (acc:List Int),(∀ r ∈ rs,sm r = true)→tU rs i acc = some (.tup [idxD (acc++unkL rs i),I 0])
 | [],i,acc,_=>by unfold tU unkL;rw [List.append_nil]
 | r :: rs,i,acc,h=>by
   unfold tU unkL
   rw [h r (by simp),anyV_eq,tU_eq rs (i + 1) _ fun x hx=>h x (List.mem_cons_of_mem _ hx),tU_eq rs (i + 1) _ fun x hx=>h x (List.mem_cons_of_mem _ hx)]
   cases r.any isV <;> simp
theorem ofRows_ints:∀ (l:List Int),ofRows intK l.length (l.map iv) = some (l.map t1)
 | []=>rfl
 | x :: xs=>by
   have ih:=ofRows_ints xs
   rw [List.length_cons,List.map_cons,ofRows,show (iv x :: xs.map iv).take intK.length = [iv x] from rfl,show (iv x :: xs.map iv).drop intK.length = xs.map iv from rfl,ih]
   rfl
theorem FnD.idx {g:FuncId} {ds:List D} {l:List Int} {e:Int} (h:FnD (cfg w0) g ds (.tup [idxD l,I e])):FnD (cfg w0) g ds (.tup [.vec intK (l.map t1),I e]):=by
 cases l with
 | nil=>exact FnD.nil_vec (ks:=intK) (vs:=[iv e]) rfl (by decide) h
 | cons x xs=>
   have h:FnD (cfg w0) g ds (.tup (.sl (x :: xs).length intK.length (((x :: xs).map iv).map .val) :: [iv e].map .val)):=by
    rw [List.map_map]
    exact h
   exact FnD.sl_tup (ks:=intK) rfl (by decide) (by simp) (by simp) (ofRows_ints (x :: xs)) rfl h
abbrev LI:=List (Tup intK) × Int
def unk (l:List (Tup evK)) (p:List (Tup paK)) (s:Int):LI:=bif allZ l p s != 0 then ([],allZ l p s) else ((unkL (l.map fun e=>vaL e p s) 0).map t1,0)
def liD (x:LI):D:=.tup [.vec intK x.1,I x.2]
theorem allZ_ok {l:List (Tup evK)} {p:List (Tup paK)} {s:Int} (h:(allZ l p s != 0) = false):chkEv l = 0∧chkPa p = 0∧withinZ s 0 300 = 0:=by
 have h:allZ l p s = 0:=by simpa using h
 unfold allZ at h
 unfold firstZ firstZ firstZ firstZ at h
 cases h1:(chkEv l != 0) <;> cases h2:(chkPa p != 0) <;> cases h3:(withinZ s 0 300 != 0) <;> simp_all
theorem pa_len {p:List (Tup paK)} (h:chkPa p = 0):p.length ≤ 8:=by
 unfold chkPa at h
 cases hb:decide ((p.length:Int) > 8) with
 | true=>rw [hb] at h;cases h
 | false=>rw [decide_eq_false_iff_not] at hb;omega
theorem ev_len {l:List (Tup evK)} (h:chkEv l = 0):l.length ≤ 8:=by
 unfold chkEv at h
 cases hb:decide ((l.length:Int) > 8) with
 | true=>rw [hb] at h;cases h
 | false=>rw [decide_eq_false_iff_not] at hb;omega
theorem smP_of {p:List (Tup paK)} (h:chkPa p = 0):smP p = true:=(Nat.ble_eq ..).mpr (by have:=pa_len h;omega)
theorem sm_va {p:List (Tup paK)} (h:chkPa p = 0) (e:Tup evK) (s:Int):sm (vaL e p s) = true:=(Nat.ble_eq ..).mpr (by unfold vaL;rw [List.length_map];have:=pa_len h;omega)
theorem short_few {l:List (Tup evK)} {p:List (Tup paK)} {s:Int} (h:shortE l = true):few l = true ∨ (allZ l p s != 0) = true:=by
 unfold shortE at h
 simp only [Bool.or_eq_true,decide_eq_true_eq,beq_iff_eq] at h
 rcases h with h | h
 ·left
  match l,h with
  | [],_=>rfl
  | [_],_=>rfl
  | [_,_],_=>rfl
  | [_,_,_],_=>rfl
  | [_,_,_,_],_=>rfl
  | _ :: _ :: _ :: _ :: _ :: _,h=>simp only [List.length_cons] at h;omega
 ·right
  have:chkEv l = 5:=by
   unfold chkEv
   rw [decide_eq_true (by omega)];rfl
  unfold allZ
  rw [this]
  rfl
theorem fn66 (h0:Lib0 w0) (l:List (Tup evK)) (p:List (Tup paK)) (s:Int) (hl:shortE l = true):FnD (cfg w0) 66 [.vec evK l,.vec paK p,I s] (liD (unk l p s)):=by
 cases hz:(allZ l p s != 0) with
 | true=>
   have hu:unk l p s = ([],allZ l p s):=by unfold unk;rw [hz];rfl
   rw [hu]
   refine FnD.nil_vec (ks:=intK) (vs:=[iv (allZ l p s)]) rfl (by decide) ?_
   exact fnD_k (cfg_ok w0) h0 (cs:=[c128,cBad]) ⟨gd128 h0,gdBad,trivial⟩ (fd:=fnOf Tryz.f66) rfl ((run66_x l p s).trans (by rw [hz];rfl))
 | false=>
   have hu:unk l p s = ((unkL (l.map fun e=>vaL e p s) 0).map t1,0):=by unfold unk;rw [hz];rfl
   obtain ⟨he,hp,hs⟩:=allZ_ok hz
   rw [hu]
   refine FnD.idx ?_
   refine fnD_k (cfg_ok w0) h0 (cs:=cs66) ⟨gd128 h0,gd129 h0,gd130 h0,trivial⟩ (fd:=fnOf Tryz.f66) rfl ((run66 l p s ((short_few hl).resolve_right (by rw [hz];decide))).trans ?_)
   unfold t66
   rw [hz,smP_of hp,tU_eq _ _ _ fun r hr=>by obtain ⟨e,_,rfl⟩:=List.mem_map.1 hr;exact sm_va hp e s]
   rfl
def c66:Ct:=ct 66 [.v evK,.v paK,.c ik] fun a=>.br (shortE a.1) (.leaf (liD (unk a.1 a.2.1 a.2.2.1))) .bad
theorem gd66 (h0:Lib0 w0):Gd (cfg w0) c66:=gd_sig fun a d hd=>by
 obtain ⟨l,p,s,u⟩:=a
 obtain ⟨hg,hd⟩:=br_run hd
 cases hd
 exact fn66 h0 l p s hg
end
end Go.Proofs.YtifnpljmjhnbaaaGreatDoor
