/-
 A part of the proof of the statement that the claim names: see the last file.
-/
import Derived.Test.YtifnpljmjhnbaaaGreatDoorT8
import Derived.Test.YtifnpljmjhnbaaaGreatDoorAm6
namespace Go.Proofs.YtifnpljmjhnbaaaGreatDoor
open Go Go.Am
set_option maxRecDepth 100000
variable {w0:World}
noncomputable section
def lsI (k:Int):Int:=bif k == -1 then 8 else k
theorem run187 (k:Int):bodyK ((cfg w0).at []) 40 (fnOf Tryz.f187) [I k] = bif k == -1 then some (I 8) else some (I k):=by kernel_rfl
theorem run187' (k:Int):bodyK ((cfg w0).at []) 40 (fnOf Tryz.f187) [I k] = some (I (lsI k)):=by
 rw [run187]
 unfold lsI
 cases (k == -1) <;> rfl
def c187:Ct:=ct 187 [.c ik] fun a=>.leaf (I (lsI a.1))
theorem gd187 (h0:Lib0 w0):Gd (cfg w0) c187:=gd_k h0 (cs:=[]) trivial (fd:=fnOf Tryz.f187) rfl (n:=40) fun a d hd=>by
 obtain ⟨k,u⟩:=a
 cases hd
 exact run187' k
def lsE (x:Tup intK):Tup intK:=t1 (lsI (i1 x))
def rel190:List (Nat × Cv):=[(8,.id),(9,.id),(10,.id),(5,.ov intK),(1,.id)]
def st190 (l:TLi) (a:Int × TLi):List D:=[.vec intK l,I l.length,I a.1,.ovec intK a.2,.fn 187 [] []]
theorem round190 (l:TLi) (j:Int) (o:TLi):rndD ((cfg w0).at [c187]) 40 [] 40 (fnOf Tryz.f190).ntmps rel190 (lpB 0 (fnOf Tryz.f190).body) (st190 l (j,o)) =
  bif decide (j < l.length) then bif inO l j then
   bif (Nat.ble ((o++[lsE (nth l j.toNat)]).length * 8) 1000000000000 && Nat.ble (o++[lsE (nth l j.toNat)]).length 1000000000000) then some ([],.normal,st190 l (W (j + 1),o++[lsE (nth l j.toNat)])) else none
  else none else some ([],.exit 0,st190 l (j,o)):=by kernel_rfl
theorem body190 (l:TLi) (p:Int × TLi):bodyT ((cfg w0).at [c187]) 40 [ldP 0 (fnOf Tryz.f190).ntmps rel190 .normal (st190 l p)] 40 (fnOf Tryz.f190) [.vec intK l,.fn 187 [] []] =
  some ([(ldP 0 (fnOf Tryz.f190).ntmps rel190 .normal (st190 l p),.loop (lpB 0 (fnOf Tryz.f190).body),st190 l (0,[]))],.vec intK p.2):=by kernel_rfl
theorem fn190 (h0:Lib0 w0) (l:TLi) (hg:l.length ≤ 100000):FnD (cfg w0) 190 [.vec intK l,.fn 187 [] []] (.vec intK (l.map lsE)):=by
 refine fn_ls h0 (cs:=[c187]) ⟨gd187 h0,trivial⟩ (fd:=fnOf Tryz.f190) rfl rel190 l (by omega) (st190 l) (fun w a=>(X.normal,a++[lsE w])) (fun j a=>a.length = j) (a0:=[]) rfl
  (fun j a hj hi'=>.leaf (by
   have hi':a.length = j:=hi'
   rw [round190,inO_nat hj,lt_t hj,Int.toNat_natCast,room (by omega) (by omega)]
   rfl)) (fun j a a' _ hi h=>by cases h;simp [hi])
  (fun a _=>.leaf (by rw [round190,ge_f];rfl)) fun x p hx=>?_
 rw [lsRun_fold (h:=fun w b=>b++[lsE w]) 0 l 0 [] (fun _ _ _=>rfl),foldl_snoc lsE] at hx
 cases hx
 exact body190 l _
def c190:Ct:=ct 190 [.v intK,.x] fun a=>match isFn 187 a.2.1 with
 | true=>.br (sm a.1) (.leaf (.vec intK ((a.1:TLi).map lsE))) .bad
 | false=>.bad
theorem gd190 (h0:Lib0 w0):Gd (cfg w0) c190:=gd_sig fun a d hd=>by
 obtain ⟨l,f,u⟩:=a
 simp only at hd
 cases hb:isFn 187 f with
 | false=>rw [hb] at hd;cases hd
 | true=>
   rw [hb] at hd
   obtain ⟨hg,hd⟩:=br_run hd
   cases hd
   cases isFn_eq hb
   exact fn190 h0 l (sm_le hg)
def cmpL:TLi→TLi→Int
 | [],[]=>0
 | [],_ :: _=>-1
 | _ :: _,[]=>1
 | x :: a,y :: b=>bif cmpZ (i1 x) (i1 y) != 0 then cmpZ (i1 x) (i1 y) else cmpL a b
def rel189:List (Nat × Cv):=[(9,.id),(10,.id),(11,.id),(0,.id),(1,.id),(4,.id)]
def st189 (a b:TLi) (p:Int × Int):List D:=[.vec intK a,I a.length,I p.1,.vec intK a,.vec intK b,I p.2]
theorem round189 (a b:TLi) (j r:Int):rndD ((cfg w0).at [c101]) 40 [] 40 (fnOf Tryz.f189).ntmps rel189 (lpB 0 (fnOf Tryz.f189).body) (st189 a b (j,r)) =
  bif decide (j < a.length) then bif inO a j then
   bif decide (j ≥ b.length) then some ([],.ret,st189 a b (j,1)) else bif inO b j then
    bif cmpZ (i1 (nth a j.toNat)) (i1 (nth b j.toNat)) != 0 then some ([],.ret,st189 a b (j,cmpZ (i1 (nth a j.toNat)) (i1 (nth b j.toNat)))) else some ([],.normal,st189 a b (W (j + 1),r))
   else none
  else none else some ([],.exit 0,st189 a b (j,r)):=by kernel_rfl
theorem body189 (a b:TLi) (x:X) (p:Int × Int) (hx:x = .ret ∨ x = .normal):bodyT ((cfg w0).at [c101]) 40 [ldP 0 (fnOf Tryz.f189).ntmps rel189 x (st189 a b p)] 40 (fnOf Tryz.f189) [.vec intK a,.vec intK b] =
  match x with
  | .ret=>some ([(ldP 0 (fnOf Tryz.f189).ntmps rel189 x (st189 a b p),.loop (lpB 0 (fnOf Tryz.f189).body),st189 a b (0,0))],I p.2)
  | _=>bif decide ((a.length:Int) < b.length) then some ([(ldP 0 (fnOf Tryz.f189).ntmps rel189 x (st189 a b p),.loop (lpB 0 (fnOf Tryz.f189).body),st189 a b (0,0))],I (-1))
    else some ([(ldP 0 (fnOf Tryz.f189).ntmps rel189 x (st189 a b p),.loop (lpB 0 (fnOf Tryz.f189).body),st189 a b (0,0))],I 0):=by
 rcases hx with rfl | rfl <;> kernel_rfl
def step189 (a b:TLi) (j:Nat) (r:Int):X × Int:=
 bif decide ((j:Int) ≥ b.length) then (.ret,1) else bif cmpZ (i1 (nth a j)) (i1 (nth b j)) != 0 then (.ret,cmpZ (i1 (nth a j)) (i1 (nth b j))) else (.normal,r)
theorem drop_nth {l:TLi} {j:Nat} (h:j < l.length):l.drop j = nth l j :: l.drop (j + 1):=by
 rw [show nth l j = l[j] by simp [nth,h]]
 exact List.drop_eq_getElem_cons h
theorem go189 (a b:TLi):∀ (f j:Nat) (r:Int),j + f = a.length→∃ p,(rgRun 0 (step189 a b) f j r = (.ret,p)∧p.2 = cmpL (a.drop j) (b.drop j)) ∨ (rgRun 0 (step189 a b) f j r = (.exit 0,p)∧cmpL (a.drop j) (b.drop j) = bif decide ((a.length:Int) < b.length) then -1 else 0)
 | 0,j,r,h=>by
   refine ⟨((j:Int),r),.inr ⟨rfl,?_⟩⟩
   rw [List.drop_eq_nil_of_le (by omega)]
   by_cases hb:a.length < b.length
   ·rw [decide_eq_true (by omega),drop_nth (l:=b) (by omega)];rfl
   ·rw [decide_eq_false (by omega),List.drop_eq_nil_of_le (by omega)];rfl
 | f + 1,j,r,h=>by
   have ha:=drop_nth (l:=a) (j:=j) (by omega)
   by_cases hb:j < b.length
   ·have hbd:=drop_nth (l:=b) hb
    cases hc:(cmpZ (i1 (nth a j)) (i1 (nth b j)) != 0) with
    | true=>
      refine ⟨((j:Int),cmpZ (i1 (nth a j)) (i1 (nth b j))),.inl ⟨?_,?_⟩⟩
      ·unfold rgRun step189
       rw [decide_eq_false (by omega),hc];rfl
      ·rw [ha,hbd]
       unfold cmpL
       rw [hc];rfl
    | false=>
      have e:step189 a b j r = (.normal,r):=by unfold step189;rw [decide_eq_false (by omega),hc];rfl
      obtain ⟨p,hp⟩:=go189 a b f (j + 1) r (by omega)
      refine ⟨p,?_⟩
      unfold rgRun
      rw [e,ha,hbd]
      unfold cmpL
      rw [hc]
      exact hp
   ·refine ⟨((j:Int),1),.inl ⟨?_,?_⟩⟩
    ·unfold rgRun step189
     rw [decide_eq_true (by omega)];rfl
    ·rw [ha,@List.drop_eq_nil_of_le _ b _ (by omega)];rfl
theorem fn189 (h0:Lib0 w0) (a b:TLi) (hg:a.length ≤ 100000):FnD (cfg w0) 189 [.vec intK a,.vec intK b] (I (cmpL a b)):=by
 refine fn_rg h0 (cs:=[c101]) ⟨gd101 h0,trivial⟩ (fd:=fnOf Tryz.f189) rfl rel189 a.length (by omega) (st189 a b) (step189 a b) (fun _ _=>True) (a0:=0) trivial
  (fun j r hj _=>.leaf (by
   rw [round189,inO_nat hj,lt_t hj,Int.toNat_natCast]
   unfold step189
   by_cases hb:j < b.length
   ·rw [decide_eq_false (show ¬ ((j:Int) ≥ b.length) by omega),inO_nat hb]
    cases (cmpZ (i1 (nth a j)) (i1 (nth b j)) != 0) <;> rfl
   ·rw [decide_eq_true (show ((j:Int) ≥ b.length) by omega)];rfl)) (fun _ _ _ _ _ _=>trivial)
  (fun r _=>.leaf (by rw [round189,ge_f];rfl)) fun x p hx=>?_
 obtain ⟨q,⟨h1,h2⟩ | ⟨h1,h2⟩⟩:=go189 a b a.length 0 0 (by omega)
 ·rw [h1] at hx
  cases hx
  refine (body189 a b .ret _ (.inl rfl)).trans ?_
  simp only
  rw [h2];rfl
 ·rw [h1] at hx
  cases hx
  refine (body189 a b .normal _ (.inr rfl)).trans ?_
  rw [List.drop_zero,List.drop_zero] at h2
  rw [h2]
  simp only
  cases decide ((a.length:Int) < b.length) <;> rfl
def c189:Ct:=ct 189 [.v intK,.v intK] fun a=>.br (sm a.1) (.leaf (I (cmpL a.1 a.2.1))) .bad
theorem gd189 (h0:Lib0 w0):Gd (cfg w0) c189:=gd_sig fun a d hd=>by
 obtain ⟨x,y,u⟩:=a
 obtain ⟨hg,hd⟩:=br_run hd
 cases hd
 exact fn189 h0 x y (sm_le hg)
def vlD (v:Int) (l:TLi):D:=.agg [I v,.vec intK l]
def cs166:List Ct:=[c101,c190,c189]
def cmpV (v:Int) (l:TLi) (o:Int) (m:TLi):Int:=bif cmpZ o v != 0 then cmpZ o v else cmpL (l.map lsE) (m.map lsE)
theorem run166 (v:Int) (l:TLi) (o:Int) (m:TLi):bodyK ((cfg w0).at cs166) 60 (fnOf Tryz.f166) [vlD v l,vlD o m] =
  bif sm l then bif sm m then bif sm (l.map lsE) then bif cmpZ o v != 0 then some (I (cmpZ o v)) else bif cmpL (l.map lsE) (m.map lsE) != 0 then some (I (cmpL (l.map lsE) (m.map lsE))) else some (I 0) else none else none else none:=by kernel_rfl
def asVl (d:D):Option (Int × TLi):=match d with
 | .agg [.val (.int .i64 v),.vec ks l]=>match recast ks intK l with
   | some l=>some (v,l)
   | none=>none
 | _=>none
theorem asVl_eq {d:D} {p:Int × TLi} (h:asVl d = some p):d = vlD p.1 p.2:=by
 unfold asVl at h
 split at h
 ·split at h
  ·rename_i hr
   obtain ⟨e,e2⟩:=recast_eq hr
   subst e
   cases e2
   cases h
   rfl
  ·cases h
 ·cases h
def c166:Ct:=ct 166 [.x,.x] fun a=>match asVl a.1,asVl a.2.1 with
 | some p,some q=>.br (sm p.2) (.br (sm q.2) (.leaf (I (cmpV p.1 p.2 q.1 q.2))) .bad) .bad
 | _,_=>.bad
theorem gd166 (h0:Lib0 w0):Gd (cfg w0) c166:=gd_sig fun a d hd=>by
 obtain ⟨x,y,u⟩:=a
 simp only at hd
 cases hx:asVl x with
 | none=>rw [hx] at hd;cases hd
 | some p=>
   cases hy:asVl y with
   | none=>rw [hx,hy] at hd;cases hd
   | some q=>
     rw [hx,hy] at hd
     obtain ⟨h1,hd⟩:=br_run hd
     obtain ⟨h2,hd⟩:=br_run hd
     cases hd
     cases asVl_eq hx
     cases asVl_eq hy
     obtain ⟨v,l⟩:=p
     obtain ⟨o,m⟩:=q
     refine fnD_k (cfg_ok w0) h0 (cs:=cs166) ⟨gd101 h0,gd190 h0,gd189 h0,trivial⟩ (fd:=fnOf Tryz.f166) rfl (n:=60) ((run166 v l o m).trans ?_)
     have h3:sm (l.map lsE) = true:=by
      have:=sm_le h1
      exact (Nat.ble_eq ..).mpr (by rw [List.length_map];exact this)
     rw [h1,h2,h3]
     simp only [cond_true]
     unfold cmpV
     cases hc:(cmpZ o v != 0) with
     | true=>rfl
     | false=>
       simp only [cond_false]
       cases hd:(cmpL (l.map lsE) (m.map lsE) != 0) with
       | true=>rfl
       | false=>
         have:cmpL (l.map lsE) (m.map lsE) = 0:=by simpa using hd
         rw [this];rfl
end
end Go.Proofs.YtifnpljmjhnbaaaGreatDoor
namespace Go.Proofs.YtifnpljmjhnbaaaGreatDoor
open Go Go.Am
set_option maxRecDepth 100000
variable {w0:World}
noncomputable section
def aP (j:Nat):Value:=.pointer (some ⟨K0 + j,0,none⟩)
def sl1 (j m:Nat):Value:=.slice (some ⟨K0 + j,1,some 0⟩) m 1
def capsF (m:Nat):List Value:=[aP 2,aP (5 + m),aP (12 + m),aP (13 + m),aP (8 + m),aP (6 + m),aP (10 + m),aP (7 + m),aP (9 + m)]
def cloF (m:Nat):Value:=.func (.func 167) #[] (capsF m).toArray
def rowsC:Nat→Nat→List TLi→List Value
 | _,_,[]=>[]
 | j,n,_ :: rs=>sl1 j n :: rowsC (j + 1) n rs
def rowsO:List TLi→Heap
 | []=>[]
 | r :: rs=>.vec intK r true :: rowsO rs
def hsF (L:List (Tup evK)) (m n:Nat) (rows:List TLi) (best:List Value) (s2:Int) (fd sv:Bool) (M:TLi) (tail:Heap):Heap:=
 [.vec evK L false,.dead,.row [.slice (some ⟨K0,0,some 0⟩) m 6] true none,.dead]++(rowsO rows ++
  ([.row (rowsC 4 n rows) true none,.row [.slice (some ⟨K0 + (4 + m),0,none⟩) m 1] true none,.row best true none,.row [iv s2] true none,.row [.bool fd] true none,.row [.bool sv] true none,.row [fn0 166] true none,.vec intK M true,.row [sl1 (11 + m) m] true none,.row [cloF m] true none]++tail))
def bA:List Value:=[iv 0,.slice none 0 0]
def bB (m:Nat) (v:Int) (x:Nat):List Value:=[iv v,sl1 x m]
abbrev Us:=List Bool
def usV (u:Us):Value:=.agg (u.map Value.bool).toArray
def argF (m:Nat) (i sum:Int) (u:Us):List Value:=[iv i,iv sum,usV u]++capsF m
end
end Go.Proofs.YtifnpljmjhnbaaaGreatDoor
namespace Go.Proofs.YtifnpljmjhnbaaaGreatDoor
open Go Go.Am
set_option maxRecDepth 100000
variable {w0:World}
noncomputable section
def rm8 (l:TLi):Bool:=Nat.ble (l.length * 8) 1000000000000 && Nat.ble l.length 1000000000000
theorem run168 (x:Tup intK) (l:TLi):bodyK ((cfg w0).at []) 40 (fnOf Tryz.f168) [.vec intK (x :: l)] = bif rm8 ([]++(x :: l)) then some (.vec intK ([]++(x :: l))) else none:=by kernel_rfl
def c168:Ct:=ct 168 [.v intK] fun a=>.br (Nat.blt 0 (a.1:TLi).length) (.br (sm a.1) (.leaf (.vec intK a.1)) .bad) .bad
theorem gd168 (h0:Lib0 w0):Gd (cfg w0) c168:=gd_sig fun a d hd=>by
 obtain ⟨l,u⟩:=a
 obtain ⟨h1,hd⟩:=br_run hd
 obtain ⟨h2,hd⟩:=br_run hd
 cases hd
 cases l with
 | nil=>cases h1
 | cons x l=>
   refine fnD_k (cfg_ok w0) h0 (cs:=[]) trivial (fd:=fnOf Tryz.f168) rfl (n:=40) ((run168 x l).trans ?_)
   have hl:(x :: l).length ≤ 100000:=sm_le h2
   have:rm8 ([]++(x :: l)) = true:=by
    unfold rm8
    rw [List.nil_append,(Nat.ble_eq ..).mpr (show (x :: l).length * 8 ≤ 1000000000000 by omega),(Nat.ble_eq ..).mpr (show (x :: l).length ≤ 1000000000000 by omega)];rfl
   rw [this];rfl
end
end Go.Proofs.YtifnpljmjhnbaaaGreatDoor
namespace Go.Proofs.YtifnpljmjhnbaaaGreatDoor
open Go Go.Am
set_option maxRecDepth 100000
variable {w0:World}
noncomputable section
def vecOf (ks:List Kd):AObj→List (Tup ks)
 | .vec ks' l _=>match recast ks' ks l with
   | some l=>l
   | none=>[]
 | _=>[]
def isVec (ks:List Kd) (own:Bool):AObj→Bool
 | .vec ks' l o=>match recast ks' ks l with
   | some _=>bif own then o else !o
   | none=>false
 | _=>false
def eqO:Option Nat→Option Nat→Bool
 | none,none=>true
 | some a,some b=>Nat.beq a b
 | _,_=>false
def eqAd:Addr→Addr→Bool
 | ⟨a,b,c⟩,⟨a',b',c'⟩=>Nat.beq a a' && (Nat.beq b b' && eqO c c')
def eqP:Value→Value→Bool
 | .pointer (some a),.pointer (some b)=>eqAd a b
 | .slice (some a) n c,.slice (some b) n' c'=>eqAd a b && (Nat.beq n n' && Nat.beq c c')
 | _,_=>false
def eqPs:List Value→List Value→Bool
 | [],[]=>true
 | a :: xs,b :: ys=>eqP a b && eqPs xs ys
 | _,_=>false
def eqF:Value→Value→Bool
 | .func (.func f) xs ys,.func (.func g) xs' ys'=>Nat.beq f g && (eqPs xs.toList xs'.toList && eqPs ys.toList ys'.toList)
 | a,b=>eqP a b
def eqFs:List Value→List Value→Bool
 | [],[]=>true
 | a :: xs,b :: ys=>eqF a b && eqFs xs ys
 | _,_=>false
def isRow' (cs:List Value):AObj→Bool
 | .row cells true none=>eqFs cells cs
 | _=>false
def intOf:AObj→Int
 | .row [.int .i64 n] true none=>n
 | _=>0
def isInt:AObj→Bool
 | .row [.int .i64 _] true none=>true
 | _=>false
def boolOf:AObj→Bool
 | .row [.bool b] true none=>b
 | _=>false
def isBoo:AObj→Bool
 | .row [.bool _] true none=>true
 | _=>false
def isBA:AObj→Bool
 | .row [.int .i64 n,.slice none 0 0] true none=>decide (n = 0)
 | _=>false
def isBB (m:Nat):AObj→Bool
 | .row [.int .i64 _,.slice (some ⟨_,1,some 0⟩) n 1] true none=>Nat.beq n m
 | _=>false
def bbV:AObj→Int
 | .row [.int .i64 v,_] true none=>v
 | _=>0
def bbX:AObj→Nat
 | .row [_,.slice (some ⟨x,_,_⟩) _ _] true none=>x
 | _=>0
def boV:Value→Bool
 | .bool b=>b
 | _=>false
def isBoV:Value→Bool
 | .bool _=>true
 | _=>false
abbrev S5:=TLi × Int × TLi × Int × Bool
def rowsR (h:Heap):Nat→Nat→List TLi
 | 0,_=>[]
 | m + 1,j=>vecOf intK (h.at (K0 + j)) :: rowsR h m (j + 1)
def rowsOk (n:Nat) (h:Heap):Nat→Nat→Bool
 | 0,_=>true
 | m + 1,j=>isVec intK true (h.at (K0 + j)) && (Nat.beq (vecOf intK (h.at (K0 + j))).length n && rowsOk n h m (j + 1))
def rowsC' (n:Nat):Nat→Nat→List Value
 | 0,_=>[]
 | m + 1,j=>sl1 j n :: rowsC' n m (j + 1)
def shF (m n:Nat) (h:Heap):Bool:=
 isVec evK false (h.at K0) && (isRow' [.slice (some ⟨K0,0,some 0⟩) m 6] (h.at (K0 + 2)) && (rowsOk n h m 4 && (isRow' (rowsC' n m 4) (h.at (K0 + (4 + m))) && (isRow' [.slice (some ⟨K0 + (4 + m),0,none⟩) m 1] (h.at (K0 + (5 + m))) &&
  (isInt (h.at (K0 + (7 + m))) && (isBoo (h.at (K0 + (8 + m))) && (isBoo (h.at (K0 + (9 + m))) && (isRow' [fn0 166] (h.at (K0 + (10 + m))) && (isVec intK true (h.at (K0 + (11 + m))) && (isRow' [sl1 (11 + m) m] (h.at (K0 + (12 + m))) && isRow' [cloF m] (h.at (K0 + (13 + m)))))))))))))
def outF (m:Nat) (h:Heap) (s:S5):Heap:=
 (((((h.put (K0 + (11 + m)) (.vec intK s.1 true)).put (K0 + (6 + m)) (.row [iv s.2.1,.slice (some ⟨K0 + h.length,1,some 0⟩) m 1] true none)).put (K0 + (7 + m)) (.row [iv s.2.2.2.1] true none)).put (K0 + (8 + m)) (.row [.bool true] true none)).put (K0 + (9 + m)) (.row [.bool s.2.2.2.2] true none))++[.vec intK s.2.2.1 true]
def frF (m n:Nat) (i:Int) (GA:List TLi→Int→Us→TLi→Int→Bool→S5) (GB:List TLi→Int→Us→S5→S5):List Value→Heap→FT (Value × Heap):=fun argv h=>
 match argv with
 | .int .i64 j :: .int .i64 sum :: .agg us :: caps=>
   .br (decide (j = i) && (eqPs caps (capsF m) && (us.toList.all isBoV && (Nat.beq us.toList.length 8 && shF m n h)))) (.br (Nat.beq (vecOf intK (h.at (K0 + (11 + m)))).length m)
    (.br (isBA (h.at (K0 + (6 + m))) && !boolOf (h.at (K0 + (8 + m)))) (.leaf (.tuple #[],outF m h (GA (rowsR h m 4) sum (us.toList.map boV) (vecOf intK (h.at (K0 + (11 + m)))) (intOf (h.at (K0 + (7 + m)))) (boolOf (h.at (K0 + (9 + m)))))))
     (.br (isBB m (h.at (K0 + (6 + m))) && (boolOf (h.at (K0 + (8 + m))) && (Nat.ble (K0 + (14 + m)) (bbX (h.at (K0 + (6 + m)))) && isVec intK true (h.at (bbX (h.at (K0 + (6 + m)))))))) (.br (Nat.beq (vecOf intK (h.at (bbX (h.at (K0 + (6 + m)))))).length m)
      (.leaf (.tuple #[],outF m (h.put (bbX (h.at (K0 + (6 + m)))) .dead) (GB (rowsR h m 4) sum (us.toList.map boV) (vecOf intK (h.at (K0 + (11 + m))),bbV (h.at (K0 + (6 + m))),vecOf intK (h.at (bbX (h.at (K0 + (6 + m))))),intOf (h.at (K0 + (7 + m))),boolOf (h.at (K0 + (9 + m))))))) .bad) .bad)) .bad) .bad
 | _=>.bad
end
end Go.Proofs.YtifnpljmjhnbaaaGreatDoor
