/-
 A part of the proof of the statement that the claim names: see the last file.
-/
import Derived.Test.YtifnpljmjhnbaaaGreatDoorT4
import Derived.Test.YtifnpljmjhnbaaaGreatDoorAm5
namespace Go.Proofs.YtifnpljmjhnbaaaGreatDoor
open Go Go.Am
set_option maxRecDepth 100000
variable {w0:World}
noncomputable section
def exR (e:Tup evK) (q:Tup paK) (s:Int):Bool:=noB (whyR e q s)
theorem exR_eq {e:Tup evK} {q:Tup paK} (h1:okE e) (h2:okP q) (s:Int):exR e q s = expl e q s:=by
 unfold exR
 rw [show noB (whyR e q s) = !somB (whyR e q s) by rw [somB_eq,Bool.not_not]]
 unfold whyR
 rw [← dist_ok h1 h2,show whyL (decide (distP e q > s)) (engB e q) = whyP e q s from rfl,somB_why]
 rfl
theorem any_congr {α:Type} {f g:α→Bool}:∀ {l:List α},(∀ x ∈ l,f x = g x)→l.any f = l.any g
 | [],_=>rfl
 | x :: xs,h=>by rw [List.any_cons,List.any_cons,h x (by simp),any_congr fun y hy=>h y (List.mem_cons_of_mem _ hy)]
end
end Go.Proofs.YtifnpljmjhnbaaaGreatDoor
namespace Go.Proofs.YtifnpljmjhnbaaaGreatDoor
open Go Go.Am
set_option maxRecDepth 100000
variable {w0:World}
noncomputable section
def n1C (a:TLi):Int:=IntKind.i64.wrap (0 + (a.length:Int))
def n2C (a b:TLi):Int:=IntKind.i64.wrap (n1C a + (b.length:Int))
def n3C (a b:TLi):Int:=IntKind.i64.wrap (n2C a b - IntKind.i64.wrap (((0:Nat):Int) - ((0:Nat):Int)))
def zs (n:Int):TLi:=List.replicate n.toNat (t1 0)
def ct114 (a b:TLi):Option D:=
 bif decide (n1C a < 0) then none else bif decide (n2C a b < 0) then none else bif decide (n2C a b < 0) then none else
 bif decide (n3C a b > 0) then
  bif (decide (0 < n3C a b) && (decide (n3C a b ≤ 10000000) && Nat.ble ((n3C a b).toNat * 8) 1000000000000)) then
   bif Nat.ble (0 + Int.toNat 0 + (((0:Nat):Int).toNat - Int.toNat 0) + a.length) (zs (n3C a b)).length then
    bif Nat.ble (0 + Int.toNat 0 + (((0:Nat):Int).toNat - Int.toNat 0 + a.length) + b.length) (setAt (zs (n3C a b)) (0 + Int.toNat 0 + (((0:Nat):Int).toNat - Int.toNat 0)) a).length then
     some (.vec intK (List.take (((0:Nat):Int).toNat - Int.toNat 0 + a.length + b.length) (List.drop 0 (setAt (setAt (zs (n3C a b)) (0 + Int.toNat 0 + (((0:Nat):Int).toNat - Int.toNat 0)) a) (0 + Int.toNat 0 + (((0:Nat):Int).toNat - Int.toNat 0 + a.length)) b))))
    else none
   else none
  else none
 else bif (Nat.ble (a.length * 8) 1000000000000 && Nat.ble a.length 1000000000000) then
  bif (Nat.ble ((a++b).length * 8) 1000000000000 && Nat.ble (a++b).length 1000000000000) then some (.vec intK (a++b)) else none else none
def cfgG (w0:World):Cfg:=(cfg w0).onI [156]
theorem run114a (a b:TLi) (y:Tup intK):bodyK ((cfgG w0).at []) 60 (fnOf Tryz.f114) [.sl 2 1 [.vec intK a,.vec intK (y :: b)]] = ct114 a (y :: b):=by kernel_rfl
theorem run114b (a:TLi) (y:Tup intK):bodyK ((cfgG w0).at []) 60 (fnOf Tryz.f114) [.sl 2 1 [.vec intK (y :: a),.vec intK []]] = ct114 (y :: a) []:=by kernel_rfl
theorem run114c:bodyK ((cfgG w0).at []) 60 (fnOf Tryz.f114) [.sl 2 1 [.vec intK [],.vec intK []]] = some (.vec intK []):=by kernel_rfl
theorem ct114_eq {a b:TLi} (h0:0 < a.length + b.length) (h:a.length + b.length ≤ 100000):ct114 a b = some (.vec intK (a++b)):=by
 have e1:n1C a = ((a.length:Nat):Int):=by unfold n1C;rw [W_id (by omega) (by omega)];omega
 have e2:n2C a b = ((a.length + b.length:Nat):Int):=by unfold n2C;rw [e1,W_id (by omega) (by omega)];omega
 have e3:n3C a b = ((a.length + b.length:Nat):Int):=by
  unfold n3C
  rw [e2,W_id (n:=((0:Nat):Int) - ((0:Nat):Int)) (by omega) (by omega),W_id (by omega) (by omega)];omega
 have hz:(zs (((a.length + b.length:Nat):Int))).length = a.length + b.length:=by unfold zs;rw [List.length_replicate,Int.toNat_natCast]
 have hs:(setAt (zs (((a.length + b.length:Nat):Int))) 0 a).length = a.length + b.length:=by
  unfold setAt
  simp only [List.take_zero,List.nil_append,List.length_append,List.length_drop,hz]
  omega
 unfold ct114
 rw [e1,e2,e3,decide_eq_false (show ¬ ((a.length:Nat):Int) < 0 by omega),decide_eq_false (show ¬ ((a.length + b.length:Nat):Int) < 0 by omega),decide_eq_true (show ((a.length + b.length:Nat):Int) > 0 by omega),
  decide_eq_true (show ((a.length + b.length:Nat):Int) ≤ 10000000 by omega),Int.toNat_natCast,(Nat.ble_eq ..).mpr (show (a.length + b.length) * 8 ≤ 1000000000000 by omega)]
 simp only [Int.toNat_zero,Nat.zero_add,Nat.sub_self,Int.toNat_natCast,cond_false,cond_true,Bool.and_true,hz,hs,(Nat.ble_eq ..).mpr (show a.length ≤ a.length + b.length by omega),(Nat.ble_eq ..).mpr (Nat.le_refl (a.length + b.length)),List.drop_zero]
 congr 2
 unfold setAt
 simp only [List.take_zero,List.nil_append,Nat.zero_add,List.take_left]
 rw [← List.append_assoc,List.take_left' (by simp)]
def as2 (d:D):Option (TLi × TLi):=
 match d with
 | .sl 2 1 [.vec k1 a,.vec k2 b]=>match recast k1 intK a,recast k2 intK b with
   | some a,some b=>some (a,b)
   | _,_=>none
 | _=>none
theorem as2_eq {d:D} {p:TLi × TLi} (h:as2 d = some p):d = .sl 2 1 [.vec intK p.1,.vec intK p.2]:=by
 unfold as2 at h
 split at h
 ·split at h
  ·rename_i h1 h2
   cases h
   obtain ⟨e1,rfl⟩:=recast_eq h1
   obtain ⟨e2,rfl⟩:=recast_eq h2
   subst e1 e2
   rfl
  ·cases h
 ·cases h
def c114:Ct:=ct 114 [.x] fun a=>match as2 a.1 with
 | some p=>.br (Nat.ble (p.1.length + p.2.length) 100000) (.leaf (.vec intK (p.1++p.2))) .bad
 | none=>.bad
theorem fn114 (h0:Lib0 w0) (a b:TLi) (h:a.length + b.length ≤ 100000):FnD (cfg w0) 114 [.sl 2 1 [.vec intK a,.vec intK b]] (.vec intK (a++b)):=by
 have go:=fun {ds:List D} {d:D} (h:bodyK ((cfgG w0).at []) 60 (fnOf Tryz.f114) ds = some d)=>show FnD (cfg w0) 114 ds d from fnD_k (C:=cfgG w0) (Cfg.onI_ok (cfg_ok w0) [156]) (specs_onI h0 [156]) (cs:=[]) trivial (g:=114) (fd:=fnOf Tryz.f114) rfl h
 match b,a,h with
 | y :: b,a,h=>exact go ((run114a a b y).trans (ct114_eq (by simp only [List.length_cons];omega) h))
 | [],y :: a,h=>exact go ((run114b a y).trans (ct114_eq (by simp only [List.length_cons];omega) h))
 | [],[],_=>exact go run114c
theorem gd114 (h0:Lib0 w0):Gd (cfg w0) c114:=gd_sig fun a d hd=>by
 obtain ⟨x,u⟩:=a
 simp only at hd
 cases hb:as2 x with
 | none=>rw [hb] at hd;cases hd
 | some p=>
   rw [hb] at hd
   obtain ⟨hg,hd⟩:=br_run hd
   cases hd
   cases as2_eq hb
   exact fn114 h0 p.1 p.2 (Nat.le_of_ble_eq_true hg)
end
end Go.Proofs.YtifnpljmjhnbaaaGreatDoor
namespace Go.Proofs.YtifnpljmjhnbaaaGreatDoor
open Go Go.Am
set_option maxRecDepth 100000
variable {w0:World}
noncomputable section
def cs68:List Ct:=[c128,c129,whenC 104,firstC 84,c105,c114]
def z68 (l:List (Tup evK)) (p:List (Tup paK)) (s:Int) (a b:TLi):Int:=
 firstZ [allZ l p s,whenZ ((a.length:Int) != l.length) 2,whenZ ((b.length:Int) != p.length) 2,rgE a 0 1000,rgE b 0 1000]
def tBk (x:Tup intK):List (Tup intK × Tup intK)→Option D→Option D
 | [],k=>k
 | (v,y) :: r,k=>bif decide (i1 v > IntKind.i64.wrap (i1 x + i1 y)) then some (tup2' (0,19)) else tBk x r k
def tB:List (Tup intK × TLi)→TLi→Option D→Option D
 | [],_,d=>d
 | (x,row) :: rs,b,d=>tBk x (row.zip b) (tB rs b d)
def sumW (l:TLi):Int:=l.foldl (fun a x=>IntKind.i64.wrap (a + i1 x)) 0
def t68 (l:List (Tup evK)) (p:List (Tup paK)) (s:Int) (a b:TLi):Option D:=
 bif sm a then bif sm b then bif z68 l p s a b != 0 then some (tup2' (0,z68 l p s a b)) else
  bif smP p then tB (a.zip (l.map fun e=>vaL e p s)) b (some (tup2' (sumW (a++b),0))) else none else none else none
end
end Go.Proofs.YtifnpljmjhnbaaaGreatDoor
