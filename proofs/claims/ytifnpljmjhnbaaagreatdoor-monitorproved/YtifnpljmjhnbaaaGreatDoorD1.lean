/-
 A part of the proof of the statement that the claim names: see the last file.
-/
import Derived.Test.YtifnpljmjhnbaaaGreatDoorB6
import Derived.Test.YtifnpljmjhnbaaaGreatDoorBf
import Derived.Test.YtifnpljmjhnbaaaGreatDoorBg
namespace Go.Proofs.YtifnpljmjhnbaaaGreatDoor
open Go Go.Am
set_option maxRecDepth 100000
variable {w0:World}
noncomputable section
def okV (l:List (Tup evK)) (p:List (Tup paK)) (s:Int):Bool:=allZ l p s == 0 && (Nat.blt 0 l.length && (few l && fewP p))
def c73v:Ct:=ct 73 [.v evK,.v paK,.c ik] fun a=>.br (okV a.1 a.2.1 a.2.2.1) (.leaf (bestD ((fin133 a.1 a.2.1 a.2.2.1).2.2.1,(fin133 a.1 a.2.1 a.2.2.1).2.1,0))) .bad
theorem gd73v (h0:Lib0 w0):Gd (cfg w0) c73v:=gd_sig fun a d hd=>by
 obtain ⟨l,p,s,u⟩:=a
 obtain ⟨hg,hd⟩:=br_run hd
 cases hd
 simp only at hg
 unfold okV at hg
 simp only [Bool.and_eq_true,Nat.blt_eq] at hg
 obtain ⟨h1,h2,h3⟩:=hg
 have hne:(allZ l p s != 0) = false:=by unfold bne;rw [h1];rfl
 have hb:Nat.beq l.length 0 = false:=by
  cases h:Nat.beq l.length 0 with
  | true=>rw [Nat.beq_eq] at h;omega
  | false=>rfl
 exact fnD_k (cfg_ok w0) h0 (cs:=cs73) ⟨gd128 h0,gd133 h0,trivial⟩ (fd:=fnOf Tryz.f73) rfl ((run73 l p s).trans (by rw [hne,h3.1,h3.2,hb];rfl))
def cs12:List Ct:=[c23,c53,c56,c60,c63,c26,c73v,c67,c66,c74,c78,c51,c68,c55]
abbrev Sm:=List (El ik × El (.bool))
def gx (x:Gv):D:=.obox [I x.s,.vec intK x.m,.vec intK x.a,.vec intK x.b]
abbrev N12:Nat:=(fnOf Tryz.f12).ntmps
def rel12a:List (Nat × Cv):=[(161,.id),(160,.id),(159,.sv intK),(7,.sv intK),(0,.id),(1,.id),(5,.id),(8,.id),(12,.id),(14,.id),(15,.id),(16,.id)]
def st12a (l:List (Tup evK)) (p:List (Tup paK)) (x:Gv) (B U:TLi) (v sec e4:Int) (a:Int × Sm):List D:=[I a.1,I B.length,.vec intK B,.vec intK B,.vec evK l,.vec paK p,gx x,I v,.ovec intK U,I sec,I e4,.omap ik .bool a.2]
abbrev Rd12:=Option (Obs × X × List D)
def rt12 (st:Int × Sm→List D) (j:Int) (m:Sm):Rd12:=some ([],.ret,st (j,m))
def inI (l:TLi) (j:Int):Bool:=Nat.beq 0 0 && (decide (0 ≤ j) && decide (j < l.length))
def rn12a (st:Int × Sm→List D) (p:List (Tup paK)) (U:TLi) (k:Int) (j:Int) (m:Sm):Rd12:=
 bif decide (k < -1) then rt12 st j m else bif decide (k ≥ p.length) then rt12 st j m else bif decide (k ≥ 0) then
  bif (getT (kk:=ik) (vk:=.bool) k m:Bool) then rt12 st j m else gX (sm U) (bif U.any (fun x=>i1 x == j) then rt12 st j m else some ([],.normal,st (W (j + 1),putM (kk:=ik) (vk:=.bool) k true m)))
 else some ([],.normal,st (W (j + 1),putM (kk:=ik) (vk:=.bool) k true m))
theorem round12a (l:List (Tup evK)) (p:List (Tup paK)) (x:Gv) (B U:TLi) (v sec e4:Int) (j:Int) (m:Sm):rndD ((cfg w0).at cs12) 40 [] 40 N12 rel12a (Am.lpB 0 (fnOf Tryz.f12).body) (st12a l p x B U v sec e4 (j,m)) =
  bif decide (j < B.length) then gX (inI B j) (rn12a (st12a l p x B U v sec e4) p U (i1 (nth B j.toNat)) j m) else some ([],.exit 0,st12a l p x B U v sec e4 (j,m)):=by kernel_rfl
def evO (e:Tup evK):D:=.obox [I e.1,I e.2.1,I e.2.2.1,I e.2.2.2.1,I e.2.2.2.2.1,I e.2.2.2.2.2.1]
def rel12c:List (Nat × Cv):=[(265,.id),(264,.id),(263,.id),(0,.id),(1,.id),(5,.id),(8,.id),(23,.id),(24,.id),(25,.id),(258,.id),(257,.id),(256,.id)]
def st12c (l:List (Tup evK)) (p:List (Tup paK)) (x:Gv) (v:Int) (i j:Int) (e:Tup evK) (a:Int × TLi):List D:=[I a.1,I p.length,.vec paK p,.vec evK l,.vec paK p,gx x,I v,.ovec intK a.2,I i,evO e,I j,I l.length,.vec evK l]
def rel12b:List (Nat × Cv):=[(258,.id),(257,.id),(256,.id),(0,.id),(1,.id),(5,.id),(8,.id),(23,.id)]
def st12b (l:List (Tup evK)) (p:List (Tup paK)) (x:Gv) (v:Int) (a:Int × TLi):List D:=[I a.1,I l.length,.vec evK l,.vec evK l,.vec paK p,gx x,I v,.ovec intK a.2]
abbrev ld12c (l:List (Tup evK)) (p:List (Tup paK)) (x:Gv) (v i j:Int) (e:Tup evK) (a:Int × TLi):Ld:=ldP 4 N12 rel12c .normal (st12c l p x v i j e a)
def up12 (st:Int × TLi→List D) (i k:Int) (g:TLi) (w:Int):Rd12:=gX (inI g i) (gX (inI g i) (some ([],.normal,st (W (k + 1),List.set g i.toNat (t1 (mxI w (i1 (nth g i.toNat))))))))
def rn12c (st:Int × TLi→List D) (i k:Int) (g:TLi) (w:Int × Int):Rd12:=
 bif w.2 != 0 then bif w.2 != 7 then some ([],.ret,st (k,g)) else bif decide (w.1 > 1000) then some ([],.ret,st (k,g)) else up12 st i k g w.1
 else bif decide (w.1 > 1000) then some ([],.ret,st (k,g)) else up12 st i k g w.1
theorem round12c (l:List (Tup evK)) (p:List (Tup paK)) (x:Gv) (v:Int) (i j:Int) (e:Tup evK) (k:Int) (g:TLi):rndD ((cfg w0).at cs12) 40 [] 40 N12 rel12c (Am.lpB 4 (fnOf Tryz.f12).body) (st12c l p x v i j e (k,g)) =
  bif decide (k < p.length) then gX (inP p k) (rn12c (st12c l p x v i j e) i k g (val55 e (nth p k.toNat) x.s)) else some ([],.exit 4,st12c l p x v i j e (k,g)):=by kernel_rfl
theorem round12b (l:List (Tup evK)) (p:List (Tup paK)) (x:Gv) (v:Int) (j:Int) (g:TLi) (a:Int × TLi):rndD ((cfg w0).at cs12) 40 [ld12c l p x v j j (nth l j.toNat) a] 40 N12 rel12b (Am.lpB 2 (fnOf Tryz.f12).body) (st12b l p x v (j,g)) =
  bif decide (j < l.length) then gX (inE l j) (some ([(ld12c l p x v j j (nth l j.toNat) a,.loop (Am.lpB 4 (fnOf Tryz.f12).body),st12c l p x v j j (nth l j.toNat) (0,g))],.normal,st12b l p x v (W (j + 1),a.2)))
  else some ([],.exit 2,st12b l p x v (j,g)):=by kernel_rfl
abbrev Ob:=Option (Obs × D)
def bN (b:Bool) (k:Ob):Ob:=bif b then k else none
def bF (o:Obs) (b:Bool) (k:Ob):Ob:=bif b then some (o,Bo false) else k
def e12 (l:List (Tup evK)) (p:List (Tup paK)) (s v:Int) (o:Obs):Ob:=
 bN (gE l) (bN (gP p) (bN (okV l p (IntKind.i64.wrap (s.tdiv 2))) (bif decide ((fin133 l p (IntKind.i64.wrap (s.tdiv 2))).2.1 ≤ v) then some (o,Bo true) else some (o,Bo false))))
def tlP (p:List (Tup paK)):List (Tup paK):=List.take ((p.length:Int).toNat - Int.toNat 1) (List.drop (0 + Int.toNat 1) p)
def d12 (l:List (Tup evK)) (p:List (Tup paK)) (s v:Int) (o:Obs):Ob:=
 bif decide ((p.length:Int) > 0) then bN (gE l) (bN (decide ((0:Int) ≤ 1) && (decide ((1:Int) ≤ p.length) && decide ((p.length:Int) ≤ p.length))) (bN (gP (tlP p)) (bN (okV l (tlP p) s) (bF o (decide ((fin133 l (tlP p) s).2.1 > v)) (bF o (decide (v > IntKind.i64.wrap ((fin133 l (tlP p) s).2.1 + 1000))) (e12 l p s v o))))))
 else e12 l p s v o
def mkG (n:Int):Bool:=decide (0 ≤ n) && (decide (n = n) && (decide (n ≤ 10000000) && (Nat.ble (n.toNat * 1) 10000000 && Nat.ble (n.toNat * 8) 1000000000000)))
def zr (n:Nat):TLi:=List.replicate (n:Int).toNat (t1 0)
abbrev ObE:=Ld × Code × List D
def c12 (l:List (Tup evK)) (p:List (Tup paK)) (s v:Int) (g:TLi) (o2 o1:Obs):Ob:=
 bN (mkG l.length) (bN (gE l) (bN (gP p) (bN (mkG p.length) (bN (shortE l) (bN (shortP p) (bN (sm g) (bN (sm (zr p.length)) (bF o2 ((bnd l p s g (zr p.length)).2 != 0) (bF o2 (decide ((bnd l p s g (zr p.length)).1 < v)) (d12 l p s v o2))))))))))
def b12 (l:List (Tup evK)) (p:List (Tup paK)) (x:Gv) (v:Int) (o1:Obs) (k:Ob):Ob:=
 bN (gE l) (bN (gP p) (bN (sm x.a) (bN (sm x.b) (bN (shortE l) (bN (shortP p) (bN (sm x.a) (bN (sm x.b) (bif (bnd l p x.s x.a x.b).2 == 0 then bF o1 (decide ((bnd l p x.s x.a x.b).1 < v)) k else k))))))))
def a12 (l:List (Tup evK)) (p:List (Tup paK)) (x:Gv) (B:TLi) (v sec e4:Int) (o1:Obs) (k:Ob):Ob:=
 bN (gE l) (bN (gP p) (bN (sm x.m) (bN (shortE l) (bif (mat l p x.s x.m).2 == 0 then bF o1 (decide ((mat l p x.s x.m).1 > v)) (bN (Nat.ble x.m.length 100000) (bif !(sameI x.m B) then bF o1 (e4 != 0) (bF o1 (decide ((mat l p x.s x.m).1 > sec)) k) else k)) else k))))
def h12 (l:List (Tup evK)) (p:List (Tup paK)) (s:Int) (B:TLi) (v:Int) (k:Ob):Ob:=
 bF [] ((mat l p s B).1 != v) (bF [] ((B.length:Int) != l.length) (bF [] (decide ((sec9 l p s).1 > v)) k))
def s12 (l:List (Tup evK)) (p:List (Tup paK)) (s:Int) (B:TLi) (v:Int) (k:Ob):Ob:=
 bN (gE l) (bN (gP p) (bN (okV l p s) (bN (gE l) (bN (gP p) (bN (sm B) (bN (shortE l) (bN (gE l) (bN (gP p) (bN (shortE l) (bN (gE l) (bN (gP p) (bN (fewA l p s)
  (bF [] ((mat l p s B).2 != 0) (bF [] ((unk l p s).2 != 0) (bif (sec9 l p s).2 != 0 then bF [] ((sec9 l p s).2 != 7) (h12 l p s B v k) else h12 l p s B v k)))))))))))))))
def oT (b:Bool) (k:Ob):Ob:=bif b then some ([],Bo true) else k
def g12 (l:List (Tup evK)) (p:List (Tup paK)) (x:Gv) (k:Ob):Ob:=
 oT (decide ((l.length:Int) > 4)) (oT (decide ((p.length:Int) > 4)) (bN (gW p) (oT (!shortP p) (oT (allZ l p x.s != 0) (oT (decide ((x.m.length:Int) > 9)) (oT (decide ((x.a.length:Int) > 9)) (oT (decide ((x.b.length:Int) > 9)) k)))))))
def lA (l:List (Tup evK)) (p:List (Tup paK)) (x:Gv) (B U:TLi) (v sec e4:Int) (a:Int × Sm):ObE:=(ldP 0 N12 rel12a .normal (st12a l p x B U v sec e4 a),.loop (Am.lpB 0 (fnOf Tryz.f12).body),st12a l p x B U v sec e4 (0,[]))
def lB (l:List (Tup evK)) (p:List (Tup paK)) (x:Gv) (v:Int) (b:Int × TLi):ObE:=(ldP 2 N12 rel12b .normal (st12b l p x v b),.loop (Am.lpB 2 (fnOf Tryz.f12).body),st12b l p x v (0,zr l.length))
abbrev bB9 (l:List (Tup evK)) (p:List (Tup paK)) (s:Int):TLi:=(fin133 l p s).2.2.1
abbrev vB9 (l:List (Tup evK)) (p:List (Tup paK)) (s:Int):Int:=(fin133 l p s).2.1
def law12 (l:List (Tup evK)) (p:List (Tup paK)) (x:Gv) (a:Int × Sm) (b:Int × TLi):Ob:=
 g12 l p x (s12 l p x.s (bB9 l p x.s) (vB9 l p x.s) (a12 l p x (bB9 l p x.s) (vB9 l p x.s) (sec9 l p x.s).1 (sec9 l p x.s).2 [lA l p x (bB9 l p x.s) (unk l p x.s).1 (vB9 l p x.s) (sec9 l p x.s).1 (sec9 l p x.s).2 a]
  (b12 l p x (vB9 l p x.s) [lA l p x (bB9 l p x.s) (unk l p x.s).1 (vB9 l p x.s) (sec9 l p x.s).1 (sec9 l p x.s).2 a]
   (c12 l p x.s (vB9 l p x.s) b.2 [lB l p x (vB9 l p x.s) b,lA l p x (bB9 l p x.s) (unk l p x.s).1 (vB9 l p x.s) (sec9 l p x.s).1 (sec9 l p x.s).2 a] []))))
theorem run12 (l:List (Tup evK)) (p:List (Tup paK)) (x:Gv) (a:Int × Sm) (b:Int × TLi):bodyT ((cfg w0).at cs12) 40 [ldP 0 N12 rel12a .normal (st12a l p x (bB9 l p x.s) (unk l p x.s).1 (vB9 l p x.s) (sec9 l p x.s).1 (sec9 l p x.s).2 a),ldP 2 N12 rel12b .normal (st12b l p x (vB9 l p x.s) b)] 40 (fnOf Tryz.f12) [.vec evK l,.vec paK p,gvD x] = law12 l p x a b:=by kernel_rfl
end
end Go.Proofs.YtifnpljmjhnbaaaGreatDoor
