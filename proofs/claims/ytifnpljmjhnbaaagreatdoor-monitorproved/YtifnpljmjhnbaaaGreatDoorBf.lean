/-
 A part of the proof of the statement that the claim names: see the last file.
-/
import Derived.Test.YtifnpljmjhnbaaaGreatDoorB8
import Derived.Test.YtifnpljmjhnbaaaGreatDoorB9
import Derived.Test.YtifnpljmjhnbaaaGreatDoorBa
import Derived.Test.YtifnpljmjhnbaaaGreatDoorBc
import Derived.Test.YtifnpljmjhnbaaaGreatDoorBe
import Derived.Test.YtifnpljmjhnbaaaGreatDoorB5
import Derived.Test.YtifnpljmjhnbaaaGreatDoorT6
import Derived.Test.YtifnpljmjhnbaaaGreatDoorT1
namespace Go.Proofs.YtifnpljmjhnbaaaGreatDoor
open Go Go.Am
set_option maxRecDepth 100000
variable {w0:World}
noncomputable section
theorem fn133_of (h0:Lib0 w0) {m n:Nat} {l:List (Tup evK)} {p:List (Tup paK)} {s:Int} (h:GdH (cfg w0) (167,frF m n 0 (sA m 0) (sB m 0))) {d:D}
  (hr:∀ (GA:GAf) (GB:GBf),bodyK (((cfg w0).onH [(167,frF m n 0 GA GB)]).at [c129]) 60 (fnOf Tryz.f133) [.vec evK l,.vec paK p,I s] = some (rkD (GA (l.map fun e=>vaL e p s) 0 no8 (List.replicate m (t1 0)) 0 false)))
  (hd:d = rkD (sA m 0 (l.map fun e=>vaL e p s) 0 no8 (List.replicate m (t1 0)) 0 false)):FnD (cfg w0) 133 [.vec evK l,.vec paK p,I s] d:=by
 subst hd
 exact fnD_k (C:=(cfg w0).onH [(167,frF m n 0 (sA m 0) (sB m 0))]) (Cfg.onH_ok (cfg_ok w0) _) (specs_onH h0 (hs:=[(167,frF m n 0 (sA m 0) (sB m 0))]) ⟨h,trivial⟩) (cs:=[c129]) (Gds.onH (C:=cfg w0) ⟨gd129 h0,trivial⟩) (fd:=fnOf Tryz.f133) rfl (hr _ _)
def rk0D:D:=.tup [.agg [I 0,.sl 0 1 []],I 0,Bo false]
theorem run133_0 (p:List (Tup paK)) (s:Int):bodyK (((cfg w0).onI [167,168]).on [c129,c166]) 60 (fnOf Tryz.f133) [.vec evK [],.vec paK p,I s] = bif smP p then some rk0D else none:=by kernel_rfl
theorem fn133_0 (h0:Lib0 w0) (p:List (Tup paK)) (s:Int) (hp:smP p = true):FnD (cfg w0) 133 [.vec evK [],.vec paK p,I s] rk0D:=by
 have h:=run133_0 (w0:=w0) p s
 rw [hp,bodyK_eq] at h
 have ok:CfgOk (((cfg w0).onI [167,168]).on [c129,c166]):=Cfg.on_ok (Cfg.onI_ok (cfg_ok w0) _) _
 exact bodyD_sound (C:=((cfg w0).onI [167,168]).on [c129,c166]) ok (ev_sound ok (specs_on (C:=(cfg w0).onI [167,168]) (specs_onI h0 _) (cs:=[c129,c166]) ⟨gd129 h0,gd166 h0,trivial⟩) 60) (fd:=fnOf Tryz.f133) rfl h
theorem fn133_10 (h0:Lib0 w0) (e:Tup evK) (s:Int):FnD (cfg w0) 133 [.vec evK [e],.vec paK [],I s] (rkD (fin133 [e] [] s)):=fn133_of (m:=1) (n:=0) h0 (fr1_00 h0) (fun GA GB=>rk10 GA GB e s) rfl
theorem fn133_11 (h0:Lib0 w0) (e:Tup evK) (p:Tup paK) (s:Int):FnD (cfg w0) 133 [.vec evK [e],.vec paK [p],I s] (rkD (fin133 [e] [p] s)):=fn133_of (m:=1) (n:=1) h0 (fr1_10 h0) (fun GA GB=>rk11 GA GB e p s) rfl
theorem fn133_12 (h0:Lib0 w0) (e:Tup evK) (p q:Tup paK) (s:Int):FnD (cfg w0) 133 [.vec evK [e],.vec paK [p,q],I s] (rkD (fin133 [e] [p,q] s)):=fn133_of (m:=1) (n:=2) h0 (fr1_20 h0) (fun GA GB=>rk12 GA GB e p q s) rfl
theorem fn133_13 (h0:Lib0 w0) (e:Tup evK) (p q r:Tup paK) (s:Int):FnD (cfg w0) 133 [.vec evK [e],.vec paK [p,q,r],I s] (rkD (fin133 [e] [p,q,r] s)):=fn133_of (m:=1) (n:=3) h0 (fr1_30 h0) (fun GA GB=>rk13 GA GB e p q r s) rfl
theorem fn133_14 (h0:Lib0 w0) (e:Tup evK) (p q r t:Tup paK) (s:Int):FnD (cfg w0) 133 [.vec evK [e],.vec paK [p,q,r,t],I s] (rkD (fin133 [e] [p,q,r,t] s)):=fn133_of (m:=1) (n:=4) h0 (fr1_40 h0) (fun GA GB=>rk14 GA GB e p q r t s) rfl
theorem fn133_20 (h0:Lib0 w0) (e f:Tup evK) (s:Int):FnD (cfg w0) 133 [.vec evK [e,f],.vec paK [],I s] (rkD (fin133 [e,f] [] s)):=fn133_of (m:=2) (n:=0) h0 (fr2_00 h0) (fun GA GB=>rk20 GA GB e f s) rfl
theorem fn133_21 (h0:Lib0 w0) (e f:Tup evK) (p:Tup paK) (s:Int):FnD (cfg w0) 133 [.vec evK [e,f],.vec paK [p],I s] (rkD (fin133 [e,f] [p] s)):=fn133_of (m:=2) (n:=1) h0 (fr2_10 h0) (fun GA GB=>rk21 GA GB e f p s) rfl
theorem fn133_22 (h0:Lib0 w0) (e f:Tup evK) (p q:Tup paK) (s:Int):FnD (cfg w0) 133 [.vec evK [e,f],.vec paK [p,q],I s] (rkD (fin133 [e,f] [p,q] s)):=fn133_of (m:=2) (n:=2) h0 (fr2_20 h0) (fun GA GB=>rk22 GA GB e f p q s) rfl
theorem fn133_23 (h0:Lib0 w0) (e f:Tup evK) (p q r:Tup paK) (s:Int):FnD (cfg w0) 133 [.vec evK [e,f],.vec paK [p,q,r],I s] (rkD (fin133 [e,f] [p,q,r] s)):=fn133_of (m:=2) (n:=3) h0 (fr2_30 h0) (fun GA GB=>rk23 GA GB e f p q r s) rfl
theorem fn133_24 (h0:Lib0 w0) (e f:Tup evK) (p q r t:Tup paK) (s:Int):FnD (cfg w0) 133 [.vec evK [e,f],.vec paK [p,q,r,t],I s] (rkD (fin133 [e,f] [p,q,r,t] s)):=fn133_of (m:=2) (n:=4) h0 (fr2_40 h0) (fun GA GB=>rk24 GA GB e f p q r t s) rfl
theorem fn133_30 (h0:Lib0 w0) (e f g:Tup evK) (s:Int):FnD (cfg w0) 133 [.vec evK [e,f,g],.vec paK [],I s] (rkD (fin133 [e,f,g] [] s)):=fn133_of (m:=3) (n:=0) h0 (fr3_00 h0) (fun GA GB=>rk30 GA GB e f g s) rfl
theorem fn133_31 (h0:Lib0 w0) (e f g:Tup evK) (p:Tup paK) (s:Int):FnD (cfg w0) 133 [.vec evK [e,f,g],.vec paK [p],I s] (rkD (fin133 [e,f,g] [p] s)):=fn133_of (m:=3) (n:=1) h0 (fr3_10 h0) (fun GA GB=>rk31 GA GB e f g p s) rfl
theorem fn133_32 (h0:Lib0 w0) (e f g:Tup evK) (p q:Tup paK) (s:Int):FnD (cfg w0) 133 [.vec evK [e,f,g],.vec paK [p,q],I s] (rkD (fin133 [e,f,g] [p,q] s)):=fn133_of (m:=3) (n:=2) h0 (fr3_20 h0) (fun GA GB=>rk32 GA GB e f g p q s) rfl
theorem fn133_33 (h0:Lib0 w0) (e f g:Tup evK) (p q r:Tup paK) (s:Int):FnD (cfg w0) 133 [.vec evK [e,f,g],.vec paK [p,q,r],I s] (rkD (fin133 [e,f,g] [p,q,r] s)):=fn133_of (m:=3) (n:=3) h0 (fr3_30 h0) (fun GA GB=>rk33 GA GB e f g p q r s) rfl
theorem fn133_34 (h0:Lib0 w0) (e f g:Tup evK) (p q r t:Tup paK) (s:Int):FnD (cfg w0) 133 [.vec evK [e,f,g],.vec paK [p,q,r,t],I s] (rkD (fin133 [e,f,g] [p,q,r,t] s)):=fn133_of (m:=3) (n:=4) h0 (fr3_40 h0) (fun GA GB=>rk34 GA GB e f g p q r t s) rfl
theorem fn133_40 (h0:Lib0 w0) (e f g h:Tup evK) (s:Int):FnD (cfg w0) 133 [.vec evK [e,f,g,h],.vec paK [],I s] (rkD (fin133 [e,f,g,h] [] s)):=fn133_of (m:=4) (n:=0) h0 (fr4_00 h0) (fun GA GB=>rk40 GA GB e f g h s) rfl
theorem fn133_41 (h0:Lib0 w0) (e f g h:Tup evK) (p:Tup paK) (s:Int):FnD (cfg w0) 133 [.vec evK [e,f,g,h],.vec paK [p],I s] (rkD (fin133 [e,f,g,h] [p] s)):=fn133_of (m:=4) (n:=1) h0 (fr4_10 h0) (fun GA GB=>rk41 GA GB e f g h p s) rfl
theorem fn133_42 (h0:Lib0 w0) (e f g h:Tup evK) (p q:Tup paK) (s:Int):FnD (cfg w0) 133 [.vec evK [e,f,g,h],.vec paK [p,q],I s] (rkD (fin133 [e,f,g,h] [p,q] s)):=fn133_of (m:=4) (n:=2) h0 (fr4_20 h0) (fun GA GB=>rk42 GA GB e f g h p q s) rfl
theorem fn133_43 (h0:Lib0 w0) (e f g h:Tup evK) (p q r:Tup paK) (s:Int):FnD (cfg w0) 133 [.vec evK [e,f,g,h],.vec paK [p,q,r],I s] (rkD (fin133 [e,f,g,h] [p,q,r] s)):=fn133_of (m:=4) (n:=3) h0 (fr4_30 h0) (fun GA GB=>rk43 GA GB e f g h p q r s) rfl
theorem fn133_44 (h0:Lib0 w0) (e f g h:Tup evK) (p q r t:Tup paK) (s:Int):FnD (cfg w0) 133 [.vec evK [e,f,g,h],.vec paK [p,q,r,t],I s] (rkD (fin133 [e,f,g,h] [p,q,r,t] s)):=fn133_of (m:=4) (n:=4) h0 (fr4_40 h0) (fun GA GB=>rk44 GA GB e f g h p q r t s) rfl
def c133:Ct:=ct 133 [.v evK,.v paK,.c ik] fun a=>.br (few a.1 && fewP a.2.1) (.br (Nat.beq a.1.length 0) (.leaf rk0D) (.leaf (rkD (fin133 a.1 a.2.1 a.2.2.1)))) .bad
theorem gd133 (h0:Lib0 w0):Gd (cfg w0) c133:=gd_sig fun a d hd=>by
 obtain ⟨l,p,s,u⟩:=a
 obtain ⟨hg,hd⟩:=br_run hd
 rw [Bool.and_eq_true] at hg
 obtain ⟨h1,h2⟩:=hg
 simp only at h1 h2
 match l,p,h1,h2 with
 | [],[],_,_=>cases hd;exact fn133_0 h0 _ s rfl
 | [],[p],_,_=>cases hd;exact fn133_0 h0 _ s rfl
 | [],[p,q],_,_=>cases hd;exact fn133_0 h0 _ s rfl
 | [],[p,q,r],_,_=>cases hd;exact fn133_0 h0 _ s rfl
 | [],[p,q,r,t],_,_=>cases hd;exact fn133_0 h0 _ s rfl
 | [e],[],_,_=>cases hd;exact fn133_10 h0 e s
 | [e],[p],_,_=>cases hd;exact fn133_11 h0 e p s
 | [e],[p,q],_,_=>cases hd;exact fn133_12 h0 e p q s
 | [e],[p,q,r],_,_=>cases hd;exact fn133_13 h0 e p q r s
 | [e],[p,q,r,t],_,_=>cases hd;exact fn133_14 h0 e p q r t s
 | [e,f],[],_,_=>cases hd;exact fn133_20 h0 e f s
 | [e,f],[p],_,_=>cases hd;exact fn133_21 h0 e f p s
 | [e,f],[p,q],_,_=>cases hd;exact fn133_22 h0 e f p q s
 | [e,f],[p,q,r],_,_=>cases hd;exact fn133_23 h0 e f p q r s
 | [e,f],[p,q,r,t],_,_=>cases hd;exact fn133_24 h0 e f p q r t s
 | [e,f,g],[],_,_=>cases hd;exact fn133_30 h0 e f g s
 | [e,f,g],[p],_,_=>cases hd;exact fn133_31 h0 e f g p s
 | [e,f,g],[p,q],_,_=>cases hd;exact fn133_32 h0 e f g p q s
 | [e,f,g],[p,q,r],_,_=>cases hd;exact fn133_33 h0 e f g p q r s
 | [e,f,g],[p,q,r,t],_,_=>cases hd;exact fn133_34 h0 e f g p q r t s
 | [e,f,g,h],[],_,_=>cases hd;exact fn133_40 h0 e f g h s
 | [e,f,g,h],[p],_,_=>cases hd;exact fn133_41 h0 e f g h p s
 | [e,f,g,h],[p,q],_,_=>cases hd;exact fn133_42 h0 e f g h p q s
 | [e,f,g,h],[p,q,r],_,_=>cases hd;exact fn133_43 h0 e f g h p q r s
 | [e,f,g,h],[p,q,r,t],_,_=>cases hd;exact fn133_44 h0 e f g h p q r t s
end
end Go.Proofs.YtifnpljmjhnbaaaGreatDoor
namespace Go.Proofs.YtifnpljmjhnbaaaGreatDoor
open Go Go.Am
set_option maxRecDepth 100000
variable {w0:World}
noncomputable section
def cs73:List Ct:=[c128,c133]
theorem run73 (l:List (Tup evK)) (p:List (Tup paK)) (s:Int):bodyK ((cfg w0).at cs73) 60 (fnOf Tryz.f73) [.vec evK l,.vec paK p,I s] =
  bif allZ l p s != 0 then some (.tup [.val (.slice none 0 0),I 0,I (allZ l p s)]) else bif few l && fewP p then bif Nat.beq l.length 0 then some (.tup [.sl 0 1 [],I 0,I 0])
   else some (.tup [.vec intK (fin133 l p s).2.2.1,I (fin133 l p s).2.1,I 0]) else none:=by kernel_rfl
theorem run74 (l:List (Tup evK)) (p:List (Tup paK)) (s:Int):bodyK ((cfg w0).at cs73) 60 (fnOf Tryz.f74) [.vec evK l,.vec paK p,I s] =
  bif allZ l p s != 0 then some (.tup [I 0,I (allZ l p s)]) else bif few l && fewP p then bif Nat.beq l.length 0 then some (.tup [I 0,I 7])
   else bif !(fin133 l p s).2.2.2.2 then some (.tup [I 0,I 7]) else some (.tup [I (fin133 l p s).2.2.2.1,I 0]) else none:=by kernel_rfl
def sec9 (l:List (Tup evK)) (p:List (Tup paK)) (s:Int):Int × Int:=bif allZ l p s != 0 then (0,allZ l p s) else bif !(fin133 l p s).2.2.2.2 then (0,7) else ((fin133 l p s).2.2.2.1,0)
def fewA (l:List (Tup evK)) (p:List (Tup paK)) (s:Int):Bool:=allZ l p s != 0 || (few l && fewP p)
def noE (l:List (Tup evK)) (p:List (Tup paK)) (s:Int):Bool:=allZ l p s == 0 && Nat.beq l.length 0
def bestD (x:TLi × Int × Int):D:=.tup [.vec intK x.1,I x.2.1,I x.2.2]
def c74:Ct:=ct 74 [.v evK,.v paK,.c ik] fun a=>.br (fewA a.1 a.2.1 a.2.2.1) (.leaf (tup2' (sec9 a.1 a.2.1 a.2.2.1))) .bad
theorem gd74 (h0:Lib0 w0):Gd (cfg w0) c74:=gd_sig fun a d hd=>by
 obtain ⟨l,p,s,u⟩:=a
 obtain ⟨hg,hd⟩:=br_run hd
 cases hd
 refine fnD_k (cfg_ok w0) h0 (cs:=cs73) ⟨gd128 h0,gd133 h0,trivial⟩ (fd:=fnOf Tryz.f74) rfl ((run74 l p s).trans ?_)
 simp only at hg
 unfold fewA at hg
 unfold sec9
 cases hz:(allZ l p s != 0) with
 | true=>rfl
 | false=>
   rw [hz,Bool.false_or] at hg
   rw [hg]
   cases hb:Nat.beq l.length 0 with
   | true=>
     rw [Nat.beq_eq] at hb
     have:l = []:=List.length_eq_zero_iff.1 hb
     subst this
     rfl
   | false=>cases (fin133 l p s).2.2.2.2 <;> rfl
end
end Go.Proofs.YtifnpljmjhnbaaaGreatDoor
