/-
 A part of the proof of the statement that the claim names: see the last file.
-/
import Derived.Test.YtifnpljmjhnbaaaGreatDoorD3
namespace Go.Proofs.YtifnpljmjhnbaaaGreatDoor
open Go Go.Am
set_option maxRecDepth 100000
variable {w0:World}
noncomputable section
def isE0 (d:D):Bool:=match d with
 | .sl 0 1 []=>true
 | _=>false
theorem isE0_eq {d:D} (h:isE0 d = true):d = .sl 0 1 []:=by
 unfold isE0 at h
 split at h
 ·rfl
 ·cases h
def asV0 (d:D):Option TLi:=match d with
 | .vec ks l=>recast ks intK l
 | _=>none
theorem asV0_eq {d:D} {l:TLi} (h:asV0 d = some l):d = .vec intK l:=by
 unfold asV0 at h
 split at h
 ·obtain ⟨e,e2⟩:=recast_eq h
  subst e
  cases e2
  rfl
 ·cases h
theorem fnD_o (h0:Lib0 w0) {cs:List Ct} (hcs:Gds (cfg w0) cs) {g:FuncId} {fd:AFn} (hfd:(cfg w0).fn g = some fd) {ds:List D} {d:D} {n:Nat} (h:bodyK ((cfg w0).on cs) n fd ds = some d):FnD (cfg w0) g ds d:=by
 rw [bodyK_eq] at h
 have ok:CfgOk ((cfg w0).on cs):=Cfg.on_ok (cfg_ok w0) cs
 exact bodyD_sound (C:=(cfg w0).on cs) ok (ev_sound ok (specs_on h0 hcs) n) hfd h
theorem run26z:bodyK ((cfg w0).on []) 40 (fnOf Tryz.f26) [.sl 0 1 []] = some (.sl 0 1 []):=by kernel_rfl
def c26z:Ct:=ct 26 [.x] fun a=>match isE0 a.1 with
 | true=>.leaf (.sl 0 1 [])
 | false=>match asV0 a.1 with
   | some l=>.br (sm l) (.leaf (.vec intK l)) .bad
   | none=>.bad
theorem gd26z (h0:Lib0 w0):Gd (cfg w0) c26z:=gd_sig fun a d hd=>by
 obtain ⟨x,u⟩:=a
 simp only at hd
 cases hx:isE0 x with
 | true=>
   rw [hx] at hd
   cases hd
   cases isE0_eq hx
   exact fnD_o h0 (cs:=[]) trivial (fd:=fnOf Tryz.f26) rfl run26z
 | false=>
   rw [hx] at hd
   simp only at hd
   cases hl:asV0 x with
   | none=>rw [hl] at hd;cases hd
   | some l=>
     rw [hl] at hd
     cases asV0_eq hl
     exact gd26 h0 [.vec intK l] d hd
theorem run51a:bodyK ((cfg w0).on []) 40 (fnOf Tryz.f51) [.vec intK [],.sl 0 1 []] = some (Bo true):=by kernel_rfl
theorem run51b (y:Tup intK) (m:TLi):bodyK ((cfg w0).on []) 40 (fnOf Tryz.f51) [.vec intK (y :: m),.sl 0 1 []] = some (Bo false):=by kernel_rfl
def c51z:Ct:=ct 51 [.v intK,.x] fun a=>.br (isE0 a.2.1) (.leaf (Bo (Nat.beq (a.1:TLi).length 0))) .bad
theorem gd51z (h0:Lib0 w0):Gd (cfg w0) c51z:=gd_sig fun a d hd=>by
 obtain ⟨m,x,u⟩:=a
 obtain ⟨hg,hd⟩:=br_run hd
 cases hd
 cases isE0_eq hg
 cases m with
 | nil=>exact fnD_o h0 (cs:=[]) trivial (fd:=fnOf Tryz.f51) rfl run51a
 | cons y m=>exact fnD_o h0 (cs:=[]) trivial (fd:=fnOf Tryz.f51) rfl (run51b y m)
def fz7 (p:List (Tup paK)) (s:Int):Int:=firstZ [allZ [] p s,whenZ (((0:Nat):Int) != (([]:List (Tup evK)).length:Int)) 2]
theorem run67z (p:List (Tup paK)) (s:Int):bodyK ((cfg w0).on cs67) 60 (fnOf Tryz.f67) [.vec evK [],.vec paK p,I s,.sl 0 1 []] = bif fz7 p s != 0 then some (tup2' (0,fz7 p s)) else bif smP p then some (tup2' (0,0)) else none:=by kernel_rfl
def c67z:Ct:=ct 67 [.v evK,.v paK,.c ik,.x] fun a=>match isE0 a.2.2.2.1 with
 | true=>.br (noE a.1 a.2.1 a.2.2.1 && smP a.2.1) (.leaf (tup2' (0,0))) .bad
 | false=>match asV0 a.2.2.2.1 with
   | some m=>.br (shortE a.1) (.leaf (tup2' (mat a.1 a.2.1 a.2.2.1 m))) .bad
   | none=>.bad
theorem gd67z (h0:Lib0 w0):Gd (cfg w0) c67z:=gd_sig fun a d hd=>by
 obtain ⟨l,p,s,x,u⟩:=a
 simp only at hd
 cases hx:isE0 x with
 | true=>
   rw [hx] at hd
   obtain ⟨hg,hd⟩:=br_run hd
   cases hd
   cases isE0_eq hx
   rw [Bool.and_eq_true] at hg
   obtain ⟨hg,h3⟩:=hg
   unfold noE at hg
   rw [Bool.and_eq_true,Nat.beq_eq] at hg
   obtain ⟨h1,h2⟩:=hg
   have:l = []:=List.length_eq_zero_iff.1 h2
   subst this
   have hz:allZ [] p s = 0:=by simpa using h1
   refine fnD_o h0 (cs:=cs67) ⟨gd128 h0,gd129 h0,gd132 h0,gd104 h0,gd84 h0,trivial⟩ (fd:=fnOf Tryz.f67) rfl ((run67z p s).trans ?_)
   rw [show fz7 p s = 0 by unfold fz7;rw [hz];rfl,h3];rfl
 | false=>
   rw [hx] at hd
   simp only at hd
   cases hl:asV0 x with
   | none=>rw [hl] at hd;cases hd
   | some m=>
     rw [hl] at hd
     obtain ⟨hg,hd⟩:=br_run hd
     cases hd
     cases asV0_eq hl
     exact fn67 h0 l p s m hg
abbrev PL:=List (Tup paK)
def ifN {α:Type} (l:List (Tup evK)) (k:FT α):FT α:=match l with
 | []=>k
 | _ :: _=>.bad
def w56 (A:PL→Int→Int):Ct:=ct 56 [.v evK,.v paK,.c ik] fun a=>ifN a.1 (.leaf (I (A a.2.1 a.2.2.1)))
def w73 (N:PL→Int→Bool):Ct:=ct 73 [.v evK,.v paK,.c ik] fun a=>ifN a.1 (.br (N a.2.1 a.2.2.1) (.leaf (.tup [.sl 0 1 [],I 0,I 0])) .bad)
def w67 (N:PL→Int→Bool) (K:PL→Int→TLi→Bool) (e:Int):Ct:=ct 67 [.v evK,.v paK,.c ik,.x] fun a=>ifN a.1 (match isE0 a.2.2.2.1 with
 | true=>.br (N a.2.1 a.2.2.1) (.leaf (tup2' (0,0))) .bad
 | false=>match asV0 a.2.2.2.1 with
   | some m=>.br (K a.2.1 a.2.2.1 m) (.leaf (tup2' (0,e))) .bad
   | none=>.bad)
def w66 (U:PL→Int→LI):Ct:=ct 66 [.v evK,.v paK,.c ik] fun a=>ifN a.1 (.leaf (liD (U a.2.1 a.2.2.1)))
def w74 (N:PL→Int→Bool):Ct:=ct 74 [.v evK,.v paK,.c ik] fun a=>ifN a.1 (.br (N a.2.1 a.2.2.1) (.leaf (tup2' (0,7))) .bad)
def w68 (B:PL→Int→TLi→TLi→Int × Int):Ct:=ct 68 [.v evK,.v paK,.c ik,.x] fun a=>ifN a.1 (match asPr a.2.2.2.1 with
 | some q=>.br (shortP a.2.1) (.br (sm q.1) (.br (sm q.2) (.leaf (tup2' (B a.2.1 a.2.2.1 q.1 q.2))) .bad) .bad) .bad
 | none=>.bad)
def cs12w (A:PL→Int→Int) (N1 N2 N3:PL→Int→Bool) (K:PL→Int→TLi→Bool) (e:Int) (U:PL→Int→LI) (B:PL→Int→TLi→TLi→Int × Int):List Ct:=[c23,c53,w56 A,c60,c63,c26z,w73 N1,w67 N2 K e,w66 U,w74 N3,c78,c51z,w68 B,c55]
abbrev OD:=Option D
def zN (b:Bool) (k:OD):OD:=bif b then k else none
def zF (b:Bool) (k:OD):OD:=bif b then some (Bo false) else k
def zT (b:Bool) (k:OD):OD:=bif b then some (Bo true) else k
section
variable (A:PL→Int→Int) (N1 N2 N3:PL→Int→Bool) (K:PL→Int→TLi→Bool) (U:PL→Int→LI) (B:PL→Int→TLi→TLi→Int × Int)
def ze12 (p:PL) (s:Int):OD:=zN (gP p) (zN (N1 p (IntKind.i64.wrap (s.tdiv 2))) (some (Bo true)))
def zd12 (p:PL) (s:Int):OD:=
 bif decide ((p.length:Int) > 0) then zN (decide ((0:Int) ≤ 1) && (decide ((1:Int) ≤ p.length) && decide ((p.length:Int) ≤ p.length))) (zN (gP (tlP p)) (zN (N1 (tlP p) s) (ze12 N1 p s))) else ze12 N1 p s
def zc12 (p:PL) (s:Int):OD:=
 zN (gP p) (zN (mkG p.length) (zN (shortP p) (zN (sm (zr p.length)) (zF ((B p s (zr 0) (zr p.length)).2 != 0) (zF (decide ((B p s (zr 0) (zr p.length)).1 < 0)) (zd12 N1 p s))))))
def zb12 (p:PL) (x:Gv):OD:=
 zN (gP p) (zN (sm x.a) (zN (sm x.b) (zN (shortP p) (zN (sm x.a) (zN (sm x.b) (bif (B p x.s x.a x.b).2 == 0 then zF (decide ((B p x.s x.a x.b).1 < 0)) (zc12 N1 B p x.s) else zc12 N1 B p x.s))))))
def law12w (p:PL) (x:Gv):OD:=
 zT (decide ((p.length:Int) > 4)) (zN (gW p) (zT (!shortP p) (zT (A p x.s != 0) (zT (decide ((x.m.length:Int) > 9)) (zT (decide ((x.a.length:Int) > 9)) (zT (decide ((x.b.length:Int) > 9))
  (zN (gP p) (zN (N1 p x.s) (zN (gP p) (zN (N2 p x.s) (zN (gP p) (zN (gP p) (zN (N3 p x.s) (zF ((U p x.s).2 != 0) (zN (gP p) (zN (sm x.m) (zN (K p x.s x.m) (zb12 N1 B p x))))))))))))))))))
theorem run12a (p:PL) (s:Int) (a b:TLi):bodyK ((cfg w0).at (cs12w A N1 N2 N3 K 0 U B)) 60 (fnOf Tryz.f12) [.vec evK [],.vec paK p,gvD ⟨s,[],a,b⟩] = law12w A N1 N2 N3 K U B p ⟨s,[],a,b⟩:=by kernel_rfl
theorem run12b (p:PL) (x:Gv):bodyK ((cfg w0).at (cs12w A N1 N2 N3 K 2 U B)) 60 (fnOf Tryz.f12) [.vec evK [],.vec paK p,gvD x] = law12w A N1 N2 N3 K U B p x:=by kernel_rfl
end
end
end Go.Proofs.YtifnpljmjhnbaaaGreatDoor
