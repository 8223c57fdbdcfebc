/-
 A part of the proof of the statement that the claim names: see the last file.
-/
import Derived.Test.YtifnpljmjhnbaaaGreatDoorD4
namespace Go.Proofs.YtifnpljmjhnbaaaGreatDoor
open Go Go.Am
set_option maxRecDepth 100000
variable {w0:World}
noncomputable section
def nz1 (p:PL) (s:Int):Bool:=noE [] p s && fewP p
def nz2 (p:PL) (s:Int):Bool:=noE [] p s && smP p
def nz3 (p:PL) (s:Int):Bool:=allZ [] p s == 0 && fewA [] p s
def kA (p:PL) (s:Int) (m:TLi):Bool:=Nat.beq m.length 0 && nz2 p s
def kB (p:PL) (s:Int) (m:TLi):Bool:=!(Nat.beq m.length 0) && nz2 p s
theorem ifN_run {α:Type} {l:List (Tup evK)} {k:FT α} {d:α} (h:(ifN l k).run = some d):l = []∧k.run = some d:=by
 cases l with
 | nil=>exact ⟨rfl,h⟩
 | cons e l=>cases h
theorem gw56 (h0:Lib0 w0):Gd (cfg w0) (w56 (allZ [])):=gd_sig fun a d hd=>by
 obtain ⟨l,p,s,u⟩:=a
 obtain ⟨e,hd⟩:=ifN_run hd
 simp only at e
 subst e
 exact gd56 h0 [.vec evK [],.vec paK p,I s] d hd
theorem gw73 (h0:Lib0 w0):Gd (cfg w0) (w73 nz1):=gd_sig fun a d hd=>by
 obtain ⟨l,p,s,u⟩:=a
 obtain ⟨e,hd⟩:=ifN_run hd
 simp only at e
 subst e
 exact gd73z h0 [.vec evK [],.vec paK p,I s] d hd
theorem gw66 (h0:Lib0 w0):Gd (cfg w0) (w66 (unk [])):=gd_sig fun a d hd=>by
 obtain ⟨l,p,s,u⟩:=a
 obtain ⟨e,hd⟩:=ifN_run hd
 simp only at e
 subst e
 cases hd
 exact fn66 h0 [] p s rfl
theorem gw74 (h0:Lib0 w0):Gd (cfg w0) (w74 nz3):=gd_sig fun a d hd=>by
 obtain ⟨l,p,s,u⟩:=a
 obtain ⟨e,hd⟩:=ifN_run hd
 simp only at e hd
 subst e
 obtain ⟨hg,hd⟩:=br_run hd
 cases hd
 unfold nz3 at hg
 rw [Bool.and_eq_true] at hg
 have hs:sec9 [] p s = (0,7):=by
  unfold sec9 bne
  rw [hg.1];rfl
 have:=gd74 h0 [.vec evK [],.vec paK p,I s] (tup2' (sec9 [] p s)) (by
  show (FT.br (fewA [] p s) (.leaf (tup2' (sec9 [] p s))) .bad).run = _
  rw [hg.2];rfl)
 rw [hs] at this
 exact this
theorem nz2_z {p:PL} {s:Int} (h:nz2 p s = true):allZ [] p s = 0:=by
 unfold nz2 noE at h
 simp only [Bool.and_eq_true] at h
 simpa using h.1.1
theorem mat_nil {p:PL} {s:Int} {m:TLi} (hz:allZ [] p s = 0):mat [] p s m = bif Nat.beq m.length 0 then (0,0) else (0,2):=by
 unfold mat chkM
 rw [show (allZ [] p s != 0) = false by rw [hz];rfl]
 cases m with
 | nil=>
   show cM p s (([]:List (Tup evK)).zip []) [] 0 = (0,0)
   rw [List.zip_nil_left,cM]
 | cons y m=>
   show (bif (((m.length + 1:Nat):Int) != ((0:Nat):Int)) then ((0:Int),(2:Int)) else cM p s (([]:List (Tup evK)).zip (y :: m)) [] 0) = (0,2)
   rw [show (((m.length + 1:Nat):Int) != ((0:Nat):Int)) = true by simp;omega]
   rfl
theorem gw67 (h0:Lib0 w0) {K:PL→Int→TLi→Bool} {e:Int} (hK:∀ p s m,K p s m = true→nz2 p s = true∧(bif Nat.beq (m:TLi).length 0 then ((0:Int),(0:Int)) else (0,2)) = (0,e)):Gd (cfg w0) (w67 nz2 K e):=gd_sig fun a d hd=>by
 obtain ⟨l,p,s,x,u⟩:=a
 obtain ⟨el,hd⟩:=ifN_run hd
 simp only at el hd
 subst el
 cases hx:isE0 x with
 | true=>
   rw [hx] at hd
   cases isE0_eq hx
   exact gd67z h0 [.vec evK [],.vec paK p,I s,.sl 0 1 []] d hd
 | false=>
   rw [hx] at hd
   simp only at hd
   cases hm:asV0 x with
   | none=>rw [hm] at hd;cases hd
   | some m=>
     rw [hm] at hd
     obtain ⟨hg,hd⟩:=br_run hd
     cases hd
     cases asV0_eq hm
     obtain ⟨h1,h2⟩:=hK p s m hg
     have:=fn67 h0 [] p s m rfl
     rw [mat_nil (nz2_z h1),h2] at this
     exact this
theorem gwA (h0:Lib0 w0):Gd (cfg w0) (w67 nz2 kA 0):=gw67 h0 fun p s m h=>by
 unfold kA at h
 rw [Bool.and_eq_true] at h
 exact ⟨h.2,by rw [h.1];rfl⟩
theorem gwB (h0:Lib0 w0):Gd (cfg w0) (w67 nz2 kB 2):=gw67 h0 fun p s m h=>by
 unfold kB at h
 rw [Bool.and_eq_true,Bool.not_eq_true'] at h
 exact ⟨h.2,by rw [h.1];rfl⟩
theorem gw68 (h0:Lib0 w0):Gd (cfg w0) (w68 (bnd [])):=gd_sig fun a d hd=>by
 obtain ⟨l,p,s,x,u⟩:=a
 obtain ⟨e,hd⟩:=ifN_run hd
 simp only at e hd
 subst e
 cases hb:asPr x with
 | none=>rw [hb] at hd;cases hd
 | some q=>
   rw [hb] at hd
   obtain ⟨h2,hd⟩:=br_run hd
   obtain ⟨h3,hd⟩:=br_run hd
   obtain ⟨h4,hd⟩:=br_run hd
   cases hd
   cases asPr_eq hb
   exact fn68 h0 [] p s q.1 q.2 rfl h2 h3 h4
theorem noE_ok {p:PL} {s:Int} (h:allZ [] p s = 0):noE [] p s = true:=by unfold noE;rw [h];rfl
theorem nz1_ok {p:PL} {s:Int} (h:allZ [] p s = 0) (hp:p.length ≤ 4):nz1 p s = true:=by unfold nz1;rw [noE_ok h,fewP_of hp];rfl
theorem ze12_ok {p:PL} {s:Int} (hz:allZ [] p s = 0) (hp:p.length ≤ 4):ze12 nz1 p s = some (Bo true):=by
 have hne:(allZ [] p s != 0) = false:=by rw [hz];rfl
 obtain ⟨a,b,c⟩:=allZ_ok hne
 have hc:=within_zero c
 have hd:IntKind.i64.wrap (s.tdiv 2) = s / 2:=by
  rw [Int.tdiv_eq_ediv_of_nonneg hc.1]
  exact W_id (by omega) (by omega)
 have hz2:allZ [] p (s / 2) = 0:=allZ_of a b (by
  unfold withinZ whenZ
  rw [decide_eq_false (show ¬ s / 2 < 0 by omega),decide_eq_false (show ¬ s / 2 > 300 by omega)];rfl)
 unfold ze12 zN
 rw [hd,show gP p = true from (Nat.ble_eq ..).mpr (by omega),nz1_ok hz2 hp]
 rfl
theorem zd12_ok {p:PL} {s:Int} (hz:allZ [] p s = 0) (hp:p.length ≤ 4):zd12 nz1 p s = some (Bo true):=by
 have he:=ze12_ok hz hp
 cases p with
 | nil=>exact he
 | cons q p=>
   have hne:(allZ [] (q :: p) s != 0) = false:=by rw [hz];rfl
   obtain ⟨a,b,c⟩:=allZ_ok hne
   rw [List.length_cons] at hp
   have ht:tlP (q :: p) = p:=by
    unfold tlP
    rw [show (0 + Int.toNat 1) = 1 from rfl,List.drop_succ_cons,List.drop_zero,List.take_of_length_le (by rw [List.length_cons];show p.length ≤ (((p.length + 1:Nat):Int)).toNat - 1;omega)]
   have hz2:allZ [] p s = 0:=allZ_of a (chkPa_tail b) c
   unfold zd12 zN
   rw [ht,he,show gP p = true from (Nat.ble_eq ..).mpr (by omega),nz1_ok hz2 (by omega),List.length_cons,decide_eq_true (show ((p.length + 1:Nat):Int) > 0 by omega),decide_eq_true (show (1:Int) ≤ ((p.length + 1:Nat):Int) by omega),decide_eq_true (show ((p.length + 1:Nat):Int) ≤ ((p.length + 1:Nat):Int) by omega)]
   rfl
theorem law12w_true (p:PL) (x:Gv) (K:PL→Int→TLi→Bool) (hp:p.length ≤ maxLen) (hK:nz2 p x.s = true→K p x.s x.m = true):law12w (allZ []) nz1 nz2 nz3 K (unk []) (bnd []) p x = some (Bo true):=by
 have hw:gW p = true:=(Nat.ble_eq ..).mpr (by have:maxLen = 9223372036854775807:=rfl;omega)
 unfold law12w zT
 cases c2:decide ((p.length:Int) > 4) with
 | true=>rfl
 | false=>
   rw [hw]
   cases c3:shortP p with
   | false=>rfl
   | true=>
     cases c4:(allZ [] p x.s != 0) with
     | true=>rfl
     | false=>
       cases c5:decide ((x.m.length:Int) > 9) with
       | true=>rfl
       | false=>
         cases c6:decide ((x.a.length:Int) > 9) with
         | true=>rfl
         | false=>
           cases c7:decide ((x.b.length:Int) > 9) with
           | true=>rfl
           | false=>
             have hz:allZ [] p x.s = 0:=by simpa using c4
             have hp4:p.length ≤ 4:=by have:=of_decide_eq_false c2;omega
             have n5:=of_decide_eq_false c5
             have n6:=of_decide_eq_false c6
             have n7:=of_decide_eq_false c7
             have G:Vld [] p x.s:=vld_of hz (by decide) hp4
             have hgP:gP p = true:=(Nat.ble_eq ..).mpr (by omega)
             have hsm:smP p = true:=(Nat.ble_eq ..).mpr (by omega)
             have hn2:nz2 p x.s = true:=by unfold nz2;rw [noE_ok hz,hsm];rfl
             have hn3:nz3 p x.s = true:=by unfold nz3;rw [hz,fewA_ok (l:=[]) (by rfl) c3];rfl
             have hunk:(unk [] p x.s).2 = 0:=by unfold unk;rw [c4];rfl
             have hcM:cM p x.s (([]:List (Tup evK)).zip ([]:TLi)) [] 0 = (0,0):=by rw [List.zip_nil_left,cM]
             have hzl:(zr p.length).length = p.length:=by simp [zr]
             have hb2:(bnd [] p x.s (zr 0) (zr p.length)).2 = 0:=bnd_ok hz rfl hzl (fun y hy=>by cases hy) (fun y hy=>by
              unfold zr at hy
              rw [List.eq_of_mem_replicate hy]
              exact ⟨Int.le_refl _,by decide⟩) fun i k hi _ _=>absurd hi (by simp)
             have hb1:=bnd_match (mt:=[]) G hz hb2 rfl hcM
             have hc:zc12 nz1 (bnd []) p x.s = some (Bo true):=by
              unfold zc12 zN zF
              rw [hgP,mkG_ok (by omega),c3,show sm (zr p.length) = true from (Nat.ble_eq ..).mpr (by rw [hzl];omega),hb2,decide_eq_false (show ¬ (bnd [] p x.s (zr 0) (zr p.length)).1 < 0 by omega),zd12_ok hz hp4]
              rfl
             have hbb:zb12 nz1 (bnd []) p x = some (Bo true):=by
              unfold zb12 zN zF
              rw [hgP,c3,hc,show sm x.a = true from (Nat.ble_eq ..).mpr (by omega),show sm x.b = true from (Nat.ble_eq ..).mpr (by omega)]
              cases hq:((bnd [] p x.s x.a x.b).2 == 0) with
              | false=>rfl
              | true=>
                have:=bnd_match (a:=x.a) (b:=x.b) (mt:=[]) G hz (by simpa using hq) rfl hcM
                rw [decide_eq_false (show ¬ (bnd [] p x.s x.a x.b).1 < 0 by omega)]
                rfl
             unfold zN zF
             rw [hgP,nz1_ok hz hp4,hn2,hn3,hunk,hbb,hK hn2,show sm x.m = true from (Nat.ble_eq ..).mpr (by omega)]
             rfl
theorem law12_fn (h0:Lib0 w0) (l:List (Tup evK)) (p:List (Tup paK)) (x:Gv) (hp:p.length ≤ maxLen):FnD (cfg w0) 12 [.vec evK l,.vec paK p,gvD x] (Bo true):=by
 cases l with
 | cons e l=>exact law12_fn1 h0 (e :: l) p x hp (by simp)
 | nil=>
   obtain ⟨s,m,a,b⟩:=x
   cases m with
   | nil=>exact fnD_k (cfg_ok w0) h0 (cs:=cs12w (allZ []) nz1 nz2 nz3 kA 0 (unk []) (bnd [])) ⟨gd23 h0,gd53 h0,gw56 h0,gd60 h0,gd63 h0,gd26z h0,gw73 h0,gwA h0,gw66 h0,gw74 h0,gd78 h0,gd51z h0,gw68 h0,gd55 h0,trivial⟩ (fd:=fnOf Tryz.f12) rfl ((run12a _ _ _ _ _ _ _ p s a b).trans (law12w_true p ⟨s,[],a,b⟩ kA hp fun h=>by unfold kA;rw [h];rfl))
   | cons y m=>exact fnD_k (cfg_ok w0) h0 (cs:=cs12w (allZ []) nz1 nz2 nz3 kB 2 (unk []) (bnd [])) ⟨gd23 h0,gd53 h0,gw56 h0,gd60 h0,gd63 h0,gd26z h0,gw73 h0,gwB h0,gw66 h0,gw74 h0,gd78 h0,gd51z h0,gw68 h0,gd55 h0,trivial⟩ (fd:=fnOf Tryz.f12) rfl ((run12b _ _ _ _ _ _ _ p ⟨s,y :: m,a,b⟩).trans (law12w_true p ⟨s,y :: m,a,b⟩ kB hp fun h=>by unfold kB;rw [h];rfl))
end
end Go.Proofs.YtifnpljmjhnbaaaGreatDoor
