/-
 A part of the proof of the statement that the claim names: see the last file.
-/
import Derived.Test.YtifnpljmjhnbaaaGreatDoorT8
import Derived.Test.YtifnpljmjhnbaaaGreatDoorB7
import Derived.Test.YtifnpljmjhnbaaaGreatDoorBf
namespace Go.Proofs.YtifnpljmjhnbaaaGreatDoor
open Go Go.Am
set_option maxRecDepth 100000
variable {w0 : World}
noncomputable section
structure Gv where
 s : Int
 m : TLi
 a : TLi
 b : TLi
def gn (b : Bool) (k : Option D) : Option D := bif b then k else none
theorem sameI_self (l : TLi) : sameI l l = true := by
 unfold sameI
 simp
end
end Go.Proofs.YtifnpljmjhnbaaaGreatDoor
namespace Go.Proofs.YtifnpljmjhnbaaaGreatDoor
open Go Go.Am
set_option maxRecDepth 100000
variable {w0 : World}
noncomputable section
def cs9 : List Ct := [c23,c52,c53,c60,c63,c51,c56,c73,c74,c134]
abbrev cg9 (h0 : Lib0 w0) : Cfg := { ((cfg w0).onI [75]).at cs9 with hk := [hk75 h0] }
def fin9 (l : List (Tup evK)) (p : List (Tup paK)) (s : Int) (m : TLi) (v e f : Int) : Option D :=
 gn (Nat.ble (best9 l p s).1.length 100000) (bf (sameI (best9 l p s).1 m) (bf ((best9 l p s).2.1 == v) (bf ((best9 l p s).2.2 == allZ l p s) (bf ((sec9 l p s).1 == e) (bf ((sec9 l p s).2 == f) (some (Bo true)))))))
def g134 (l : List (Tup evK)) (p : List (Tup paK)) : Bool := Nat.blt 0 l.length && (Nat.ble l.length 4 && Nat.ble p.length 8)
def ref9 (l : List (Tup evK)) (p : List (Tup paK)) (s : Int) (k : Option D) : Option D :=
 gn (g134 l p) (gn (sameC B75 B75) (gn (smA (m134 p s l [])) (gn (inL (m134 p s l []) (rs75 l p s (m134 p s l [])).1) k)))
def got9 (l : List (Tup evK)) (p : List (Tup paK)) (s : Int) : Option D :=
 bif allZ l p s == 0 then ref9 l p s (bif decide ((rs75 l p s (m134 p s l [])).2.2 < 0) then fin9 l p s (nth (m134 p s l []) (rs75 l p s (m134 p s l [])).1.toNat).1 (rs75 l p s (m134 p s l [])).2.1 0 7
  else fin9 l p s (nth (m134 p s l []) (rs75 l p s (m134 p s l [])).1.toNat).1 (rs75 l p s (m134 p s l [])).2.1 (rs75 l p s (m134 p s l [])).2.2 (allZ l p s))
 else fin9 l p s [] 0 0 (allZ l p s)
def law9 (l : List (Tup evK)) (p : List (Tup paK)) (s : Int) : Option D :=
 bif !(shortE l) then some (Bo true) else gn (gW p) (bif !(shortP p) then some (Bo true) else
  gn (gE l) (gn (gP p) (gn (fewA l p s) (bif noE l p s then gn (gE l) (gn (gP p) (gn (fewA l p s) (bif allZ l p s == 0 then ref9 l p s (bif decide ((rs75 l p s (m134 p s l [])).2.2 < 0) then none else none) else none)))
   else gn (gE l) (gn (gP p) (gn (fewA l p s) (got9 l p s)))))))
theorem run9 (h0 : Lib0 w0) (l : List (Tup evK)) (p : List (Tup paK)) (s : Int) : bodyK (cg9 h0) 60 (fnOf Tryz.f9) [.vec evK l,.vec paK p,I s] = law9 l p s := by kernel_rfl
def c73z : Ct := ct 73 [.v evK,.v paK,.c ik] fun a => .br (noE a.1 a.2.1 a.2.2.1 && fewP a.2.1) (.leaf (.tup [.sl 0 1 [],I 0,I 0])) .bad
theorem gd73z (h0 : Lib0 w0) : Gd (cfg w0) c73z := gd_sig fun a d hd => by
 obtain ⟨l,p,s,u⟩ := a
 obtain ⟨hg,hd⟩ := br_run hd
 cases hd
 simp only at hg
 rw [Bool.and_eq_true] at hg
 obtain ⟨hg,h3⟩ := hg
 unfold noE at hg
 rw [Bool.and_eq_true] at hg
 obtain ⟨h1,h2⟩ := hg
 have h4 := h2
 rw [Nat.beq_eq] at h4
 have : l = [] := List.length_eq_zero_iff.1 h4
 subst this
 have hne : (allZ [] p s != 0) = false := by unfold bne; rw [h1]; rfl
 exact fnD_k (cfg_ok w0) h0 (cs := cs73) ⟨gd128 h0,gd133 h0,trivial⟩ (fd := fnOf Tryz.f73) rfl ((run73 [] p s).trans (by rw [hne,h3]; rfl))
def cs9z : List Ct := [c23,c52,c53,c60,c63,c56,c70,c73z,c74]
abbrev cg9z (w0 : World) : Cfg := ((cfg w0).onI [51,75,134]).on cs9z
def fz (p : List (Tup paK)) (s f : Int) : Option D := bf ((0 : Int) == allZ [] p s) (bf ((sec9 [] p s).1 == 0) (bf ((sec9 [] p s).2 == f) (some (Bo true))))
def law9z (p : List (Tup paK)) (s : Int) : Option D :=
 gn (gW p) (bif !(shortP p) then some (Bo true) else gn (gP p) (gn (noE [] p s && fewP p) (gn (gP p) (gn (fewA [] p s) (bif allZ [] p s == 0 then fz p s 7 else fz p s (allZ [] p s))))))
theorem run9z (p : List (Tup paK)) (s : Int) : bodyK (cg9z w0) 60 (fnOf Tryz.f9) [.vec evK [],.vec paK p,I s] = law9z p s := by kernel_rfl
theorem few_of {l : List (Tup evK)} (h : l.length ≤ 4) : few l = true := by
 match l,h with
 | [],_ => rfl
 | [_],_ => rfl
 | [_,_],_ => rfl
 | [_,_,_],_ => rfl
 | [_,_,_,_],_ => rfl
 | _ :: _ :: _ :: _ :: _ :: _,h => simp at h
theorem fewP_of {l : List (Tup paK)} (h : l.length ≤ 4) : fewP l = true := by
 match l,h with
 | [],_ => rfl
 | [_],_ => rfl
 | [_,_],_ => rfl
 | [_,_,_],_ => rfl
 | [_,_,_,_],_ => rfl
 | _ :: _ :: _ :: _ :: _ :: _,h => simp at h
theorem shortE_len {l : List (Tup evK)} {p : List (Tup paK)} {s : Int} (h : shortE l = true) (hz : allZ l p s = 0) : l.length ≤ 4 := by
 have hne : (allZ l p s != 0) = false := by rw [hz]; rfl
 have := ev_len (allZ_ok hne).1
 unfold shortE at h
 simp only [Bool.or_eq_true,decide_eq_true_eq,beq_iff_eq] at h
 omega
theorem shortP_len {l : List (Tup evK)} {p : List (Tup paK)} {s : Int} (h : shortP p = true) (hz : allZ l p s = 0) : p.length ≤ 4 := by
 have hne : (allZ l p s != 0) = false := by rw [hz]; rfl
 exact (shortP_few (l := l) (s := s) h).resolve_right (by rw [hne]; decide)
theorem fewA_ok {l : List (Tup evK)} {p : List (Tup paK)} {s : Int} (h1 : shortE l = true) (h2 : shortP p = true) : fewA l p s = true := by
 unfold fewA
 cases hz : (allZ l p s != 0) with
 | true => rfl
 | false =>
   have h0 : allZ l p s = 0 := by simpa using hz
   rw [few_of (shortE_len h1 h0),fewP_of (shortP_len h2 h0)]; rfl
theorem fin9_ok {l : List (Tup evK)} {p : List (Tup paK)} {s : Int} {m : TLi} {v e f : Int} (hl : (best9 l p s).1.length ≤ 100000) (h1 : best9 l p s = (m,v,allZ l p s)) (h2 : sec9 l p s = (e,f)) : fin9 l p s m v e f = some (Bo true) := by
 unfold fin9 gn bf
 rw [(Nat.ble_eq ..).mpr hl,h1,h2,sameI_self]
 simp
theorem both9 {l : List (Tup evK)} {p : List (Tup paK)} {s : Int} (hz : allZ l p s = 0) (hl : l.length ≤ 4) (hp : p.length ≤ 4) :
  ∃ v B sec sev,(fin133 l p s).2 = (v,B,sec,sev) ∧ B.length = l.length ∧ smA (m134 p s l []) = true ∧ inL (m134 p s l []) (rs75 l p s (m134 p s l [])).1 = true ∧ (nth (m134 p s l []) (rs75 l p s (m134 p s l [])).1.toNat).1 = B ∧ (rs75 l p s (m134 p s l [])).2.1 = v ∧
   ((sev = false ∧ (rs75 l p s (m134 p s l [])).2.2 = -1) ∨ (sev = true ∧ (rs75 l p s (m134 p s l [])).2.2 = sec ∧ 0 ≤ sec)) := by
 have hne : (allZ l p s != 0) = false := by rw [hz]; rfl
 obtain ⟨he,hpa,hs⟩ := allZ_ok hne
 have hE := evs_ok he
 have hP := pas_ok hpa
 have hS := slack_le hs
 have hb := fin133_eq hE hP hS (by omega) (show p.length ≤ 8 by omega)
 have hc := chkM_mv hE hP hS (show l.length ≤ 9 by omega)
 have hal : m134 p s l [] = (mv p s l [] 0).map fun x => tl x.1 := by
  unfold m134
  rw [show l.drop ([] : TLi).length = l from rfl,← mv_mr p s l [] 0,List.map_map]; rfl
 have hrs : rs75 l p s (m134 p s l []) = rfo 0 ((mv p s l [] 0).map Prod.snd) (0,-1,-1) := by
  unfold rs75
  rw [hal,List.map_map]
  congr 1
  refine List.map_congr_left fun x hx => ?_
  show (chkM l p s x.1).1 = x.2
  rw [(hc x hx).2.2]
 have hlen : (m134 p s l []).length ≤ 6561 := m134_len hl (by omega)
 have hnel := mv_ne p s l [] 0
 have hsm : smA (m134 p s l []) = true := by
  unfold smA
  simp only [Bool.and_eq_true,Nat.blt_eq,Nat.ble_eq,List.all_eq_true]
  refine ⟨?_,by omega,fun x hx => ?_⟩
  ·rw [hal,List.length_map]
   exact List.length_pos_iff.2 hnel
  ·rw [hal,List.mem_map] at hx
   obtain ⟨y,hy,rfl⟩ := hx
   exact (Nat.ble_eq ..).mpr (by show y.1.length ≤ 100000; rw [(hc y hy).2.1]; omega)
 rw [hrs]
 generalize rfo 0 ((mv p s l [] 0).map Prod.snd) (0,-1,-1) = st at *
 generalize (fin133 l p s).2 = S at *
 obtain ⟨v,B,sec,sev⟩ := S
 obtain ⟨b,v',s'⟩ := st
 obtain ⟨h1,h2,⟨k,h3,h4⟩,h5⟩ := hb
 simp only at h1 h2 h3 h4 h5
 subst h3
 have hk := (List.getElem?_eq_some_iff.1 h4).1
 have hk2 : k < (m134 p s l []).length := by rw [hal,List.length_map]; exact hk
 refine ⟨v,B,sec,sev,rfl,(hc _ (List.mem_of_getElem? h4)).2.1,hsm,inL_nat hk2,?_,h1.symm,?_⟩
 ·show (nth (m134 p s l []) (k : Int).toNat).1 = B
  rw [Int.toNat_natCast,hal]
  simp only [nth,List.getD_eq_getElem?_getD,List.getElem?_map,h4,Option.map_some,Option.getD_some]
  rfl
 ·rcases h5 with ⟨q1,q2,_⟩ | ⟨q1,q2,q3,_⟩
  ·exact .inl ⟨q1,q2⟩
  ·exact .inr ⟨q1,q2.symm,by show 0 ≤ sec; have q2 : sec = s' := q2; omega⟩
theorem law9_true (l : List (Tup evK)) (p : List (Tup paK)) (s : Int) (hp : p.length ≤ maxLen) (hno : noE l p s = false) : law9 l p s = some (Bo true) := by
 have hw : gW p = true := (Nat.ble_eq ..).mpr (by have : maxLen = 9223372036854775807 := rfl; omega)
 unfold law9
 cases h1 : shortE l with
 | false => rfl
 | true =>
   cases h2 : shortP p with
   | false => rw [hw]; rfl
   | true =>
     have hl : l.length ≤ 100000 := by
      unfold shortE at h1
      simp only [Bool.or_eq_true,decide_eq_true_eq,beq_iff_eq] at h1
      omega
     have hp' : p.length ≤ 100000 := by
      unfold shortP at h2
      simp only [Bool.and_eq_true,Bool.or_eq_true,decide_eq_true_eq,beq_iff_eq] at h2
      omega
     have g1 : gE l = true := (Nat.ble_eq ..).mpr hl
     have g2 : gP p = true := (Nat.ble_eq ..).mpr hp'
     rw [hw,g1,g2,fewA_ok h1 h2,hno]
     unfold gn
     simp only [Bool.not_true,cond_false,cond_true]
     unfold got9
     cases hz : (allZ l p s == 0) with
     | false =>
       have hne : (allZ l p s != 0) = true := by unfold bne; rw [hz]; rfl
       simp only [cond_false]
       refine fin9_ok ?_ (by unfold best9; rw [hne]; rfl) (by unfold sec9; rw [hne]; rfl)
       unfold best9
       rw [hne]
       exact Nat.zero_le _
     | true =>
       have hne : (allZ l p s != 0) = false := by unfold bne; rw [hz]; rfl
       have h0 : allZ l p s = 0 := by simpa using hz
       have f1 := shortE_len h1 h0
       have f2 := shortP_len (l := l) (s := s) h2 h0
       have hpos : 0 < l.length := by
        unfold noE at hno
        rw [hz,Bool.true_and] at hno
        rcases Nat.eq_zero_or_pos l.length with e | e
        ·rw [beq_t e] at hno; cases hno
        ·exact e
       have g3 : g134 l p = true := by
        unfold g134
        simp only [Bool.and_eq_true,Nat.blt_eq,Nat.ble_eq]
        omega
       obtain ⟨v,B,sec,sev,e1,e2,e3,e4,e5,e6,e7⟩ := both9 h0 f1 f2
       simp only [cond_true]
       unfold ref9 gn
       rw [g3,sameC_self,e3,e4,e5,e6]
       simp only [cond_true]
       have hbest : best9 l p s = (B,v,allZ l p s) := by
        unfold best9
        rw [hne,e1,h0]; rfl
       have hlen : (best9 l p s).1.length ≤ 100000 := by rw [hbest]; show B.length ≤ 100000; omega
       rcases e7 with ⟨q1,q2⟩ | ⟨q1,q2,q3⟩
       ·rw [q2]
        exact fin9_ok hlen hbest (by unfold sec9; rw [hne,e1,q1]; rfl)
       ·rw [q2,decide_eq_false (show ¬ sec < 0 by omega)]
        exact fin9_ok hlen hbest (by unfold sec9; rw [hne,e1,q1,h0]; rfl)
theorem law9z_true (p : List (Tup paK)) (s : Int) (hp : p.length ≤ maxLen) (hz : allZ [] p s = 0) : law9z p s = some (Bo true) := by
 have hw : gW p = true := (Nat.ble_eq ..).mpr (by have : maxLen = 9223372036854775807 := rfl; omega)
 have hne : (allZ [] p s != 0) = false := by rw [hz]; rfl
 unfold law9z
 cases h2 : shortP p with
 | false => rw [hw]; rfl
 | true =>
   have f2 := shortP_len (l := []) (s := s) h2 hz
   have g2 : gP p = true := (Nat.ble_eq ..).mpr (by omega)
   have hno : noE [] p s = true := by unfold noE; rw [hz]; rfl
   have hse : sec9 [] p s = (0,7) := by unfold sec9; rw [hne]; rfl
   rw [hw,g2,fewA_ok (by rfl) h2,hno,fewP_of f2]
   unfold gn fz bf
   rw [hz,hse]
   rfl
theorem law9_fn (h0 : Lib0 w0) (l : List (Tup evK)) (p : List (Tup paK)) (s : Int) (hp : p.length ≤ maxLen) : FnD (cfg w0) 9 [.vec evK l,.vec paK p,I s] (Bo true) := by
 cases hno : noE l p s with
 | false =>
   have h := run9 h0 l p s
   rw [law9_true l p s hp hno,bodyK_eq] at h
   have sp0 : SpecOK (((cfg w0).onI [75]).at cs9) := at_sp (C := (cfg w0).onI [75]) (specs_onI h0 _) (cs := cs9) ⟨gd23 h0,gd52 h0,gd53 h0,gd60 h0,gd63 h0,gd51 h0,gd56 h0,gd73 h0,gd74 h0,gd134 h0,trivial⟩
   have ok0 : CfgOk (((cfg w0).onI [75]).at cs9) := at_ok (Cfg.onI_ok (cfg_ok w0) _) _
   have ok : CfgOk (cg9 h0) := ⟨ok0.ty,ok0.fn,ok0.mixed⟩
   exact fnD_on (C := (cfg w0).onI [75]) (cs := cs9) (show FnD (((cfg w0).onI [75]).at cs9) 9 _ _ from bodyD_sound (C := cg9 h0) ok (ev_sound ok (show SpecOK (cg9 h0) from sp0) 60) (fd := fnOf Tryz.f9) rfl h)
 | true =>
   unfold noE at hno
   rw [Bool.and_eq_true,Nat.beq_eq] at hno
   have : l = [] := List.length_eq_zero_iff.1 hno.2
   subst this
   have h := run9z (w0 := w0) p s
   rw [law9z_true p s hp (by simpa using hno.1),bodyK_eq] at h
   have ok : CfgOk (cg9z w0) := Cfg.on_ok (Cfg.onI_ok (cfg_ok w0) _) _
   exact bodyD_sound (C := cg9z w0) ok (ev_sound ok (specs_on (C := (cfg w0).onI [51,75,134]) (specs_onI h0 _) (cs := cs9z) ⟨gd23 h0,gd52 h0,gd53 h0,gd60 h0,gd63 h0,gd56 h0,gd70 h0,gd73z h0,gd74 h0,trivial⟩) 60) (fd := fnOf Tryz.f9) rfl h
end
end Go.Proofs.YtifnpljmjhnbaaaGreatDoor
