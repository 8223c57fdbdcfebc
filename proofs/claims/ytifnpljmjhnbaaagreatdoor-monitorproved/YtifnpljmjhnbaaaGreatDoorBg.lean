/-
 A part of the proof of the statement that the claim names: see the last file.
-/
import Derived.Test.YtifnpljmjhnbaaaGreatDoorT8
import Derived.Test.YtifnpljmjhnbaaaGreatDoorB6
import Derived.Test.YtifnpljmjhnbaaaGreatDoorBf
namespace Go.Proofs.YtifnpljmjhnbaaaGreatDoor
open Go Go.Am
set_option maxRecDepth 100000
variable {w0:World}
noncomputable section
structure Gv where
 s:Int
 m:TLi
 a:TLi
 b:TLi
def gvD (x:Gv):D:=.agg [I x.s,.vec intK x.m,.vec intK x.a,.vec intK x.b]
theorem sameI_self (l:TLi):sameI l l = true:=by
 unfold sameI
 simp
theorem unk_len (l:List (Tup evK)) (p:List (Tup paK)) (s:Int) (hl:l.length ≤ 100000):Nat.ble (unk l p s).1.length 100000 = true:=by
 refine (Nat.ble_eq ..).mpr ?_
 unfold unk
 cases (allZ l p s != 0) with
 | true=>simp
 | false=>
   have h:∀ (rs:List TLi) (i:Int),(unkL rs i).length ≤ rs.length:=fun rs=>by
    induction rs with
    | nil=>intro i;simp [unkL]
    | cons r rs ih=>
      intro i
      unfold unkL
      have:=ih (i + 1)
      cases r.any isV <;> simp <;> omega
   have:=h (l.map fun e=>vaL e p s) 0
   rw [List.length_map] at this
   simp only [cond_false,List.length_map]
   omega
end
end Go.Proofs.YtifnpljmjhnbaaaGreatDoor
namespace Go.Proofs.YtifnpljmjhnbaaaGreatDoor
open Go Go.Am
set_option maxRecDepth 100000
variable {w0:World}
noncomputable section
def c73z:Ct:=ct 73 [.v evK,.v paK,.c ik] fun a=>.br (noE a.1 a.2.1 a.2.2.1 && fewP a.2.1) (.leaf (.tup [.sl 0 1 [],I 0,I 0])) .bad
theorem gd73z (h0:Lib0 w0):Gd (cfg w0) c73z:=gd_sig fun a d hd=>by
 obtain ⟨l,p,s,u⟩:=a
 obtain ⟨hg,hd⟩:=br_run hd
 cases hd
 simp only at hg
 rw [Bool.and_eq_true] at hg
 obtain ⟨hg,h3⟩:=hg
 unfold noE at hg
 rw [Bool.and_eq_true] at hg
 obtain ⟨h1,h2⟩:=hg
 have h4:=h2
 rw [Nat.beq_eq] at h4
 have:l = []:=List.length_eq_zero_iff.1 h4
 subst this
 have hne:(allZ [] p s != 0) = false:=by unfold bne;rw [h1];rfl
 exact fnD_k (cfg_ok w0) h0 (cs:=cs73) ⟨gd128 h0,gd133 h0,trivial⟩ (fd:=fnOf Tryz.f73) rfl ((run73 [] p s).trans (by rw [hne,h3];rfl))
theorem few_of {l:List (Tup evK)} (h:l.length ≤ 4):few l = true:=by
 match l,h with
 | [],_=>rfl
 | [_],_=>rfl
 | [_,_],_=>rfl
 | [_,_,_],_=>rfl
 | [_,_,_,_],_=>rfl
 | _ :: _ :: _ :: _ :: _ :: _,h=>simp at h
theorem fewP_of {l:List (Tup paK)} (h:l.length ≤ 4):fewP l = true:=by
 match l,h with
 | [],_=>rfl
 | [_],_=>rfl
 | [_,_],_=>rfl
 | [_,_,_],_=>rfl
 | [_,_,_,_],_=>rfl
 | _ :: _ :: _ :: _ :: _ :: _,h=>simp at h
theorem shortE_len {l:List (Tup evK)} {p:List (Tup paK)} {s:Int} (h:shortE l = true) (hz:allZ l p s = 0):l.length ≤ 4:=by
 have hne:(allZ l p s != 0) = false:=by rw [hz];rfl
 have:=ev_len (allZ_ok hne).1
 unfold shortE at h
 simp only [Bool.or_eq_true,decide_eq_true_eq,beq_iff_eq] at h
 omega
theorem shortP_len {l:List (Tup evK)} {p:List (Tup paK)} {s:Int} (h:shortP p = true) (hz:allZ l p s = 0):p.length ≤ 4:=by
 have hne:(allZ l p s != 0) = false:=by rw [hz];rfl
 exact (shortP_few (l:=l) (s:=s) h).resolve_right (by rw [hne];decide)
theorem fewA_ok {l:List (Tup evK)} {p:List (Tup paK)} {s:Int} (h1:shortE l = true) (h2:shortP p = true):fewA l p s = true:=by
 unfold fewA
 cases hz:(allZ l p s != 0) with
 | true=>rfl
 | false=>
   have h0:allZ l p s = 0:=by simpa using hz
   rw [few_of (shortE_len h1 h0),fewP_of (shortP_len h2 h0)];rfl
end
end Go.Proofs.YtifnpljmjhnbaaaGreatDoor
