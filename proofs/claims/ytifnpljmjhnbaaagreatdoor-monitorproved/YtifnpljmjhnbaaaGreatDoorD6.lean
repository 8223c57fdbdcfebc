/-
 A part of the proof of the statement that the claim names: see the last file.
-/
import Derived.Test.YtifnpljmjhnbaaaGreatDoorM7
import Derived.Test.YtifnpljmjhnbaaaGreatDoorAm5
import Derived.Test.YtifnpljmjhnbaaaGreatDoorD5
namespace Go.Proofs.YtifnpljmjhnbaaaGreatDoor
open Go Go.Am Go.RowKit Go.ChangeShapes Go.WideShapes Go.ChangeAt
set_option maxRecDepth 100000
theorem params12_eq:Tryz.f12.params.toList = [64,86,115]:=by kernel_rfl
abbrev ks12x0:List Kd:=[ik,ik,ik,ik,ik,ik]
theorem sh12x0:shOk Tryz.prog 64 (.v ks12x0) = true:=by kernel_rfl
abbrev ks12x1:List Kd:=[.str,ik,ik,ik,ik]
theorem sh12x1:shOk Tryz.prog 86 (.v ks12x1) = true:=by kernel_rfl
abbrev ss12x2:List Go.Am.Sh:=[.c ik,.v [ik],.v [ik],.v [ik]]
theorem ag12x2:aggT Tryz.prog 115 = true:=by kernel_rfl
theorem sh12x2:leavesX Tryz.prog 8 115 = some ss12x2:=by kernel_rfl
theorem law12_all {w0:World} (h0:Lib0 w0) (x0:List (Tup ks12x0)) (x1:List (Tup ks12x1)) (hl1:x1.length ≤ maxLen) (x2:ArgT ss12x2):FnD (cfg w0) 12 [.vec ks12x0 x0,.vec ks12x1 x1,.agg (toShs ss12x2 x2)] (Bo true):=
 law12_fn h0 x0 x1 ⟨x2.1,x2.2.1,x2.2.2.1,x2.2.2.2.1⟩ hl1
theorem lifted (os:Os) (started:os.Started) (H:Type) (enc:TypeId × Value→H) :
  ReturnsInHanded {} Tryz.checked os 12 .any (fun w args=>(Rows.monitorProvedSpec.pre enc Tryz.prog Tryz.f12 [] false w args∧laidMetH Tryz.prog Rows.monitorProvedRow.laid w)∧sizedMet enc Tryz.prog Tryz.f12 (OpenSpec.ofChange Rows.monitorProvedSpec) false w args)
   (Rows.monitorProvedSpec.post enc Tryz.prog Tryz.f12 false true false false):=by
 refine returnsInHanded_of_change_and (C:=Tryz.checked) (X:=fun w _=>laidMetH Tryz.prog Rows.monitorProvedRow.laid w) (fun _ _ _ hh h=>h.of_heap hh) own started (by kernel_rfl) Tryz.func12
  (ChangeSpec.witness_shaped (enc:=enc) (C:=Tryz.checked) (os:=os) (X:=fun w _=>laidMetH Tryz.prog Rows.monitorProvedRow.laid w) false (World.doorLaid Tryz.prog 600 os) #[.slice none 0 0,.slice none 0 0,.agg #[iv 0,.slice none 0 0,.slice none 0 0,.slice none 0 0]] 8 rfl (World.shaped_of_RefB (by kernel_rfl) (by kernel_rfl)) (by kernel_rfl) (by kernel_rfl) (by kernel_rfl) (door_met os _)) ?_
 intro W base args ds gs before hval0 hW _ _ hL _
 have hval:∀ (j:Nat) t v,Tryz.f12.params.toList[j]? = some t→args.toList[j]? = some v→Value.okWide Tryz.prog W .any base t v:=fun j t v h1 h2=>hval0 j t v (by simpa using h1) (by simpa using h2)
 have hW':=hW
 obtain ⟨p,q,hA0,hV,rfl,hfz,hnd⟩:=hW
 have hA:DataW.TrodAll enc Tryz.prog W 0 (fun _=>true) true Tryz.f12.params.toList args.toList ds p:=hA0
 obtain ⟨rfl,rfl⟩:=trodVars_none hV
 have hA2:=hA
 rw [params12_eq] at hA2 hval
 obtain ⟨v0,vs1,d0,ds1,p0,q0,e1,rfl,_,t0,hA3⟩:=ChangeShapes.trodAll_cons hA2
 obtain ⟨v1,vs2,d1,ds2,p1,q1,e2,rfl,_,t1,hA4⟩:=ChangeShapes.trodAll_cons hA3
 obtain ⟨v2,vs3,d2,ds3,p2,q2,e3,rfl,_,t2,hA5⟩:=ChangeShapes.trodAll_cons hA4
 obtain ⟨rfl,rfl,_⟩:=ChangeShapes.trodAll_nil hA5
 subst e3
 subst e2
 obtain ⟨x0,hx0,a0⟩:=v_imp sh12x0 (hval 0 64 v0 rfl (by rw [e1];rfl)) t0
 obtain ⟨x1,hl1,hx1,a1⟩:=v_impW sh12x1 (hval 1 86 v1 rfl (by rw [e1];rfl)) t1
 obtain ⟨x2,hx2,a2⟩:=x_imp ag12x2 sh12x2 (hval 2 115 v2 rfl (by rw [e1];rfl)) t2
 have h0:=lib_of hL
 have hb:=base_of hL
 have himp:ImpsOK (cfg W).G (cfg W).GB W [.vec ks12x0 x0,.vec ks12x1 x1,.agg (toShs ss12x2 x2)] args.toList:=by
  rw [e1]
  exact ImpsOK.cons (a0 _ _) (ImpsOK.cons (a1 _ _) (ImpsOK.cons (a2 _ _) ⟨rfl,fun j d u h=>by simp at h⟩))
 refine (fnD_below (C:=cfg W) rfl (law12_all h0 x0 x1 hl1 x2) hb himp).mono fun e' W' ⟨he,hB⟩=>?_
 subst he
 exact ⟨_,rfl,⟨_,_,_,[],_,[],hW',trodAll_mk1 (shut_bool Tryz.underlying4 true),all_below laidOut hB _ _ _ _ (by kernel_rfl) hA (fun x hx=>by simpa using hW'.lt x (by simpa using hx)),rfl,hB.frame _,fun h=>by cases h⟩⟩
end Go.Proofs.YtifnpljmjhnbaaaGreatDoor
