/-
 A part of the proof of the statement that the claim names: see the last file.
-/
import Derived.Test.YtifnpljmjhnbaaaGreatDoorM7
import Derived.Test.YtifnpljmjhnbaaaGreatDoorBg
namespace Go.Proofs.YtifnpljmjhnbaaaGreatDoor
open Go Go.Am Go.RowKit Go.ChangeShapes Go.WideShapes Go.ChangeAt
set_option maxRecDepth 100000
theorem params9_eq : Tryz.f9.params.toList = [64,86,3] := by kernel_rfl
abbrev ks9x0 : List Kd := [ik,ik,ik,ik,ik,ik]
theorem sh9x0 : shOk Tryz.prog 64 (.v ks9x0) = true := by kernel_rfl
abbrev ks9x1 : List Kd := [.str,ik,ik,ik,ik]
theorem sh9x1 : shOk Tryz.prog 86 (.v ks9x1) = true := by kernel_rfl
theorem sh9x2 : shOk Tryz.prog 3 (.c ik) = true := by kernel_rfl
theorem law9_all {w0 : World} (h0 : Lib0 w0) (x0 : List (Tup ks9x0)) (x1 : List (Tup ks9x1)) (hl1 : x1.length ≤ maxLen) (x2 : El ik) : FnD (cfg w0) 9 [.vec ks9x0 x0,.vec ks9x1 x1,.val (toV ik x2)] (Bo true) :=
 law9_fn h0 x0 x1 x2 hl1
theorem lifted (os : Os) (started : os.Started) (H : Type) (enc : TypeId × Value → H) :
  ReturnsInHanded {} Tryz.checked os 9 .any (fun w args => (Rows.monitorBestSpec.pre enc Tryz.prog Tryz.f9 [] false w args ∧ laidMetH Tryz.prog Rows.monitorBestRow.laid w) ∧ sizedMet enc Tryz.prog Tryz.f9 (OpenSpec.ofChange Rows.monitorBestSpec) false w args)
   (Rows.monitorBestSpec.post enc Tryz.prog Tryz.f9 false true false false) := by
 refine returnsInHanded_of_change_and (C := Tryz.checked) (X := fun w _ => laidMetH Tryz.prog Rows.monitorBestRow.laid w) (fun _ _ _ hh h => h.of_heap hh) own started (by kernel_rfl) Tryz.func9
  (ChangeSpec.witness_shaped (enc := enc) (C := Tryz.checked) (os := os) (X := fun w _ => laidMetH Tryz.prog Rows.monitorBestRow.laid w) false (World.doorLaid Tryz.prog 600 os) #[.slice none 0 0,.slice none 0 0,iv 0] 8 rfl (World.shaped_of_RefB (by kernel_rfl) (by kernel_rfl)) (by kernel_rfl) (by kernel_rfl) (by kernel_rfl) (door_met os _)) ?_
 intro W base args ds gs before hval0 hW _ _ hL _
 have hval : ∀ (j : Nat) t v,Tryz.f9.params.toList[j]? = some t → args.toList[j]? = some v → Value.okWide Tryz.prog W .any base t v := fun j t v h1 h2 => hval0 j t v (by simpa using h1) (by simpa using h2)
 have hW' := hW
 obtain ⟨p,q,hA0,hV,rfl,hfz,hnd⟩ := hW
 have hA : DataW.TrodAll enc Tryz.prog W 0 (fun _ => true) true Tryz.f9.params.toList args.toList ds p := hA0
 obtain ⟨rfl,rfl⟩ := trodVars_none hV
 have hA2 := hA
 rw [params9_eq] at hA2 hval
 obtain ⟨v0,vs1,d0,ds1,p0,q0,e1,rfl,_,t0,hA3⟩ := ChangeShapes.trodAll_cons hA2
 obtain ⟨v1,vs2,d1,ds2,p1,q1,e2,rfl,_,t1,hA4⟩ := ChangeShapes.trodAll_cons hA3
 obtain ⟨v2,vs3,d2,ds3,p2,q2,e3,rfl,_,t2,hA5⟩ := ChangeShapes.trodAll_cons hA4
 obtain ⟨rfl,rfl,_⟩ := ChangeShapes.trodAll_nil hA5
 subst e3
 subst e2
 obtain ⟨x0,hx0,a0⟩ := v_imp sh9x0 (hval 0 64 v0 rfl (by rw [e1]; rfl)) t0
 obtain ⟨x1,hl1,hx1,a1⟩ := v_impW sh9x1 (hval 1 86 v1 rfl (by rw [e1]; rfl)) t1
 obtain ⟨x2,hx2,a2⟩ := c_imp sh9x2 (hval 2 3 v2 rfl (by rw [e1]; rfl)) t2
 have h0 := lib_of hL
 have hb := base_of hL
 have himp : ImpsOK (cfg W).G (cfg W).GB W [.vec ks9x0 x0,.vec ks9x1 x1,.val (toV ik x2)] args.toList := by
  rw [e1]
  exact ImpsOK.cons (a0 _ _) (ImpsOK.cons (a1 _ _) (ImpsOK.cons (a2 _ _) ⟨rfl,fun j d u h => by simp at h⟩))
 refine (fnD_below (C := cfg W) rfl (law9_all h0 x0 x1 hl1 x2) hb himp).mono fun e' W' ⟨he,hB⟩ => ?_
 subst he
 exact ⟨_,rfl,⟨_,_,_,[],_,[],hW',trodAll_mk1 (shut_bool Tryz.underlying4 true),all_below laidOut hB _ _ _ _ (by kernel_rfl) hA (fun x hx => by simpa using hW'.lt x (by simpa using hx)),rfl,hB.frame _,fun h => by cases h⟩⟩
end Go.Proofs.YtifnpljmjhnbaaaGreatDoor
