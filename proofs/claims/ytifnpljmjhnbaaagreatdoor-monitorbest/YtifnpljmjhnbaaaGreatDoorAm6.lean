/-
 A part of the proof of the statement that the claim names: see the last file.
-/
import Derived.Test.YtifnpljmjhnbaaaGreatDoorAm5
import Derived.Test.YtifnpljmjhnbaaaGreatDoorAm4
namespace Go.Am
noncomputable section
open Go Go.RowKit
variable {C : Cfg}
def sm' (hs : Heap) (up : Nat → Nat) (r : Ren) : Ren := fun b => if (hs.at b).alive = true then r (up b) else none
def seen (dn : Nat → Option Nat) (r r' : Ren) : Ren := fun a => match dn a with
 | some b => r' b
 | none => r a
structure Em (h hs : Heap) (up : Nat → Nat) : Prop where
 al : ∀ b,(hs.at b).alive = true → (h.at (up b)).alive = true
 ow : ∀ b,(hs.at b).owned = true → (h.at (up b)).owned = true
 inj : ∀ b b',(hs.at b).alive = true → (hs.at b').alive = true → up b = up b' → b = b'
 mt : ∀ b,(hs.at b).alive = true → (h.at (up b)).mate = none
 obj : ∀ b,(hs.at b).alive = true → ∀ (r : Ren) (w : World) (t : Tgt),ObjR r w t (h.at (up b)) → ObjR (sm' hs up r) w t (hs.at b)
structure Out (h hs : Heap) (up : Nat → Nat) (h' hs' : Heap) (dn : Nat → Option Nat) : Prop where
 len : h.length ≤ h'.length
 same : ∀ a,dn a = none → (h'.at a).alive = true → h'.at a = h.at a ∧ ∀ b,(hs.at b).alive = true → a ≠ up b
 at_ : ∀ a b,dn a = some b → (hs.at b).alive = true ∧ a = up b ∨ K0 + h.length ≤ a ∧ a < K0 + h'.length
 own : ∀ a b,dn a = some b → (h'.at a).alive = true → (hs'.at b).alive = true ∧ ((h'.at a).owned = true → (hs'.at b).owned = true) ∧ ((hs'.at b).owned = true ∨ (hs.at b).alive = true ∧ a = up b)
 mt : ∀ a b,dn a = some b → (hs'.at b).mate = none
 inj : ∀ a a' b,dn a = some b → dn a' = some b → a = a'
 obj : ∀ a b,dn a = some b → ∀ (r r' : Ren) (w : World) (t : Tgt),ObjR r' w t (hs'.at b) → ObjR (seen dn r r') w t (h'.at a)
theorem CallI.embed {g : FuncId} {argv argvS : List Value} {h hs h' hs' : Heap} {v vS : Value} {up : Nat → Nat} {dn : Nat → Option Nat}
  (E : Em h hs up) (ha : ∀ (r : Ren) (us : List Value),VRs r argv us → VRs (sm' hs up r) argvS us) (hr : CallI C g argvS hs vS hs') (O : Out h hs up h' hs' dn)
  (hv : ∀ (r r' : Ren) (u : Value),VR r' vS u → VR (seen dn r r') v u) : CallI C g argv h v h' := by
 intro F N r w args hF hro H hargs
 have sme : ∀ b t,sm' hs up r b = some t → (hs.at b).alive = true ∧ r (up b) = some t := fun b t hb => by
  unfold sm' at hb
  split at hb
  ·rename_i hal; exact ⟨hal,hb⟩
  ·cases hb
 have smi : ∀ b,(hs.at b).alive = true → sm' hs up r b = r (up b) := fun b hal => if_pos hal
 have own0 : ∀ k,Owned (sm' hs up r) hs k → Owned r h k := fun k ⟨b,t,h1,h2,h3⟩ => ⟨up b,t,E.ow b h1,(sme b t h2).2,h3⟩
 have mine0 : ∀ k,Mine (sm' hs up r) hs k → Mine r h k := fun k ⟨b,t,h1,h2,h3⟩ => ⟨up b,t,E.ow b h1,(sme b t h2).2,h3⟩
 have H0 : HR C.G C.GB (sm' hs up r) hs w := by
  refine ⟨fun b t hb => at_lt (sme b t hb).1,fun b hb => ?_,fun b b' t t' h1 h2 k1 k2 he => ?_,H.glob,H.gb,fun b t h1 h2 => H.own (up b) t (E.ow b h1) (sme b t h2).2,fun b t h1 h2 k hk => ?_⟩
  ·obtain ⟨t,e1,e2,e3⟩ := H.obj (up b) (E.al b hb)
   exact ⟨t,by rw [smi b hb]; exact e1,e2,E.obj b hb r w t e3⟩
  ·obtain ⟨a1,c1⟩ := sme b t k1
   obtain ⟨a2,c2⟩ := sme b' t' k2
   rcases H.exc (up b) (up b') t t' (E.ow b h1) (E.al b' h2) c1 c2 he with e | ⟨e,_⟩
   ·exact .inl (E.inj b b' a1 a2 e)
   ·rw [E.mt b a1] at e; cases e
  ·obtain ⟨x,y⟩ := H.frz (up b) t (E.al b h1) (sme b t h2).2 k hk
   exact ⟨x,fun ho => y (own0 k ho)⟩
 refine CallsIn.mono (hr F N (sm' hs up r) w args hF hro H0 (ha r _ hargs)) fun e w' ⟨u,r',he,S,H',hvu⟩ => ?_
 have sn : ∀ a b,dn a = some b → seen dn r r' a = r' b := fun a b h => by unfold seen; rw [h]
 have s0 : ∀ a,dn a = none → seen dn r r' a = r a := fun a h => by unfold seen; rw [h]
 -- an address of before that is seen stands where it stood
 have old : ∀ b,(hs.at b).alive = true → r' b = r (up b) := fun b hb => by
  obtain ⟨t,e1,_,_⟩ := H0.obj b hb
  rw [S.le b t e1,← smi b hb,e1]
 -- a block of what is not handed in is not one that the call may write
 have apart : ∀ a t,(h.at a).alive = true → (∀ b,(hs.at b).alive = true → a ≠ up b) → r a = some t → ¬ Owned (sm' hs up r) hs t.blk := fun a t hal hne hra ⟨b,tb,h1,h2,h3⟩ => by
  obtain ⟨c1,c2⟩ := sme b tb h2
  rcases H.exc (up b) a tb t (E.ow b h1) hal c2 hra h3 with e | ⟨e,_⟩
  ·exact hne b c1 e.symm
  ·rw [E.mt b c1] at e; cases e
 have keepA : ∀ a t,(h.at a).alive = true → (∀ b,(hs.at b).alive = true → a ≠ up b) → r a = some t → w'.heap[t.blk]? = w.heap[t.blk]? := fun a t hal hne hra => by
  obtain ⟨t',e1,e2,_⟩ := H.obj a hal
  rw [hra] at e1; cases e1
  exact S.keep _ e2 (apart a t hal hne hra)
 have ownF : ∀ k,k < w.heap.size → Owned (seen dn r r') h' k → Owned r h k := fun k hk ⟨a,t,h1,h2,h3⟩ => by
  cases hd : dn a with
  | none =>
    obtain ⟨e,_⟩ := O.same a hd (AObj.alive_of_owned h1)
    rw [s0 a hd] at h2
    exact ⟨a,t,by rw [← e]; exact h1,h2,h3⟩
  | some b =>
    rw [sn a b hd] at h2
    obtain ⟨_,o2,_⟩ := O.own a b hd (AObj.alive_of_owned h1)
    exact own0 k (S.own k hk ⟨b,t,o2 h1,h2,h3⟩)
 have mineF : ∀ k,k < w.heap.size → Mine (seen dn r r') h' k → Mine r h k := fun k hk ⟨a,t,h1,h2,h3⟩ => by
  cases hd : dn a with
  | none =>
    obtain ⟨e,_⟩ := O.same a hd (AObj.alive_of_owned h1)
    rw [s0 a hd] at h2
    exact ⟨a,t,by rw [← e]; exact h1,h2,h3⟩
  | some b =>
    rw [sn a b hd] at h2
    obtain ⟨_,o2,_⟩ := O.own a b hd (AObj.alive_of_owned h1)
    exact mine0 k (S.mine k hk ⟨b,t,o2 h1,h2,h3⟩)
 refine ⟨u,seen dn r r',he,⟨fun a t hra => ?_,S.os,S.tape,S.output,S.size,fun k hk ho => S.keep k hk fun h0 => ho (own0 k h0),ownF,O.len,fun a t hra => ?_,mineF⟩,?_,hv r r' u hvu⟩
 ·cases hd : dn a with
  | none => rw [s0 a hd]; exact hra
  | some b =>
    rw [sn a b hd]
    rcases O.at_ a b hd with ⟨hb,rfl⟩ | ⟨hb,_⟩
    ·rw [old b hb]; exact hra
    ·have := (H.dom a t hra).2; omega
 ·cases hd : dn a with
  | none => rw [s0 a hd] at hra; exact .inl hra
  | some b =>
    rw [sn a b hd] at hra
    rcases O.at_ a b hd with ⟨hb,rfl⟩ | ⟨hb,_⟩
    ·rw [old b hb] at hra; exact .inl hra
    ·exact .inr hb
 ·refine ⟨fun a t hra => ?_,fun a hal => ?_,fun a a' t t' h1 h2 k1 k2 he => ?_,H'.glob,H'.gb,fun a t h1 h2 => ?_,fun a t h1 h2 k hk => ?_⟩
  ·cases hd : dn a with
   | none =>
     rw [s0 a hd] at hra
     have := H.dom a t hra
     have := O.len
     omega
   | some b =>
     rw [sn a b hd] at hra
     rcases O.at_ a b hd with ⟨hb,rfl⟩ | ⟨hb,hb2⟩
     ·rw [old b hb] at hra
      have := H.dom _ t hra
      have := O.len
      omega
     ·omega
  ·cases hd : dn a with
   | none =>
     obtain ⟨e,hne⟩ := O.same a hd hal
     rw [e] at hal
     obtain ⟨t,e1,e2,e3⟩ := H.obj a hal
     refine ⟨t,by rw [s0 a hd]; exact e1,Nat.lt_of_lt_of_le e2 S.size,?_⟩
     rw [e]
     refine ObjR.of_block (fun a' t' ha' => ?_) (keepA a t hal hne e1) (fun k hk => S.keep k (H.frz a t hal e1 k hk).1 fun ho => (H.frz a t hal e1 k hk).2 (own0 k ho)) e3
     cases hd' : dn a' with
     | none => rw [s0 a' hd']; exact ha'
     | some b' =>
       rw [sn a' b' hd']
       rcases O.at_ a' b' hd' with ⟨hb,rfl⟩ | ⟨hb,_⟩
       ·rw [old b' hb]; exact ha'
       ·have := (H.dom a' t' ha').2; omega
   | some b =>
     obtain ⟨o1,_,_⟩ := O.own a b hd hal
     obtain ⟨t,e1,e2,e3⟩ := H'.obj b o1
     exact ⟨t,by rw [sn a b hd]; exact e1,e2,O.obj a b hd r r' w' t e3⟩
  ·-- none of ours lies where another one lies
   have cross : ∀ a a' t t' b,dn a = none → dn a' = some b → (h'.at a).alive = true → (h'.at a').alive = true → ((h'.at a).owned = true ∨ (h'.at a').owned = true) → seen dn r r' a = some t → seen dn r r' a' = some t' → t.blk = t'.blk → False := fun a a' t t' b hd hd' l1 l2 hor k1 k2 he => by
    obtain ⟨e,hne⟩ := O.same a hd l1
    rw [s0 a hd] at k1
    rw [sn a' b hd'] at k2
    have l1' := l1
    rw [e] at l1'
    obtain ⟨t2,e1,e2,_⟩ := H.obj a l1'
    rw [k1] at e1; cases e1
    obtain ⟨o1,o2,o3⟩ := O.own a' b hd' l2
    have viaOwned : Owned r' hs' t.blk → False := fun ho => apart a t l1' hne k1 (S.own _ e2 ho)
    rcases o3 with o3 | ⟨o3,rfl⟩
    ·exact viaOwned ⟨b,t',o3,k2,he.symm⟩
    ·rw [old b o3] at k2
     rcases hor with ho | ho
     ·rw [e] at ho
      rcases H.exc a (up b) t t' ho (E.al b o3) k1 k2 he with e | ⟨_,e⟩
      ·exact hne b o3 e
      ·rw [E.mt b o3] at e; cases e
     ·exact viaOwned ⟨b,t',o2 ho,by rw [old b o3]; exact k2,he.symm⟩
   have l1 := AObj.alive_of_owned h1
   cases hd : dn a with
   | none =>
     cases hd' : dn a' with
     | none =>
       obtain ⟨e,_⟩ := O.same a hd l1
       obtain ⟨e',_⟩ := O.same a' hd' h2
       rw [s0 a hd] at k1
       rw [s0 a' hd'] at k2
       rw [e] at h1 ⊢
       rw [e'] at h2 ⊢
       exact H.exc a a' t t' h1 h2 k1 k2 he
     | some b' => exact (cross a a' t t' b' hd hd' l1 h2 (.inl h1) k1 k2 he).elim
   | some b =>
     cases hd' : dn a' with
     | none => exact (cross a' a t' t b hd' hd h2 l1 (.inr h1) k2 k1 he.symm).elim
     | some b' =>
       rw [sn a b hd] at k1
       rw [sn a' b' hd'] at k2
       obtain ⟨_,o2,_⟩ := O.own a b hd l1
       obtain ⟨o1',_,_⟩ := O.own a' b' hd' h2
       rcases H'.exc b b' t t' (o2 h1) o1' k1 k2 he with e | ⟨e,_⟩
       ·subst e
        exact .inl (O.inj a a' b hd hd')
       ·rw [O.mt a b hd] at e; cases e
  ·cases hd : dn a with
   | none =>
     obtain ⟨e,_⟩ := O.same a hd (AObj.alive_of_owned h1)
     rw [s0 a hd] at h2
     exact H.own a t (by rw [← e]; exact h1) h2
   | some b =>
     rw [sn a b hd] at h2
     obtain ⟨_,o2,_⟩ := O.own a b hd (AObj.alive_of_owned h1)
     exact H'.own b t (o2 h1) h2
  ·cases hd : dn a with
   | none =>
     obtain ⟨e,_⟩ := O.same a hd h1
     rw [s0 a hd] at h2
     obtain ⟨x,y⟩ := H.frz a t (by rw [← e]; exact h1) h2 k hk
     exact ⟨Nat.lt_of_lt_of_le x S.size,fun ho => y (ownF k x ho)⟩
   | some b =>
     rw [sn a b hd] at h2
     obtain ⟨o1,o2,o3⟩ := O.own a b hd h1
     obtain ⟨x,y⟩ := H'.frz b t o1 h2 k hk
     refine ⟨x,fun ⟨a2,t2,q1,q2,q3⟩ => ?_⟩
     cases hd2 : dn a2 with
     | some b2 =>
       rw [sn a2 b2 hd2] at q2
       obtain ⟨_,p2,_⟩ := O.own a2 b2 hd2 (AObj.alive_of_owned q1)
       exact y ⟨b2,t2,p2 q1,q2,q3⟩
     | none =>
       have l2 := AObj.alive_of_owned q1
       obtain ⟨e,hne⟩ := O.same a2 hd2 l2
       rw [s0 a2 hd2] at q2
       rw [e] at q1 l2
       obtain ⟨t3,e1,e2,_⟩ := H.obj a2 l2
       rw [q2] at e1; cases e1
       have hOw : Owned r h k := ⟨a2,t2,q1,q2,q3⟩
       rcases o3 with o3 | ⟨o3,rfl⟩
       ·obtain ⟨b0,t0,m1,m2,m3⟩ := S.mine k (by rw [← q3]; exact e2) ⟨b,t,o3,h2,.inr hk⟩
        obtain ⟨c1,c2⟩ := sme b0 t0 m2
        rcases m3 with m3 | m3
        ·exact apart a2 t2 l2 hne q2 (by rw [q3]; exact ⟨b0,t0,m1,m2,m3⟩)
        ·exact (H.frz (up b0) t0 (E.al b0 c1) c2 k m3).2 hOw
       ·rw [old b o3] at h2
        exact (H.frz (up b) t (E.al b o3) h2 k hk).2 hOw
end
end Go.Am
namespace Go.Am
noncomputable section
open Go Go.RowKit
variable {C : Cfg}
theorem q_runK {β : Type} {g : FuncId} {fd : AFn} (ok : CfgOk C) (sp : SpecOK C) (hfd : C.fn g = some fd) {f : Nat} {argv : List Value} {h : Heap} {k : Value → Heap → Option β} {b : β}
  (hq : bodyGo C (none : Option β) (evK C none f) fd argv h k = some b) : ∃ v h',CallI C g argv h v h' ∧ k v h' = some b := by
 have hE : OkE (z := (none : Option β)) (ev C f) (evK C none f) := evK_eq f
 rw [bodyGo_eq hE] at hq
 cases hc : callBody C (ev C f) fd argv h with
 | none => rw [hc] at hq; cases hq
 | some p =>
   obtain ⟨v',h'⟩ := p
   rw [hc] at hq
   exact ⟨v',h',callBody_sound (C := C) ok (ev_sound ok sp f) (g := g) (fd := fd) hfd hc,hq⟩
def memA (b : Nat) : List Nat → Bool
 | [] => false
 | a :: as => Nat.beq b a || memA b as
theorem memA_ok {b : Nat} : ∀ {l : List Nat},memA b l = true → b ∈ l
 | a :: as,h => by
   unfold memA at h
   rw [Bool.or_eq_true,Nat.beq_eq] at h
   rcases h with h | h
   ·rw [h]; simp
   ·exact List.mem_cons_of_mem _ (memA_ok h)
def okP (ad : List Nat) : Value → Bool
 | .pointer (some ⟨b,_,_⟩) => memA b ad
 | .slice (some ⟨b,_,_⟩) _ _ => memA b ad
 | v => scal v
def okA (ad : List Nat) : Value → Bool
 | .func (.func _) xs ys => xs.toList.all (okP ad) && ys.toList.all (okP ad)
 | .agg cs => cs.toList.all scal
 | v => okP ad v
theorem vr_atP {ad : List Nat} {r r' : Ren} (h : ∀ b ∈ ad,r' b = r b) {c u : Value} (hc : okP ad c = true) (hv : VR r c u) : VR r' c u := by
 cases hs : scal c with
 | true =>
   rw [hv.scal_eq hs]
   exact .scal c hs
 | false =>
   cases hv with
   | top => exact .top _
   | xct _ h1 => exact .xct _ h1
   | scal _ h1 => exact .scal _ h1
   | ptr i o t e hk => exact .ptr i o t (by rw [h i (memA_ok hc)]; exact e) hk
   | slice i o n sz cap t e hn hl hz hk hcc => exact .slice i o n sz cap t (by rw [h i (memA_ok hc)]; exact e) hn hl hz hk hcc
   | slice0 a' sz cap hz => exact .slice0 a' sz cap hz
   | vsl b n sz t _ e hk hv hl => exact .vsl b n sz t _ (by rw [h b (memA_ok hc)]; exact e) hk hv hl
   | sub b lo n sz t _ e hk hv => exact .sub b lo n sz t _ (by rw [h b (memA_ok hc)]; exact e) hk hv
   | asl b n sz t _ e hk hv => exact .asl b n sz t _ (by rw [h b (memA_ok hc)]; exact e) hk hv
   | ept b cc i t e hk hi => exact .ept b cc i t (by rw [h b (memA_ok hc)]; exact e) hk hi
   | map i t e => cases hc
   | func f xs xs' ys ys' hx hy h1 h2 =>
     have : scal (.func (.func f) xs ys) = true := hc
     rw [hs] at this; cases this
   | yield i t e => cases hc
   | iface t v v' hvv => cases hc
   | agg xs xs' hx hh => cases hc
   | tup xs xs' hx hh => cases hc
theorem vr_at {ad : List Nat} {r r' : Ren} (h : ∀ b ∈ ad,r' b = r b) {c u : Value} (hc : okA ad c = true) (hv : VR r c u) : VR r' c u := by
 unfold okA at hc
 split at hc
 ·rename_i f xs ys
  rw [Bool.and_eq_true,List.all_eq_true,List.all_eq_true] at hc
  cases hv with
  | scal _ h1 => exact .scal _ h1
  | func _ _ xs' _ ys' hx hy h1 h2 =>
    exact .func f xs xs' ys ys' hx hy (fun j a b => vr_atP h (hc.1 _ (by simp)) (h1 j a b)) (fun j a b => vr_atP h (hc.2 _ (by simp)) (h2 j a b))
 ·rename_i cs
  have hp : plain (.agg cs) = true := hc
  rw [hv.plain_eq hp]
  exact plain_refl r' hp
 ·exact vr_atP h hc hv
theorem vr_asl {r r' : Ren} {a b n sz : Nat} {u : Value} (h : r' b = r a) (hb : K0 ≤ b) (hv : VR r (.slice (some ⟨a,1,some 0⟩) n sz) u) : VR r' (.slice (some ⟨b,1,some 0⟩) n sz) u := by
 cases hv with
 | scal _ h1 => cases h1
 | asl _ _ _ t _ e hk hv => exact .asl b n sz t _ (by rw [h]; exact e) hb hv
theorem objR_row {r r' : Ren} {w : World} {t : Tgt} {cells cells' : List Value} {own : Bool} {m m' : Option Nat} (h : ObjR r w t (.row cells own m)) (hl : cells'.length = cells.length)
  (hc : ∀ (j : Nat) (c' : Value),cells'[j]? = some c' → ∃ c,cells[j]? = some c ∧ ∀ u,VR r c u → VR r' c' u) : ObjR r' w t (.row cells' own m') := by
 obtain ⟨h1,h2,h3⟩ := h
 refine ⟨by rw [hl]; exact h1,fun j c' hj => ?_,h3⟩
 obtain ⟨c,hcj,hcv⟩ := hc j c' hj
 obtain ⟨u,e1,e2⟩ := h2 j c hcj
 exact ⟨u,e1,hcv u e2⟩
theorem objR_same {ad : List Nat} {r r' : Ren} {w : World} {t : Tgt} {cells : List Value} {own : Bool} {m : Option Nat} (h : ∀ b ∈ ad,r' b = r b) (hc : cells.all (okA ad) = true) (ho : ObjR r w t (.row cells own m)) : ObjR r' w t (.row cells own m) := by
 rw [List.all_eq_true] at hc
 exact objR_row ho rfl fun j c hj => ⟨c,hj,fun u hu => vr_at h (hc c (List.mem_of_getElem? hj)) hu⟩
theorem vrs_at {ad : List Nat} {r r' : Ren} (h : ∀ b ∈ ad,r' b = r b) {cs us : List Value} (hc : cs.all (okA ad) = true) (hv : VRs r cs us) : VRs r' cs us := by
 rw [List.all_eq_true] at hc
 exact ⟨hv.1,fun j x hj => let ⟨u,e1,e2⟩ := hv.2 j x hj; ⟨u,e1,vr_at h (hc x (List.mem_of_getElem? hj)) e2⟩⟩
end
end Go.Am
namespace Go.Am
noncomputable section
open Go Go.RowKit
variable {C : Cfg}
def rdS1 : List (Nat × Cv) → List Value → Heap → Option (List D × Heap)
 | [],_,h => some ([],h)
 | (i,c) :: rs,tmps,h => match rdC c h (tmps.getD (tmI i) undef) with
   | some (d,h') => match rdS1 rs tmps h' with
     | some (ds,h'') => some (d :: ds,h'')
     | none => none
   | none => none
theorem rdS1_ok {w : World} {r : Ren} : ∀ (rs : List (Nat × Cv)) (tmps us : List Value) (h : Heap) (ds : List D) (h' : Heap),rdS1 rs tmps h = some (ds,h') → HR C.G C.GB r h w → us.length = rs.length →
  (∀ (p : Nat) (ic : Nat × Cv),rs[p]? = some ic → ∃ u,us[p]? = some u ∧ VR r (tmps.getD (tmI ic.1) undef) u) → HR C.G C.GB r h' w ∧ Less h' h ∧ InsOK C.G C.GB w r h h' ds us
 | [],tmps,us,h,ds,h',hd,H,hl,hv => by
   simp only [rdS1,Option.some.injEq,Prod.mk.injEq] at hd
   obtain ⟨rfl,rfl⟩ := hd
   have : us = [] := List.length_eq_zero_iff.1 hl
   subst this
   exact ⟨H,.refl _,fun h0 r0 H0 A => ⟨r0,.refl _,by simpa [imps] using H0,by simpa [imps] using VRs.nil r0,by simpa [imps] using A,by simpa [imps] using Cov.refl r0 h0 r h,by simpa [imps] using Own2.refl r0 h0 r h⟩⟩
 | (i,c) :: rs,tmps,us,h,ds,h',hd,H,hl,hv => by
   simp only [rdS1] at hd
   cases h1 : rdC c h (tmps.getD (tmI i) undef) with
   | none => rw [h1] at hd; cases hd
   | some x =>
     obtain ⟨d,hh⟩ := x
     simp only [h1] at hd
     cases h2 : rdS1 rs tmps hh with
     | none => rw [h2] at hd; cases hd
     | some y =>
       obtain ⟨ds',hh'⟩ := y
       simp only [h2,Option.some.injEq,Prod.mk.injEq] at hd
       obtain ⟨rfl,rfl⟩ := hd
       obtain ⟨u,hu,hvu⟩ := hv 0 (i,c) rfl
       obtain ⟨H1,L1,o1⟩ := rdC_ok h1 H hvu
       cases us with
       | nil => simp at hl
       | cons u0 us =>
         simp only [List.getElem?_cons_zero,Option.some.injEq] at hu
         subst hu
         obtain ⟨H2,L2,o2⟩ := rdS1_ok rs tmps us hh ds' hh' h2 H1 (by simpa using hl) (fun p ic hp => by simpa using hv (p + 1) ic (by simpa using hp))
         refine ⟨H2,L2.trans L1,fun h0 r0 H0 A => ?_⟩
         obtain ⟨r1,le1,K1,v1,A1,c1,w1⟩ := o1 h0 r0 H0 A
         obtain ⟨r2,le2,K2,v2,A2,c2,w2⟩ := o2 _ r1 K1 A1
         exact ⟨r2,le1.trans le2,by simpa [imps] using K2,by simpa [imps] using VRs.cons (v1.mono le2) v2,by simpa [imps] using A2,by simpa [imps] using c1.trans (c2.less L1),by simpa [imps] using w1.trans w2 L1⟩
theorem HR.rest {r r1 r2 : Ren} {h hs h2 : Heap} {w w' : World} (H : HR C.G C.GB r h w) (A : Ap r1 hs r h) (S : StepF r1 hs w r2 h2 w') (hgl : ∀ k,k < C.GB → ¬ Owned r1 hs k) :
  HR C.G C.GB r h w' ∧ Apart r h r2 h2 := by
 have keepA : ∀ b t,(h.at b).alive = true → r b = some t → w'.heap[t.blk]? = w.heap[t.blk]? := fun b t hb hr => by
  obtain ⟨t',hr',hlt,_⟩ := H.obj b hb
  rw [hr] at hr'; cases hr'
  exact S.keep _ hlt (A.2 b t hb hr).1
 have keepB : ∀ b t,(h.at b).alive = true → r b = some t → ∀ k,t.inn k → w'.heap[k]? = w.heap[k]? := fun b t hb hr k hi => S.keep _ (H.frz b t hb hr k hi).1 ((A.2 b t hb hr).2 k hi)
 refine ⟨⟨H.dom,fun b hb => ?_,H.exc,H.glob_keep fun k hk => S.keep k (by have := H.gb; omega) (hgl k hk),by have := H.gb; have := S.size; omega,H.own,fun b t hb hr k hk => let ⟨x,y⟩ := H.frz b t hb hr k hk; ⟨Nat.lt_of_lt_of_le x S.size,y⟩⟩,fun b t hb hr => ?_⟩
 ·obtain ⟨t,a,c,e⟩ := H.obj b hb
  exact ⟨t,a,Nat.lt_of_lt_of_le c S.size,ObjR.of_block (.refl _) (keepA b t hb a) (keepB b t hb a) e⟩
 ·obtain ⟨t',hr',hlt,_⟩ := H.obj b hb
  rw [hr] at hr'; cases hr'
  refine ⟨fun ho => (A.2 b t hb hr).1 (S.own _ hlt ho),fun hw ho => ?_,fun k hk ho => (A.2 b t hb hr).2 k hk (S.own _ (H.frz b t hb hr k hk).1 ho)⟩
  obtain ⟨c,tc,c1,c2,c3⟩ := S.mine _ hlt ho
  obtain ⟨x,y⟩ := A.1 c tc (AObj.alive_of_owned c1) c2
  rcases c3 with e | e
  ·exact x ⟨b,t,hw,hr,e.symm⟩
  ·exact y _ e ⟨b,t,hw,hr,rfl⟩
theorem SR.lay {base : Nat} {r r1 : Ren} {s : St} {a : Act} {w : World} (H : SR C.G C.GB base r s a w) {rs : List Nat} {vs : List Value} {h1 : Heap} {N : Nat} (hN : s.tmps.length = N) (hall : (rs.all fun i => alOk s.tmps i) = true)
  (K1 : HR C.G C.GB r1 h1 w) (v1 : VRs r1 vs (rs.map fun i => a.tmps.getD (tmI i) undef)) : SR C.G C.GB base r1 ⟨mkS N rs vs,h1⟩ a w := by
 have hget : ∀ i,VR r (s.tmps.getD i undef) (a.tmps.getD i undef) := fun i => by
  have := H.ev (.tmp i)
  simp only [St.ev,nthR_eq,Act.eval] at this
  simpa [Array.getD_eq_getD_getElem?] using this
 refine ⟨by rw [H.size,hN]; simp [mkS],fun j v hj => ?_,K1,H.marks⟩
 simp only [mkS,List.getElem?_map] at hj
 cases hr : (List.range N)[j]? with
 | none => simp [hr] at hj
 | some j' =>
   have hjN : j < N := by
    have := (List.getElem?_eq_some_iff.1 hr).1
    simpa using this
   rw [List.getElem?_range hjN] at hr
   cases hr
   rw [List.getElem?_range hjN] at hj
   simp only [Option.map_some,Option.some.injEq] at hj
   have hja : j < a.tmps.size := by rw [H.size,hN]; exact hjN
   split at hj
   ·rename_i x hx
    subst hj
    obtain ⟨p,q,y,h1,h2,h3⟩ := atS_get _ _ _ _ hx
    obtain ⟨u,hu,hvu⟩ := v1.2 p y h2
    simp only [List.getElem?_map,h1,Option.map_some,Option.some.injEq] at hu
    rcases h3 with ⟨e1,rfl⟩ | ⟨e1,e2,rfl⟩
    ·subst e1
     refine ⟨u,?_,hvu⟩
     rw [← hu]
     simp [Array.getD_eq_getD_getElem?,hja]
    ·have ha := List.all_eq_true.1 hall _ (List.mem_of_getElem? h1)
     unfold alOk at ha
     simp only [e1] at ha
     have ei : q / 1000000 - 1 = j := by omega
     have em : tmI q = q % 1000000 := by unfold tmI; rw [e1]
     rw [em] at hu
     rw [ei] at ha
     have hne : capV (s.tmps.getD (q % 1000000) undef) ≠ unk := fun e => by rw [e] at ha; cases ha
     have hg := hget j
     rw [show a.tmps.getD j undef = a.tmps[j] by simp [Array.getD_eq_getD_getElem?,hja]] at hg
     refine ⟨a.tmps[j],by simp [hja],?_⟩
     rcases capV_vr (hu ▸ hget (q % 1000000)) hvu hne with e | ⟨z,z1,z2⟩
     ·rw [e]; exact .top _
     ·rw [← sameP_vr ha z1 hg]; exact z2
   ·subst hj
    exact ⟨a.tmps[j],by simp [hja],.top _⟩
structure HkX (ks kw : List Kd) where
 vi : Value
 vn : Value
 l : List (Tup ks)
 ws : List (Tup kw)
 c : Value
section hook
variable {ks kw : List Kd}
theorem shS_len : ∀ (rs : List (Nat × Cv)) (tmps : List Value) (h : Heap),(shS rs tmps h).length = h.length
 | [],_,_ => rfl
 | (i,c) :: rs,tmps,h => by
   unfold shS
   split
   ·rw [shS_len rs]
    unfold shV
    split
    ·split
     ·exact put_length ..
     ·rfl
    ·rfl
   ·exact shS_len rs tmps h
end hook
end
end Go.Am
namespace Go.Am
noncomputable section
open Go Go.RowKit
variable {C : Cfg}
structure HsX (ka kb kc : List Kd) where
 j : Value
 a : List (Tup ka)
 b : List (Tup kb)
 s : Value
 c : List (Tup kc)
 x : Value
 y : Value
 z : Value
section hook
variable {ka kb kc : List Kd}
def stS (X : HsX ka kb kc) : List D := [.val X.j,.vec ka X.a,.vec kb X.b,.val X.s,.ovec kc X.c,.val X.x,.val X.y,.val X.z]
def vsS (X : HsX ka kb kc) : List Value := [X.j,.slice (some ⟨K0,0,some 0⟩) X.a.length ka.length,.slice (some ⟨K0 + 1,0,some 0⟩) X.b.length kb.length,X.s,.slice (some ⟨K0 + 2,1,some 0⟩) X.c.length kc.length,X.x,X.y,X.z]
def hsS (X : HsX ka kb kc) : Heap := [.vec ka X.a false,.vec kb X.b false,.vec kc X.c true]
theorem imps_S (X : HsX ka kb kc) : imps false (stS X) [] = (vsS X,hsS X) := by
 simp [stS,vsS,hsS,imps,imp]
def relS (T : Nat × Nat × Nat × Nat × Nat × Nat × Nat × Nat) : List (Nat × Cv) :=
 [(T.1,.id),(T.2.1,.id),(T.2.2.1,.id),(T.2.2.2.1,.id),(T.2.2.2.2.1,.id),(T.2.2.2.2.2.1,.id),(T.2.2.2.2.2.2.1,.id),(T.2.2.2.2.2.2.2,.id)]
def outS (T : Nat × Nat × Nat × Nat × Nat × Nat × Nat × Nat) : List Nat := [T.2.2.2.2.1,T.2.2.2.2.2.1,T.2.2.2.2.2.2.1,T.2.2.2.2.2.2.2]
def hsF (N : Nat) (T : Nat × Nat × Nat × Nat × Nat × Nat × Nat × Nat) (fr : List Nat) (told : HsX ka kb kc → FT (Value × Value × Value × Value)) : St → FT (X × St) := fun s =>
 match Nat.beq s.tmps.length N,rdS1 (relS T) s.tmps (shS (fr.map fun j => (j,.sv [])) s.tmps s.heap) with
 | true,some ([.val j,.vec ka' a,.vec kb' b,.val sl,.ovec kc' c,.val x,.val y,.val z],h) => match recast ka' ka a,recast kb' kb b,recast kc' kc c with
   | some a,some b,some c => (told ⟨j,a,b,sl,c,x,y,z⟩).map fun Y => (.normal,⟨(List.range N).map fun i => match atS (outS T) [.slice (some ⟨K0 + lenR h,1,some 0⟩) c.length kc.length,Y.2.1,Y.2.2.1,Y.2.2.2] i with
         | some v => v
         | none => unk,h ++ [.vec kc c true]⟩)
   | _,_,_ => .bad
 | _,_ => .bad
theorem hs_ok {b : Code} {id N : Nat} {T : Nat × Nat × Nat × Nat × Nat × Nat × Nat × Nat} {fr : List Nat} {told : HsX ka kb kc → FT (Value × Value × Value × Value)} (hinr : C.inr = true) (hid : Nat.ble 100000 id = false)
  (hpl : (((relS T).map (·.1)).all fun r => Nat.blt r 1000000) = true) (hnd : (relS T).map (·.1) |>.Nodup) (hne : ∀ X y,(told X).run = some y → 0 < X.c.length) (hsc : ∀ X y,(told X).run = some y → (scal y.2.1 && (scal y.2.2.1 && scal y.2.2.2)) = true)
  (hT : ∀ X y,(told X).run = some y → LdT C (ldP id N (relS T) .normal (stS { X with j := y.1,x := y.2.1,y := y.2.2.1,z := y.2.2.2 })) b (stS X)) :
  ∀ (s : St) (x : X) (s' : St),(hsF N T fr told s).run = some (x,s') → ∀ (Fc : Fence) (n base : Nat) (r : Ren) (a : Act) (w : World) (Q : Exit → Act → World → Prop),Wide Fc → SR C.G C.GB base r s a w → base ≤ w.heap.size →
   (∀ r' a' w',Step r s.heap w r' s'.heap w' → SR C.G C.GB base r' s' a' w' → Q x.toExit a' w') → (Code.block id b).wpIn Fc n C.P Q a w := by
 intro s x s' hrun Fc n base r a w Q hF H hb hQ
 unfold hsF at hrun
 split at hrun
 case h_2 => cases hrun
 rename_i j ka' la kb' lb sl kc' lc vx vy vz h hN hrd
 split at hrun
 case h_2 => cases hrun
 rename_i la1 lb1 lc1 hra hrb hrc
 obtain ⟨y,hy,hrun2⟩ := FT.map_run _ _ hrun
 obtain ⟨e1,e2⟩ := recast_eq hra
 obtain ⟨e3,e4⟩ := recast_eq hrb
 obtain ⟨e5,e6⟩ := recast_eq hrc
 subst e1 e3 e5
 have e2 : la1 = la := e2
 have e4 : lb1 = lb := e4
 have e6 : lc1 = lc := e6
 subst e2 e4 e6
 obtain ⟨rfl,rfl⟩ := Prod.mk.inj hrun2
 rw [Nat.beq_eq] at hN
 have hplr : ∀ i,Nat.blt i 1000000 = true → alOk s.tmps i = true := fun i hi => by unfold alOk; rw [hi]
 have hget : ∀ i,VR r (s.tmps.getD i undef) (a.tmps.getD i undef) := fun i => by
  have := H.ev (.tmp i)
  simp only [St.ev,nthR_eq,Act.eval] at this
  simpa [Array.getD_eq_getD_getElem?] using this
 obtain ⟨Hsh,hsh⟩ := HR.shS (fr.map fun j => (j,Cv.sv [])) s.tmps H.heap
 have hshl := shS_len (fr.map fun j => (j,Cv.sv [])) s.tmps s.heap
 generalize shS (fr.map fun j => (j,Cv.sv [])) s.tmps s.heap = hp at hrd Hsh hsh hshl
 have hlenh : h.length = hp.length := by
  have gen : ∀ (rs : List (Nat × Cv)) (h : Heap) (ds : List D) (h' : Heap),(∀ ic ∈ rs,ic.2 = .id) → rdS1 rs s.tmps h = some (ds,h') → h'.length = h.length := by
   intro rs
   induction rs with
   | nil => intro h ds h' _ hd; simp only [rdS1,Option.some.injEq,Prod.mk.injEq] at hd; rw [hd.2]
   | cons ic rs ih =>
     obtain ⟨i,c⟩ := ic
     intro h ds h' hc hd
     simp only [rdS1] at hd
     cases h1 : rdC c h (s.tmps.getD (tmI i) undef) with
     | none => rw [h1] at hd; cases hd
     | some x =>
       obtain ⟨d,hh⟩ := x
       simp only [h1] at hd
       cases h2 : rdS1 rs s.tmps hh with
       | none => rw [h2] at hd; cases hd
       | some z =>
         obtain ⟨ds',hh'⟩ := z
         simp only [h2,Option.some.injEq,Prod.mk.injEq] at hd
         obtain ⟨_,rfl⟩ := hd
         have hc0 : c = .id := hc (i,c) (by simp)
         subst hc0
         rw [ih hh ds' hh' (fun ic hic => hc ic (by simp [hic])) h2]
         exact rdM_len _ _ _ _ _ h1
  exact gen _ _ _ _ (fun ic hic => by
   simp only [relS,List.mem_cons,List.not_mem_nil,or_false] at hic
   rcases hic with rfl | rfl | rfl | rfl | rfl | rfl | rfl | rfl <;> rfl) hrd
 obtain ⟨Hh,L,ins⟩ := rdS1_ok (relS T) s.tmps ((relS T).map fun ic => a.tmps.getD (tmI ic.1) undef) hp _ h hrd Hsh (by simp) (fun p ic hp => ⟨_,by simp [hp],hget _⟩)
 have he := H.heap.basis.empty
 obtain ⟨r1,_,K1,v1,A1,_,w1⟩ := ins [] _ he ⟨fun b t hb => (by rw [at_nil] at hb; cases hb),fun b t _ _ => ⟨fun ho => (by obtain ⟨c,tc,_,c2,_⟩ := ho; cases c2),fun _ _ ho => (by obtain ⟨c,tc,_,c2,_⟩ := ho; cases c2)⟩⟩
 generalize hx0 : (⟨j,la1,lb1,sl,lc1,vx,vy,vz⟩ : HsX ka' kb' kc') = X0 at hy
 have hst : [D.val j,.vec ka' la1,.vec kb' lb1,.val sl,.ovec kc' lc1,.val vx,.val vy,.val vz] = stS X0 := by rw [← hx0]; rfl
 rw [hst,imps_S] at K1 v1 A1 w1
 simp only at K1 v1 A1 w1
 have mine1 : ∀ k,Mine r1 (hsS X0) k → Mine r s.heap k := fun k hk => by
  rcases w1.2 k hk with ⟨c,tc,_,c2,_⟩ | h3
  ·cases c2
  ·exact hsh.2 k h3
 have own1 : ∀ k,Owned r1 (hsS X0) k → Owned r s.heap k := fun k hk => by
  rcases w1.1 k hk with ⟨c,tc,_,c2,_⟩ | h3
  ·cases c2
  ·exact hsh.1 k h3
 have hall : ((relS T).map (·.1)).all (fun i => alOk s.tmps i) = true := List.all_eq_true.2 fun i hi => hplr i (List.all_eq_true.1 hpl i hi)
 have hvs : VRs r1 (vsS X0) (((relS T).map (·.1)).map fun i => a.tmps.getD (tmI i) undef) := by
  rw [List.map_map]
  exact v1
 have S1 := SR.lay (rs := (relS T).map (·.1)) H hN hall K1 hvs
 generalize hx1 : ({ X0 with j := y.1,x := y.2.1,y := y.2.2.1,z := y.2.2.2 } : HsX ka' kb' kc') = X1
 have hld : ∀ z : HsX ka' kb' kc',ldS N ((relS T).map (·.1)) (stS z) = ⟨mkS N ((relS T).map (·.1)) (vsS z),hsS z⟩ := fun z => by
  unfold ldS
  rw [imps_S]
 rw [← hld X0] at S1
 have hwc : wholeC (ldP id N (relS T) .normal (stS X1)) b = .block id b := by
  unfold wholeC
  rw [show (ldP id N (relS T) .normal (stS X1)).id = id from rfl,hid]
 rw [← hwc]
 have hT0 := hT X0 y hy
 rw [hx1] at hT0
 refine hT0 .normal (stS X1) rfl Fc n base r1 a w Q hF (fun h => by rw [hinr] at h; cases h) S1 hb fun r' a' w' S SR' => ?_
 have S : StepF r1 (hsS X0) w r' (hsS X1) w' := by
  have e1 := congrArg St.heap (hld X0)
  have e2 := congrArg St.heap (hld X1)
  simp only at e1 e2
  rw [← e1,← e2]
  exact S
 have SR' : SR C.G C.GB base r' ⟨mkS N ((relS T).map (·.1)) (vsS X1),hsS X1⟩ a' w' := by
  rw [← hld X1]; exact SR'
 obtain ⟨Hr,ap⟩ := Hh.rest A1 S (fun k hk ho => by
  obtain ⟨b,t,hb,hr,rfl⟩ := own1 k ho
  have := H.heap.own b t hb hr
  omega)
 have H2 : HR C.G C.GB r' (hsS X1) w' := SR'.heap
 have hsy := hsc X0 y hy
 simp only [Bool.and_eq_true] at hsy
 obtain ⟨s1,s2,s3⟩ := hsy
 have hc1 : X1.c = lc1 := by rw [← hx1,← hx0]
 have hcp : 0 < lc1.length := by
  have := hne X0 y hy
  rw [← hx0] at this
  exact this
 have at2 : (hsS X1).at (K0 + 2) = .vec kc' lc1 true := by rw [← hc1]; rfl
 obtain ⟨tC,hrC,hltC,hobC⟩ := H2.obj (K0 + 2) (by rw [at2]; rfl)
 have hown : ((hsS X1).at (K0 + 2)).owned = true := by
  rw [at2]
  show (true && Nat.blt 0 lc1.length) = true
  rw [Bool.true_and,Nat.blt_eq]; exact hcp
 have hOw : Owned r' (hsS X1) tC.blk := ⟨K0 + 2,tC,hown,hrC,rfl⟩
 have hMi : ∀ k,tC.inn k → Mine r' (hsS X1) k := fun k hk => ⟨K0 + 2,tC,hown,hrC,.inr hk⟩
 rw [at2] at hobC
 have hfz := H2.frz (K0 + 2) tC (by rw [at2]; rfl) hrC
 have HB := Hr.newOwn (.vec kc' lc1 true) tC hltC (fun b t' hal hr' => let ⟨x,_,z⟩ := ap b t' hal hr'; ⟨fun e => x (e ▸ hOw),fun k hk e => z k hk (e ▸ hOw)⟩) (H2.own _ _ hown hrC) hobC
  (fun k hk => ⟨(hfz k hk).1,fun ⟨b,t,hb,hr,e⟩ => (ap b t (AObj.alive_of_owned hb) hr).2.1 hb (e ▸ hMi k hk),fun e => (hfz k hk).2 (e ▸ hOw)⟩)
 have le1 : Ren.le r (r.put (K0 + h.length) tC) := Ren.le_put Hr tC
 simp only [lenR_eq] at hQ
 refine hQ (r.put (K0 + h.length) tC) a' w' ⟨le1,S.os,S.tape,S.output,S.size,fun k hk ho => S.keep k hk fun h => ho (own1 k h),fun k hk ho => (own_snoc ho).elim (fun h => hsh.1 k (L.owned h)) fun h => own1 k (S.own k hk (h.2 ▸ hOw)),by simp; omega,fun b t hb => ?_,fun k hk ho => ?_⟩ ⟨?_,fun i v hj => ?_,HB,SR'.marks⟩
 ·by_cases e : b = K0 + h.length
  ·right; omega
  ·rw [Ren.put_other _ _ e] at hb; exact .inl hb
 ·exact (mine_snoc ho).elim (fun h => hsh.2 k (L.mine h)) fun h => h.2.elim (fun e => (own1 k (S.own k hk (e ▸ hOw))).mine) fun hi => mine1 k (S.mine k hk (hMi k hi))
 ·rw [SR'.size]; simp [mkS]
 ·simp only [List.getElem?_map] at hj
  cases hr0 : (List.range N)[i]? with
  | none => simp [hr0] at hj
  | some j' =>
    have hjN : i < N := by
     have := (List.getElem?_eq_some_iff.1 hr0).1
     simpa using this
    rw [List.getElem?_range hjN] at hr0
    cases hr0
    rw [List.getElem?_range hjN] at hj
    simp only [Option.map_some,Option.some.injEq] at hj
    have small : ∀ v,atS ((relS T).map (·.1)) (vsS X1) i = some v → ∃ u,a'.tmps[i]? = some u ∧ VR r' v u := fun v hv => by
     refine SR'.tmps i v ?_
     simp only [mkS,List.getElem?_map,List.getElem?_range hjN,Option.map_some,hv]
    have hja : i < a'.tmps.size := by rw [SR'.size]; simp [mkS]; exact hjN
    have hX1 : X1.x = y.2.1 ∧ X1.y = y.2.2.1 ∧ X1.z = y.2.2.2 := by rw [← hx1]; exact ⟨rfl,rfl,rfl⟩
    obtain ⟨t1,t2,t3,t4,t5,t6,t7,t8⟩ := T
    simp only [relS,List.map_cons,List.map_nil,List.all_cons,List.all_nil,Bool.and_eq_true,Bool.and_true] at hpl
    obtain ⟨p1,p2,p3,p4,p5,p6,p7,p8⟩ := hpl
    simp only [relS,List.map_cons,List.map_nil,List.nodup_cons,List.mem_cons,List.not_mem_nil,or_false,not_or,not_false_eq_true,List.nodup_nil,and_true] at hnd
    obtain ⟨q1,q2,q3,q4,q5,q6,q7⟩ := hnd
    have nb : ∀ {p q : Nat},p ≠ q → Nat.beq p q = false := fun {p q} h => by
     cases hb : Nat.beq p q with
     | true => exact absurd (Nat.eq_of_beq_eq_true hb) h
     | false => rfl
    have scl : ∀ z u,scal z = true → VR r' z u → VR (r.put (K0 + h.length) tC) z u := fun z u hz hu => by rw [hu.scal_eq hz]; exact .scal _ hz
    have step : ∀ (v0 : Value) (n : Nat),i = n → atS ((relS (t1,t2,t3,t4,t5,t6,t7,t8)).map (·.1)) (vsS X1) n = some v0 → ∃ u,a'.tmps[i]? = some u ∧ VR r' v0 u := fun v0 n e h => small v0 (by rw [e]; exact h)
    by_cases h5 : i = t5
    ·obtain ⟨u,f1,f2⟩ := step (.slice (some ⟨K0 + 2,1,some 0⟩) X1.c.length kc'.length) t5 h5 (by
      simp only [relS,vsS,List.map_cons,List.map_nil,atS,p1,p2,p3,p4,p5,nb (Ne.symm q1.2.2.2.1),nb (Ne.symm q2.2.2.1),nb (Ne.symm q3.2.1),nb (Ne.symm q4.1),Nat.beq_refl])
     simp only [outS,atS,p5,h5,Nat.beq_refl] at hj
     subst hj
     refine ⟨u,f1,?_⟩
     obtain ⟨t,g1,g2,g3⟩ := f2.as'
     rw [hrC] at g1; cases g1
     rw [hc1] at g3
     exact .asl _ _ _ tC _ (Ren.put_self ..) (by omega) g3
    ·by_cases h6 : i = t6
     ·obtain ⟨u,f1,f2⟩ := step X1.x t6 h6 (by
       simp only [relS,vsS,List.map_cons,List.map_nil,atS,p1,p2,p3,p4,p5,p6,nb (Ne.symm q1.2.2.2.2.1),nb (Ne.symm q2.2.2.2.1),nb (Ne.symm q3.2.2.1),nb (Ne.symm q4.2.1),nb (Ne.symm q5.1),Nat.beq_refl])
      simp only [outS,atS,p5,p6,nb h5,h6,Nat.beq_refl,nb (Ne.symm q5.1)] at hj
      subst hj
      rw [hX1.1] at f2
      exact ⟨u,f1,scl _ _ s1 f2⟩
     ·by_cases h7 : i = t7
      ·obtain ⟨u,f1,f2⟩ := step X1.y t7 h7 (by
        simp only [relS,vsS,List.map_cons,List.map_nil,atS,p1,p2,p3,p4,p5,p6,p7,nb (Ne.symm q1.2.2.2.2.2.1),nb (Ne.symm q2.2.2.2.2.1),nb (Ne.symm q3.2.2.2.1),nb (Ne.symm q4.2.2.1),nb (Ne.symm q5.2.1),nb (Ne.symm q6.1),Nat.beq_refl])
       simp only [outS,atS,p5,p6,p7,h7,Nat.beq_refl,nb (Ne.symm q5.2.1),nb (Ne.symm q6.1)] at hj
       subst hj
       rw [hX1.2.1] at f2
       exact ⟨u,f1,scl _ _ s2 f2⟩
      ·by_cases h8 : i = t8
       ·obtain ⟨u,f1,f2⟩ := step X1.z t8 h8 (by
         simp only [relS,vsS,List.map_cons,List.map_nil,atS,p1,p2,p3,p4,p5,p6,p7,p8,nb (Ne.symm q1.2.2.2.2.2.2),nb (Ne.symm q2.2.2.2.2.2),nb (Ne.symm q3.2.2.2.2),nb (Ne.symm q4.2.2.2),nb (Ne.symm q5.2.2),nb (Ne.symm q6.2),nb (Ne.symm q7),Nat.beq_refl])
        simp only [outS,atS,p5,p6,p7,p8,h8,Nat.beq_refl,nb (Ne.symm q5.2.2),nb (Ne.symm q6.2),nb (Ne.symm q7)] at hj
        subst hj
        rw [hX1.2.2] at f2
        exact ⟨u,f1,scl _ _ s3 f2⟩
       ·simp only [outS,atS,p5,p6,p7,p8,nb h5,nb h6,nb h7,nb h8] at hj
        subst hj
        exact ⟨a'.tmps[i],by simp [hja],.top _⟩
def hookS {b : Code} (id N : Nat) (T : Nat × Nat × Nat × Nat × Nat × Nat × Nat × Nat) (fr : List Nat) (told : HsX ka kb kc → FT (Value × Value × Value × Value)) (hinr : C.inr = true) (hid : Nat.ble 100000 id = false)
  (hpl : (((relS T).map (·.1)).all fun r => Nat.blt r 1000000) = true) (hnd : (relS T).map (·.1) |>.Nodup) (hne : ∀ X y,(told X).run = some y → 0 < X.c.length) (hsc : ∀ X y,(told X).run = some y → (scal y.2.1 && (scal y.2.2.1 && scal y.2.2.2)) = true)
  (hT : ∀ X y,(told X).run = some y → LdT C (ldP id N (relS T) .normal (stS { X with j := y.1,x := y.2.1,y := y.2.2.1,z := y.2.2.2 })) b (stS X)) : Hook C.P C.G C.GB :=
 ⟨id,b,hsF N T fr told,hs_ok hinr hid hpl hnd hne hsc hT⟩
end hook
end
end Go.Am
