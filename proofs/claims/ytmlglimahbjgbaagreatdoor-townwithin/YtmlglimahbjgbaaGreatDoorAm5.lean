/-
 A part of the proof of the statement that the claim names: see the last file.
-/
import Derived.Test.YtmlglimahbjgbaaGreatDoorAm4
namespace Go.Am
noncomputable section
open Go Go.RowKit
def FnM (C : Cfg) (g : FuncId) (ds : List D) (d : D) : Prop :=
 ∀ (w : World) (args : Array Value) (r1 : Ren), HR C.G C.GB r1 (imps false ds []).2 w → VRs r1 (imps false ds []).1 args.toList →
  Calls C.P g args w fun e w' => ∃ u r2 h2 v h3 n, e = .returned u ∧ StepF r1 (imps false ds []).2 w r2 h2 w' ∧ HR C.G C.GB r2 h2 w' ∧ VR r2 v u ∧ rdO n h2 v = some (d, h3)
def FT.map {α β : Type} (f : α → β) : FT α → FT β
 | .bad => .bad
 | .leaf x => .leaf (f x)
 | .br b x y => .br b (x.map f) (y.map f)
theorem FT.map_run {α β : Type} (f : α → β) : ∀ (t : FT α) {y : β}, (t.map f).run = some y → ∃ x, t.run = some x ∧ y = f x
 | .bad, y, h => by cases h
 | .leaf x, y, h => by cases h; exact ⟨x, rfl, rfl⟩
 | .br b s t, y, h => by
   cases b with
   | true => exact FT.map_run f s h
   | false => exact FT.map_run f t h
def mvF (F : List D → FT D) (argv : List Value) (h : Heap) : FT (Value × Heap) :=
 match thr (rdM rdFuel) argv h with
 | some (ds, h') => (F ds).map fun d => imp true d h'
 | none => .bad
variable {C : Cfg}
theorem thr_len {f : Heap → Value → Option (D × Heap)} (hf : ∀ h v d h', f h v = some (d, h') → h'.length = h.length) : ∀ (vs : List Value) (h : Heap) (ds : List D) (h' : Heap), thr f vs h = some (ds, h') → h'.length = h.length
 | [], h, ds, h', hd => by simp only [thr, Option.some.injEq, Prod.mk.injEq] at hd; rw [hd.2]
 | v :: vs, h, ds, h', hd => by
   simp only [thr] at hd
   cases h1 : f h v with
   | none => rw [h1] at hd; cases hd
   | some x =>
     obtain ⟨d, hh⟩ := x
     simp only [h1] at hd
     cases h2 : thr f vs hh with
     | none => rw [h2] at hd; cases hd
     | some y =>
       obtain ⟨ds', hh2⟩ := y
       simp only [h2, Option.some.injEq, Prod.mk.injEq] at hd
       obtain ⟨_, rfl⟩ := hd
       exact (thr_len hf vs hh ds' hh2 h2).trans (hf h v d hh h1)
theorem rdM_len : ∀ (n : Nat) (h : Heap) (v : Value) (d : D) (h' : Heap), rdM n h v = some (d, h') → h'.length = h.length
 | 0, h, v, d, h', hd => by simp [rdM, rdQ] at hd
 | n + 1, h, v, d, h', hd => by
   have ih := thr_len (rdM_len n)
   unfold rdM rdQ at hd
   repeat' split at hd
   all_goals first
    | (cases hd; done)
    | (simp only [Option.some.injEq, Prod.mk.injEq] at hd
       obtain ⟨_, rfl⟩ := hd
       first
        | rfl
        | exact kill_length _ _
        | exact ih _ _ _ _ (by assumption)
        | exact (ih _ _ _ _ (by assumption)).trans ((kill_length _ _).trans (kill_length _ _))
        | (rename_i e1 _ _ _ e2 _; exact (ih _ _ _ _ e2).trans (ih _ _ _ _ e1)))
theorem thr_ok {w : World} {r : Ren} : ∀ (n : Nat) (vs us : List Value) (h : Heap) (ds : List D) (h' : Heap), thr (rdM n) vs h = some (ds, h') → HR C.G C.GB r h w → VRs r vs us → HR C.G C.GB r h' w ∧ Less h' h ∧ InsOK C.G C.GB w r h h' ds us
 | n, [], us, h, ds, h', hd, H, hv => by
   simp only [thr, Option.some.injEq, Prod.mk.injEq] at hd
   obtain ⟨rfl, rfl⟩ := hd
   have : us = [] := List.length_eq_zero_iff.1 hv.1.symm
   subst this
   exact ⟨H, .refl _, fun h0 r0 H0 A => ⟨r0, .refl _, by simpa [imps] using H0, by simpa [imps] using VRs.nil r0, by simpa [imps] using A, by simpa [imps] using Cov.refl r0 h0 r h, fun k hk => .inl (by simpa [imps] using hk)⟩⟩
 | n, v :: vs, us, h, ds, h', hd, H, hv => by
   cases us with
   | nil => simp [VRs] at hv
   | cons u us =>
     simp only [thr] at hd
     cases h1 : rdM n h v with
     | none => rw [h1] at hd; cases hd
     | some x =>
       obtain ⟨d, hh⟩ := x
       simp only [h1] at hd
       cases h2 : thr (rdM n) vs hh with
       | none => rw [h2] at hd; cases hd
       | some y =>
         obtain ⟨ds', hh2⟩ := y
         simp only [h2, Option.some.injEq, Prod.mk.injEq] at hd
         obtain ⟨rfl, rfl⟩ := hd
         obtain ⟨u', hu, hvu⟩ := hv.2 0 v rfl
         simp only [List.getElem?_cons_zero, Option.some.injEq] at hu
         subst hu
         obtain ⟨H1, L1, o1⟩ := rdQ_ok n h v d hh u h1 H hvu
         obtain ⟨H2, L2, o2⟩ := thr_ok n vs us hh ds' hh2 h2 H1 ⟨by have := hv.1; simpa using this, fun j x hj => by simpa using hv.2 (j + 1) x (by simpa using hj)⟩
         refine ⟨H2, L2.trans L1, fun h0 r0 H0 A => ?_⟩
         obtain ⟨r1, le1, K1, v1, A1, c1, w1⟩ := o1 h0 r0 H0 A
         obtain ⟨r2, le2, K2, v2, A2, c2, w2⟩ := o2 _ r1 K1 A1
         refine ⟨r2, le1.trans le2, by simpa [imps] using K2, by simpa [imps] using VRs.cons (v1.mono le2) v2, by simpa [imps] using A2, by simpa [imps] using c1.trans (c2.less L1), fun k hk => ?_⟩
         rcases w2 k (by simpa [imps] using hk) with h3 | h3
         ·exact w1 k h3
         ·exact .inr (L1.owned h3)
theorem callM_sound {F : List D → FT D} {g : FuncId} (hF : ∀ ds d, (F ds).run = some d → FnM C g ds d) {argv : List Value} {h h' : Heap} {v : Value} (hv : (mvF F argv h).run = some (v, h')) : CallI C g argv h v h' := by
 intro Fe n r w args hFe hro H hargs
 unfold mvF at hv
 cases ht : thr (rdM rdFuel) argv h with
 | none => rw [ht] at hv; cases hv
 | some y =>
   obtain ⟨ds, hk⟩ := y
   simp only [ht] at hv
   obtain ⟨d, hd, hvd⟩ := FT.map_run _ _ hv
   obtain ⟨Hk, L, ins⟩ := thr_ok rdFuel argv args.toList h ds hk ht H hargs
   have he := H.basis.empty
   obtain ⟨r1, _, H1, v1, A1, _, w1⟩ := ins [] _ he ⟨fun b t hb => (by rw [at_nil] at hb; cases hb), fun b t _ _ ho => (by obtain ⟨c, tc, _, c2, _⟩ := ho; cases c2)⟩
   have own1 : ∀ k, Owned r1 (imps false ds []).2 k → Owned r h k := fun k hk => by
    rcases w1 k hk with ⟨c, tc, _, c2, _⟩ | h3
    ·cases c2
    ·exact h3
   refine CallsIn.mono (calls_in hFe (hF ds d hd w args r1 H1 v1)) fun e w' ⟨u, r2, h2, v2, h3, m, he, S, H2, hv2, hrd⟩ => ?_
   obtain ⟨_, _, out⟩ := rdO_ok m h2 v2 d h3 u hrd H2 hv2
   have keepA : ∀ b t, (hk.at b).alive = true → r b = some t → w'.heap[t.blk]? = w.heap[t.blk]? := fun b t hb hr => by
    obtain ⟨t', hr', hlt, _⟩ := Hk.obj b hb
    rw [hr] at hr'; cases hr'
    exact S.keep _ hlt (A1.2 b t hb hr)
   have hgl : ∀ k, k < C.GB → w'.heap[k]? = w.heap[k]? := fun k hk' => S.keep k (by have := H.gb; omega) fun ho => by
    obtain ⟨b, t, hb, hr, rfl⟩ := own1 k ho
    have := H.own b t hb hr
    omega
   have Hk' : HR C.G C.GB r hk w' := ⟨Hk.dom, fun b hb => by
    obtain ⟨t, a, c, e⟩ := Hk.obj b hb
    exact ⟨t, a, Nat.lt_of_lt_of_le c S.size, ObjR.of_block (.refl _) (keepA b t hb a) e⟩, Hk.exc, Hk.glob_keep hgl, by have := Hk.gb; have := S.size; omega, Hk.own⟩
   have ap : Apart r hk r2 h2 := fun b t hb hr ho => by
    obtain ⟨t', hr', hlt, _⟩ := Hk.obj b hb
    rw [hr] at hr'; cases hr'
    exact A1.2 b t hb hr (S.own _ hlt ho)
   obtain ⟨r3, le, H3, v3, N, l1, l2⟩ := out hk r Hk' ap
   have e1 : (imp true d hk).1 = v := by rw [← hvd]
   have e2 : (imp true d hk).2 = h' := by rw [← hvd]
   rw [e2] at H3 N l1
   rw [e1] at v3
   have hlen := thr_len (rdM_len rdFuel) _ _ _ _ ht
   refine ⟨u, r3, he, ⟨le, S.os, S.tape, S.output, S.size, fun k hk2 ho => S.keep k hk2 fun h => ho (own1 k h), fun k hk2 ho => ?_, by omega, fun b t hb => ?_⟩, H3, v3⟩
   ·obtain ⟨b, t, hb, hr, rfl⟩ := ho
    rcases N b t (AObj.alive_of_owned hb) hr with ⟨a, e, c⟩ | ⟨a, _⟩ | a
    ·exact L.owned ⟨b, t, by rw [e]; exact hb, c, rfl⟩
    ·exact own1 _ (S.own _ hk2 a)
    ·exact absurd ⟨b, t, hb, hr, a⟩ H3.zero.2
   ·rcases l2 b t hb with h4 | h4
    ·exact .inl h4
    ·exact .inr (by omega)
theorem bodyT_move (ok : CfgOk C) (sp : SpecOK C) {n : Nat} {L : List Ld} {m : Nat} {g : FuncId} {fd : AFn} (hg : C.fn g = some fd) {ds : List D} {d : D} {o : Obs} (hd : bodyT C n L m fd ds = some (o, d)) (hO : Owed C o) : FnM C g ds d := by
 intro w args r1 H1 v1
 refine (callsIn_wide (n := 0)).1 ?_
 obtain ⟨fn, f1, f2, f3, f4, f5⟩ := ok.fn g fd hg
 unfold bodyT at hd
 generalize hi : imps false ds [] = vh at hd H1 v1
 obtain ⟨argv, h0⟩ := vh
 simp only at hd H1 v1
 refine callsIn_of_wp_marks f1 f2 (wide_wide.1 g) ?_ rfl
 have hS : SR C.G C.GB w.heap.size r1 ⟨argv ++ List.replicate (fd.ntmps - argv.length) undef, h0⟩ { tmps := args ++ Array.replicate (fn.ntmps - args.size) undef, defers := [] } w := by
  have hl : argv.length = args.size := by have := v1.1; simpa using this
  refine ⟨by simp [hl, f3], fun j x hj => ?_, H1, ⟨[], rfl, by simp, by simp⟩⟩
  rcases Nat.lt_or_ge j argv.length with h1 | h1
  ·simp only at hj
   rw [List.getElem?_append_left h1] at hj
   obtain ⟨u, hu, hv⟩ := v1.2 j x hj
   refine ⟨u, ?_, hv⟩
   simp only
   rw [Array.getElem?_append_left (by omega)]
   simpa using hu
  ·simp only at hj
   rw [List.getElem?_append_right h1, List.getElem?_replicate] at hj
   split at hj
   ·rename_i hlt
    simp only [Option.some.injEq] at hj
    subst hj
    refine ⟨undef, ?_, .tup _ _ rfl fun j h => by simp at h⟩
    simp only
    rw [Array.getElem?_append_right (by omega), Array.getElem?_replicate, if_pos (by omega)]
   ·cases hj
 have fin : ∀ (s' : St) (vs : List Value), resVs C s'.heap s'.tmps fd.results = some vs → (∃ h2, rdO rdFuel s'.heap (tupV vs) = some (d, h2)) → ∀ r' a' w', StepF r1 h0 w r' s'.heap w' → SR C.G C.GB w.heap.size r' s' a' w' →
   LeavesInM Fence.wide 0 C.P fn a'.tmps (fun e w' => ∃ u r2 h2 v h3 n, e = .returned u ∧ StepF r1 h0 w r2 h2 w' ∧ HR C.G C.GB r2 h2 w' ∧ VR r2 v u ∧ rdO n h2 v = some (d, h3)) a'.defers .returning w' := fun s' vs hvs ⟨h2, hrd⟩ r' a' w' S hSR => by
  obtain ⟨rs, e1, e2, e3⟩ := hSR.marks
  rw [e1]
  refine leaves_marksF rs w' e2 e3 hSR.heap H1.gb.1 S fun w2 H2 S2 => ?_
  obtain ⟨u, p1, p2⟩ := results_run ok H2 (fun t => by rw [nthR_eq]; exact hSR.getD t) f4 hvs
  exact ⟨u, p1, u, r', _, _, h2, rdFuel, rfl, S2, H2, p2, hrd⟩
 have key : ∀ x s' o', resD C fd x s' o' = some (o, d) → o' = o ∧ (x = .normal ∨ x = .ret) ∧ ∃ vs, resVs C s'.heap s'.tmps fd.results = some vs ∧ ∃ h2, rdO rdFuel s'.heap (tupV vs) = some (d, h2) := fun x s' o' h => by
  unfold resD at h
  have main : (match resVs C s'.heap s'.tmps fd.results with
   | some vs => match rdO rdFuel s'.heap (tupV vs) with
     | some (d, _) => some (o', d)
     | none => none
   | none => none) = some (o, d) → o' = o ∧ ∃ vs, resVs C s'.heap s'.tmps fd.results = some vs ∧ ∃ h2, rdO rdFuel s'.heap (tupV vs) = some (d, h2) := fun h => by
   cases hvs : resVs C s'.heap s'.tmps fd.results with
   | none => simp [hvs] at h
   | some vs =>
     simp only [hvs] at h
     cases hr : rdO rdFuel s'.heap (tupV vs) with
     | none => simp [hr] at h
     | some q => obtain ⟨d', h2⟩ := q; simp [hr] at h; obtain ⟨rfl, rfl⟩ := h; exact ⟨rfl, vs, rfl, h2, hr⟩
  cases x with
  | exit id => cases h
  | normal => exact let ⟨a, b⟩ := main h; ⟨a, .inl rfl, b⟩
  | ret => exact let ⟨a, b⟩ := main h; ⟨a, .inr rfl, b⟩
 refine (evD_ok ok sp m fd.body _ _ _ (o, d) (fun x s o' hk => by rw [(key x s o' hk).1]; exact hO) hd).2 Fence.wide 0 w.heap.size r1 _ w _ wide_wide rfl hS (Nat.le_refl _) fun x s' o' r' a' w' S hSR hk => ?_
 obtain ⟨_, hx, vs, h1, h2⟩ := key x s' o' hk
 rcases hx with rfl | rfl
 ·exact fin s' vs h1 h2 r' a' w' S hSR
 ·exact fin s' vs h1 h2 r' a' w' S hSR
section
variable {N : Nat} {rel : List (Nat × Cv)} {B : Code} {id : Nat} {α : Type}
theorem ldT_rgs (ok : CfgOk C) (sp : SpecOK C) {k : Nat} (hk : k < 4611686018427387904) (st : Int × α → List D) (step : Nat → α → X × α) (inv : Nat → α → Prop)
  (hr : ∀ (j : Nat) a, j < k → inv j a → RdOK C N rel B (st ((j : Int), a)) (step j a).1 (st (nx j (step j a))))
  (hn : ∀ (j : Nat) a a', j < k → inv j a → step j a = (.normal, a') → inv (j + 1) a')
  (he : ∀ a, inv k a → RdOK C N rel B (st ((k : Int), a)) (.exit id) (st ((k : Int), a)))
  {a0 : α} {i0 : Nat} (hi0 : i0 ≤ k) (h0 : inv i0 a0) {x : X} {p : Int × α} (hx : rgRun id step (k - i0) i0 a0 = (x, p)) (hid : Nat.ble 100000 id = false := by rfl) : LdT C (ldP id N rel (outX id x) (st p)) (.loop B) (st ((i0 : Int), a0)) := by
 refine ldT_iter ok sp st (rgNext id k step) (fun p => ∃ j : Nat, p.1 = (j : Int) ∧ j ≤ k ∧ inv j p.2) (fun p ⟨j, hj, hle, hi⟩ => ?_) (fun p q ⟨j, hj, hle, hi⟩ hq => ?_) (a0 := ((i0 : Int), a0)) (b := p) (f := k - i0 + 1) ⟨i0, rfl, by omega, h0⟩ ?_ hid
 ·obtain ⟨i, a⟩ := p
  simp only at hj hi
  subst hj
  unfold rgNext
  by_cases hlt : j < k
  ·have hd : decide ((j : Int) < k) = true := by simp [hlt]
   have := hr j a hlt hi
   simp only [hd, cond_true, Int.toNat_natCast]
   cases hs : step j a with
   | mk y b => rw [hs] at this; cases y <;> exact this
  ·have hd : decide ((j : Int) < k) = false := by simp; omega
   have hjk : j = k := by omega
   subst hjk
   simp only [hd, cond_false]
   exact he a hi
 ·obtain ⟨i, a⟩ := p
  simp only at hj hi
  subst hj
  unfold rgNext at hq
  by_cases hlt : j < k
  ·have hd : decide ((j : Int) < k) = true := by simp [hlt]
   simp only [hd, cond_true, Int.toNat_natCast] at hq
   cases hs : step j a with
   | mk y b =>
     rw [hs] at hq
     cases y with
     | normal =>
       simp only [Prod.mk.injEq, true_and] at hq
       subst hq
       exact ⟨j + 1, wrap_nat (by omega), by omega, hn j a b hlt hi hs⟩
     | exit id' => simp at hq
     | ret => simp at hq
  ·have hd : decide ((j : Int) < k) = false := by simp; omega
   simp only [hd, cond_false] at hq
   cases hq
 ·rw [← hx]; exact rg_iter id hk step (k - i0) i0 a0 (by omega)
end
def Cfg.onH (C : Cfg) (hs : List (Nat × (List Value → Heap → FT (Value × Heap)))) : Cfg := { C with mode := fun f => modeH C.mode hs f }
where
 modeH (m : FuncId → Am.Mode) : List (Nat × (List Value → Heap → FT (Value × Heap))) → FuncId → Am.Mode
  | [], f => m f
  | c :: cs, f => match Nat.beq f c.1 with
    | true => .specH c.2
    | false => modeH m cs f
def GdH (C : Cfg) (c : Nat × (List Value → Heap → FT (Value × Heap))) : Prop := ∀ argv h v h', (c.2 argv h).run = some (v, h') → CallI C c.1 argv h v h'
def GdsH (C : Cfg) : List (Nat × (List Value → Heap → FT (Value × Heap))) → Prop
 | [] => True
 | c :: cs => GdH C c ∧ GdsH C cs
theorem onH_mode {C : Cfg} : ∀ {hs : List (Nat × (List Value → Heap → FT (Value × Heap)))}, GdsH C hs → SpecOK C → ∀ (g : FuncId) (M : Am.Mode), Cfg.onH.modeH C.mode hs g = M →
  C.mode g = M ∨ ∃ F, M = .specH F ∧ ∀ argv h v h', (F argv h).run = some (v, h') → CallI C g argv h v h'
 | [], _, _, g, M, h => .inl h
 | c :: cs, ⟨h1, h2⟩, sp, g, M, h => by
   unfold Cfg.onH.modeH at h
   split at h
   ·rename_i e
    rw [Nat.beq_eq] at e
    subst e
    exact .inr ⟨c.2, h.symm, h1⟩
   ·exact onH_mode h2 sp g M h
theorem specs_onH {C : Cfg} (sp : SpecOK C) {hs : List (Nat × (List Value → Heap → FT (Value × Heap)))} (hh : GdsH C hs) : SpecOK (C.onH hs) := by
 refine ⟨fun g Fn hm => ?_, fun g Fn hm => ?_, fun g Fn hm => ?_, fun g Fn hm => ?_⟩
 ·rcases onH_mode hh sp g _ hm with h | ⟨F, h, _⟩
  ·exact sp.1 g Fn h
  ·cases h
 ·rcases onH_mode hh sp g _ hm with h | ⟨F, h, _⟩
  ·exact sp.2.1 g Fn h
  ·cases h
 ·rcases onH_mode hh sp g _ hm with h | ⟨F, h, _⟩
  ·exact sp.2.2.1 g Fn h
  ·cases h
 ·rcases onH_mode hh sp g _ hm with h | ⟨F, h, k⟩
  ·exact sp.2.2.2 g Fn h
  ·cases h
   exact k
theorem Cfg.onH_ok {C : Cfg} (ok : CfgOk C) (hs : List (Nat × (List Value → Heap → FT (Value × Heap)))) : CfgOk (C.onH hs) := ⟨ok.ty, ok.fn, ok.mixed⟩
theorem Gds.onH {C : Cfg} {hs : List (Nat × (List Value → Heap → FT (Value × Heap)))} : ∀ {cs : List Ct}, Gds C cs → Gds (C.onH hs) cs
 | [], _ => trivial
 | _ :: _, h => ⟨h.1, Gds.onH h.2⟩
theorem FnM.sy {C : Cfg} {cs : List Ct} {g : FuncId} {ds : List D} {d : D} (h : FnM (C.at cs) g ds d) : FnM C g ds d := fun w args r1 H v1 =>
 (h w args r1 (HR.sy.2 H) v1).mono fun _ _ ⟨u, r2, h2, v, h3, n, a, b, c, d, e⟩ => ⟨u, r2, h2, v, h3, n, a, b, HR.sy.1 c, d, e⟩
def Cfg.onI (C : Cfg) (gs : List Nat) : Cfg := { C with mode := fun f => match gs.any (Nat.beq f) with
 | true => .inl
 | false => C.mode f }
theorem specs_onI {C : Cfg} (sp : SpecOK C) (gs : List Nat) : SpecOK (C.onI gs) := by
 have key : ∀ g M, (C.onI gs).mode g = M → M = .inl ∨ C.mode g = M := fun g M h => by
  unfold Cfg.onI at h
  simp only at h
  split at h
  ·exact .inl h.symm
  ·exact .inr h
 refine ⟨fun g Fn hm => ?_, fun g Fn hm => ?_, fun g Fn hm => ?_, fun g Fn hm => ?_⟩
 ·rcases key g _ hm with h | h
  ·cases h
  ·exact sp.1 g Fn h
 ·rcases key g _ hm with h | h
  ·cases h
  ·exact sp.2.1 g Fn h
 ·rcases key g _ hm with h | h
  ·cases h
  ·exact sp.2.2.1 g Fn h
 ·rcases key g _ hm with h | h
  ·cases h
  ·exact sp.2.2.2 g Fn h
theorem Cfg.onI_ok {C : Cfg} (ok : CfgOk C) (gs : List Nat) : CfgOk (C.onI gs) := ⟨ok.ty, ok.fn, ok.mixed⟩
end
end Go.Am
namespace Go.Am
noncomputable section
open Go Go.RowKit
variable {C : Cfg}
def okm : Value → Bool
 | .slice (some ⟨b, _, some _⟩) _ _ => Nat.beq b (K0 + 1)
 | v => scal v
def lft (bw : Nat) : Value → Value
 | .slice (some ⟨_, t, some lo⟩) n sz => .slice (some ⟨bw, t, some lo⟩) n sz
 | v => v
theorem vr_lft {r r0 : Ren} {bw : Nat} {tw : Tgt} (h0 : r0 (K0 + 1) = some tw) (h : r bw = some tw) (hk : K0 ≤ bw) {c u : Value} (hc : okm c = true) : VR r0 c u ↔ VR r (lft bw c) u := by
 unfold okm at hc
 split at hc
 ·rename_i b tg lo n sz
  rw [Nat.beq_eq] at hc
  subst hc
  constructor
  ·intro hv
   cases hv with
   | scal _ hs => cases hs
   | vsl _ _ _ t _ h1 h2 h3 h4 => rw [h0] at h1; cases h1; exact .vsl bw n sz tw u h hk h3 h4
   | sub _ _ _ _ t _ h1 h2 h3 => rw [h0] at h1; cases h1; exact .sub bw lo n sz tw u h hk h3
   | asl _ _ _ t _ h1 h2 h3 => rw [h0] at h1; cases h1; exact .asl bw n sz tw u h hk h3
  ·intro hv
   have hv : VR r (.slice (some ⟨bw, tg, some lo⟩) n sz) u := hv
   cases hv with
   | scal _ hs => cases hs
   | vsl _ _ _ t _ h1 h2 h3 h4 => rw [h] at h1; cases h1; exact .vsl (K0 + 1) n sz tw u h0 (by omega) h3 h4
   | sub _ _ _ _ t _ h1 h2 h3 => rw [h] at h1; cases h1; exact .sub (K0 + 1) lo n sz tw u h0 (by omega) h3
   | asl _ _ _ t _ h1 h2 h3 => rw [h] at h1; cases h1; exact .asl (K0 + 1) n sz tw u h0 (by omega) h3
 ·rename_i hne
  have e : lft bw c = c := by
   unfold lft
   split
   ·rename_i b t lo n sz; exact absurd rfl (hne b t lo n sz)
   ·rfl
  rw [e]
  exact ⟨fun hv => by rw [hv.scal_eq hc]; exact .scal c hc, fun hv => by rw [hv.scal_eq hc]; exact .scal c hc⟩
theorem callI_meth {g : FuncId} {h : Heap} {b bw : Nat} {cells cells' : List Value} {ks : List Kd} {l : List (Tup ks)} {o : Bool} {avs : List Value} {v : Value} {h0' : Heap}
  (hb : h.at b = .row (cells.map (lft bw)) true none) (hw : h.at bw = .vec ks l o) (hc : ∀ c ∈ cells, okm c = true) (hc' : ∀ c ∈ cells', okm c = true) (hs : ∀ a ∈ avs, scal a = true) (hv : scal v = true)
  (_ : cells'.length = cells.length)
  (hrun : CallI C g (.pointer (some ⟨K0, 0, none⟩) :: avs) [.row cells true none, .vec ks l false] v h0') (hr : h0'.at K0 = .row cells' true none) :
  CallI C g (.pointer (some ⟨b, 0, none⟩) :: avs) h v (h.put b (.row (cells'.map (lft bw)) true none)) := by
 intro F N r w args hF hro H hargs
 have hbo : (h.at b).owned = true := by rw [hb]; rfl
 have hba := AObj.alive_of_owned hbo
 have hwa : (h.at bw).alive = true := by rw [hw]; rfl
 obtain ⟨hbk, hbl⟩ := at_lt hba
 obtain ⟨hwk, _⟩ := at_lt hwa
 obtain ⟨t, rb, tlt, ob⟩ := H.obj b hba
 obtain ⟨tw, rw_, twlt, ow⟩ := H.obj bw hwa
 have hne : b ≠ bw := fun e => by rw [e, hw] at hb; cases hb
 have happ : ∀ b1 t1, (h.at b1).alive = true → r b1 = some t1 → t1.blk = t.blk → b1 = b := fun b1 t1 ha h1 he => by
  rcases H.exc b b1 t t1 hbo ha rb h1 he.symm with e | ⟨e, _⟩
  ·exact e.symm
  ·rw [hb] at e; cases e
 let r0 : Ren := fun i => if i = K0 then some t else if i = K0 + 1 then some tw else none
 have r00 : r0 K0 = some t := if_pos rfl
 have r01 : r0 (K0 + 1) = some tw := by show (if K0 + 1 = K0 then _ else if K0 + 1 = K0 + 1 then some tw else none) = _; rw [if_neg (by omega), if_pos rfl]
 have a0 : Heap.at [.row cells true none, .vec ks l false] K0 = .row cells true none := rfl
 have a1 : Heap.at [.row cells true none, .vec ks l false] (K0 + 1) = .vec ks l false := rfl
 have ax : ∀ i, i ≠ K0 → i ≠ K0 + 1 → (Heap.at [.row cells true none, .vec ks l false] i) = .dead := fun i h1 h2 => by
  cases ha : (Heap.at [.row cells true none, .vec ks l false] i).alive with
  | true =>
    obtain ⟨k1, k2⟩ := at_lt ha
    have : i < K0 + 2 := k2
    omega
  | false =>
    cases hx : Heap.at [.row cells true none, .vec ks l false] i <;> first | rfl | (rw [hx] at ha; cases ha)
 have H0 : HR C.G C.GB r0 [.row cells true none, .vec ks l false] w := by
  refine ⟨fun i ti hi => ?_, fun i hi => ?_, fun i j ti tj hi hj h1 h2 he => ?_, H.glob, H.gb, fun i ti hi h1 => ?_⟩
  ·have hi : (if i = K0 then some t else if i = K0 + 1 then some tw else none) = some ti := hi
   show K0 ≤ i ∧ i < K0 + 2
   split at hi
   ·omega
   ·split at hi
    ·omega
    ·cases hi
  ·by_cases e : i = K0
   ·subst e
    refine ⟨t, r00, tlt, ?_⟩
    rw [a0]
    rw [hb] at ob
    obtain ⟨⟨o1, o2⟩, o3, o4⟩ := ob
    rw [List.length_map] at o1 o2
    refine ⟨⟨o1, o2⟩, fun j c hj => ?_, o4⟩
    obtain ⟨u, hu, hvu⟩ := o3 j (lft bw c) (by rw [List.getElem?_map, hj]; rfl)
    exact ⟨u, hu, (vr_lft r01 rw_ hwk (hc c (List.mem_of_getElem? hj))).2 hvu⟩
   ·by_cases e1 : i = K0 + 1
    ·subst e1
     refine ⟨tw, r01, twlt, ?_⟩
     rw [a1]
     rw [hw] at ow
     obtain ⟨p1, p2, p3, p4⟩ := ow
     exact ⟨p1, p2, p3, fun h => ⟨(p4 h).1, (p4 h).2.1, fun h => by cases h⟩⟩
    ·rw [ax i e e1] at hi; cases hi
  ·have ei : i = K0 := Classical.byContradiction fun e => by
    by_cases e1 : i = K0 + 1
    ·subst e1; rw [a1] at hi; simp [AObj.owned] at hi
    ·rw [ax i e e1] at hi; cases hi
   subst ei
   rw [r00] at h1
   cases h1
   by_cases e : j = K0
   ·exact .inl e.symm
   ·by_cases e1 : j = K0 + 1
    ·subst e1
     rw [r01] at h2
     cases h2
     exact absurd (happ bw tw hwa rw_ he.symm).symm hne
    ·rw [ax j e e1] at hj; cases hj
  ·have ei : i = K0 := Classical.byContradiction fun e => by
    by_cases e1 : i = K0 + 1
    ·subst e1; rw [a1] at hi; simp [AObj.owned] at hi
    ·rw [ax i e e1] at hi; cases hi
   subst ei
   rw [r00] at h1
   cases h1
   exact H.own b t hbo rb
 have hA0 : VRs r0 (.pointer (some ⟨K0, 0, none⟩) :: avs) args.toList := by
  refine ⟨hargs.1, fun j x hj => ?_⟩
  cases j with
  | zero =>
    cases hj
    obtain ⟨u, hu, hvu⟩ := hargs.2 0 _ rfl
    refine ⟨u, hu, ?_⟩
    cases hvu with
    | scal _ hs => simp [Am.scal] at hs; omega
    | ptr _ _ t1 h1 hk => rw [rb] at h1; cases h1; exact .ptr K0 0 t r00 (Nat.le_refl _)
  | succ j =>
    have hj : avs[j]? = some x := hj
    obtain ⟨u, hu, hvu⟩ := hargs.2 (j + 1) x hj
    have hx := hs x (List.mem_of_getElem? hj)
    refine ⟨u, hu, ?_⟩
    rw [hvu.scal_eq hx]
    exact .scal x hx
 have own0 : ∀ k, Owned r0 [.row cells true none, .vec ks l false] k → k = t.blk := fun k ⟨i, ti, h1, h2, h3⟩ => by
  have ei : i = K0 := Classical.byContradiction fun e => by
   by_cases e1 : i = K0 + 1
   ·subst e1; rw [a1] at h1; simp [AObj.owned] at h1
   ·rw [ax i e e1] at h1; cases h1
  subst ei
  rw [r00] at h2
  cases h2
  exact h3.symm
 have hput : ∀ b1, (h.put b (.row (cells'.map (lft bw)) true none)).at b1 = if b1 = b then .row (cells'.map (lft bw)) true none else h.at b1 := fun b1 => at_put hbk hbl _ b1
 refine CallsIn.mono (hrun F N r0 w args hF hro H0 hA0) fun e w' ⟨u, r0', he, S, H0', hvu⟩ => ?_
 obtain ⟨t', rt', tlt', ob'⟩ := H0'.obj K0 (by rw [hr]; rfl)
 have et : t' = t := by rw [S.le K0 t r00] at rt'; exact (Option.some.inj rt').symm
 subst et
 have r01' : r0' (K0 + 1) = some tw := S.le _ _ r01
 have hown : ∀ b1, ((h.put b (.row (cells'.map (lft bw)) true none)).at b1).owned = (h.at b1).owned := fun b1 => by rw [hput]; split <;> simp_all [AObj.owned]
 have haliv : ∀ b1, ((h.put b (.row (cells'.map (lft bw)) true none)).at b1).alive = (h.at b1).alive := fun b1 => by rw [hput]; split <;> simp_all [AObj.alive]
 have hmate : ∀ b1, ((h.put b (.row (cells'.map (lft bw)) true none)).at b1).mate = (h.at b1).mate := fun b1 => by rw [hput]; split <;> simp_all [AObj.mate]
 refine ⟨u, r, he, ⟨.refl r, S.os, S.tape, S.output, S.size, fun k hk ho => S.keep k hk fun h0 => ho ⟨b, t', hbo, rb, (own0 k h0).symm⟩, fun k _ ⟨i, ti, h1, h2, h3⟩ => ⟨i, ti, by rw [← hown]; exact h1, h2, h3⟩, by rw [put_length]; exact Nat.le_refl _, fun _ _ h => .inl h⟩, ?_, ?_⟩
 ·refine ⟨fun i ti hi => by rw [put_length]; exact H.dom i ti hi, fun i hi => ?_, fun i j ti tj hi hj h1 h2 he => ?_, H0'.glob, ⟨Nat.le_trans H.gb.1 S.size, H.gb.2⟩, fun i ti hi h1 => H.own i ti (by rw [← hown]; exact hi) h1⟩
  ·rw [haliv] at hi
   by_cases ei : i = b
   ·subst ei
    refine ⟨t', rb, tlt', ?_⟩
    rw [hput, if_pos rfl]
    rw [hr] at ob'
    obtain ⟨⟨o1, o2⟩, o3, o4⟩ := ob'
    refine ⟨by rw [List.length_map]; exact ⟨o1, o2⟩, fun j c hj => ?_, o4⟩
    rw [List.getElem?_map] at hj
    cases hx : cells'[j]? with
    | none => rw [hx] at hj; cases hj
    | some x =>
      rw [hx] at hj
      cases hj
      obtain ⟨u1, hu1, hv1⟩ := o3 j x hx
      exact ⟨u1, hu1, (vr_lft r01' rw_ hwk (hc' x (List.mem_of_getElem? hx))).1 hv1⟩
   ·obtain ⟨t1, h1, h2, h3⟩ := H.obj i hi
    refine ⟨t1, h1, Nat.lt_of_lt_of_le h2 S.size, ?_⟩
    rw [hput, if_neg ei]
    exact ObjR.of_block (.refl r) (S.keep _ h2 fun h0 => ei (happ i t1 hi h1 (own0 _ h0))) h3
  ·rw [hown] at hi
   rw [haliv] at hj
   rw [hmate, hmate]
   exact H.exc i j ti tj hi hj h1 h2 he
 ·rw [hvu.scal_eq hv]
  exact .scal v hv
end
end Go.Am
namespace Go.Am
noncomputable section
open Go Go.RowKit
variable {C : Cfg}
theorem HR.reword {G : Gl} {GB : Nat} {r : Ren} {h : Heap} {w : World} (H : HR G GB r h w) {b : Nat} {cells cells' : List Value} (hb : h.at b = .row cells true none) (hlen : cells'.length = cells.length)
  (hc : ∀ (j : Nat) (c' : Value), cells'[j]? = some c' → ∃ c, cells[j]? = some c ∧ ∀ u, VR r c u → VR r c' u) :
  HR G GB r (h.put b (.row cells' true none)) w ∧ ∀ k, Owned r (h.put b (.row cells' true none)) k ↔ Owned r h k := by
 have hba : (h.at b).alive = true := by rw [hb]; rfl
 obtain ⟨hbk, hbl⟩ := at_lt hba
 have hput : ∀ b1, (h.put b (.row cells' true none)).at b1 = if b1 = b then .row cells' true none else h.at b1 := fun b1 => at_put hbk hbl _ b1
 have hown : ∀ b1, ((h.put b (.row cells' true none)).at b1).owned = (h.at b1).owned := fun b1 => by rw [hput]; split <;> simp_all [AObj.owned]
 have haliv : ∀ b1, ((h.put b (.row cells' true none)).at b1).alive = (h.at b1).alive := fun b1 => by rw [hput]; split <;> simp_all [AObj.alive]
 have hmate : ∀ b1, ((h.put b (.row cells' true none)).at b1).mate = (h.at b1).mate := fun b1 => by rw [hput]; split <;> simp_all [AObj.mate]
 refine ⟨⟨fun i ti hi => by rw [put_length]; exact H.dom i ti hi, fun i hi => ?_, fun i j ti tj hi hj h1 h2 he => ?_, H.glob, H.gb, fun i ti hi h1 => H.own i ti (by rw [← hown]; exact hi) h1⟩,
  fun k => ⟨fun ⟨i, ti, h1, h2, h3⟩ => ⟨i, ti, by rw [← hown]; exact h1, h2, h3⟩, fun ⟨i, ti, h1, h2, h3⟩ => ⟨i, ti, by rw [hown]; exact h1, h2, h3⟩⟩⟩
 ·rw [haliv] at hi
  obtain ⟨t, h1, h2, h3⟩ := H.obj i hi
  refine ⟨t, h1, h2, ?_⟩
  rw [hput]
  by_cases ei : i = b
  ·subst ei
   rw [if_pos rfl]
   rw [hb] at h3
   obtain ⟨⟨o1, o2⟩, o3, o4⟩ := h3
   refine ⟨by rw [hlen]; exact ⟨o1, o2⟩, fun j c hj => ?_, o4⟩
   obtain ⟨c0, hj0, himp⟩ := hc j c hj
   obtain ⟨u, hu, hv⟩ := o3 j c0 hj0
   exact ⟨u, hu, himp u hv⟩
  ·rw [if_neg ei]; exact h3
 ·rw [hown] at hi
  rw [haliv] at hj
  rw [hmate, hmate]
  exact H.exc i j ti tj hi hj h1 h2 he
theorem CallI.reword {g : FuncId} {argv : List Value} {h h1 : Heap} {v : Value} (H : CallI C g argv h v h1) {b : Nat} {cells cells' : List Value} (hb : h1.at b = .row cells true none) (hlen : cells'.length = cells.length)
  (hc : ∀ r w, HR C.G C.GB r h1 w → ∀ (j : Nat) (c' : Value), cells'[j]? = some c' → ∃ c, cells[j]? = some c ∧ ∀ u, VR r c u → VR r c' u) : CallI C g argv h v (h1.put b (.row cells' true none)) := by
 intro F n r w args hF hro HH hargs
 refine CallsIn.mono (H F n r w args hF hro HH hargs) fun e w' ⟨u, r', he, S, H', hv⟩ => ?_
 obtain ⟨K, o⟩ := HR.reword H' hb hlen (hc r' w' H')
 exact ⟨u, r', he, ⟨S.le, S.os, S.tape, S.output, S.size, S.keep, fun k hk ho => S.own k hk ((o k).1 ho), by rw [put_length]; exact S.len, S.fresh⟩, K, hv⟩
theorem CallI.before {g : FuncId} {argv : List Value} {h h1 : Heap} {v : Value} {b : Nat} {cells cells' : List Value} (H : CallI C g argv (h.put b (.row cells' true none)) v h1) (hb : h.at b = .row cells true none) (hlen : cells'.length = cells.length)
  (hc : ∀ r w, HR C.G C.GB r h w → ∀ (j : Nat) (c' : Value), cells'[j]? = some c' → ∃ c, cells[j]? = some c ∧ ∀ u, VR r c u → VR r c' u) : CallI C g argv h v h1 := by
 intro F n r w args hF hro HH hargs
 obtain ⟨K, o⟩ := HR.reword HH hb hlen (hc r w HH)
 refine CallsIn.mono (H F n r w args hF hro K hargs) fun e w' ⟨u, r', he, S, H', hv⟩ => ?_
 have sl := S.len
 rw [put_length] at sl
 exact ⟨u, r', he, ⟨S.le, S.os, S.tape, S.output, S.size, fun k hk ho => S.keep k hk fun x => ho ((o k).1 x), fun k hk ho => (o k).1 (S.own k hk ho), sl, fun b t hb => by have := S.fresh b t hb; rwa [put_length] at this⟩, H', hv⟩
theorem put_put (h : Heap) (b : Nat) (o o' : AObj) : (h.put b o).put b o' = h.put b o' := by
 by_cases hb : K0 ≤ b
 ·rw [put_ge hb, put_ge hb, put_ge hb, List.set_set]
 ·rw [put_small hb, put_small hb, put_small hb]
theorem VR.part {r : Ren} {b o lo n sz : Nat} {u : Value} (h : VR r (.slice (some ⟨b, o, some lo⟩) n sz) u) : VR r (.slice (some ⟨b, 2, some lo⟩) n sz) u := by
 obtain ⟨t, hr, hk, hvs, _⟩ := h.vs'
 exact .sub b lo n sz t u hr hk hvs
theorem VR.none_part {G : Gl} {GB : Nat} {r : Ren} {h : Heap} {w : World} (H : HR G GB r h w) {b : Nat} {ks : List Kd} {l : List (Tup ks)} {own : Bool} (hb : h.at b = .vec ks l own) {u : Value} (hv : VR r (.slice none 0 0) u) :
  VR r (.slice (some ⟨b, 2, some l.length⟩) 0 ks.length) u := by
 obtain ⟨t, rt, _, ob⟩ := H.obj b (by rw [hb]; rfl)
 obtain ⟨hk, _⟩ := at_lt (h := h) (b := b) (by rw [hb]; rfl)
 rw [hb] at ob
 obtain ⟨_, ⟨o1, o2, o3⟩, _⟩ := ob
 have e : u = .slice none 0 0 := hv.scal_eq rfl
 subst e
 refine .sub b l.length 0 ks.length t _ rt hk ⟨o1, o2, .inl ⟨rfl, .inl rfl, fun hlt => ?_⟩⟩
 rw [o3] at hlt
 exact absurd hlt (Nat.lt_irrefl _)
end
end Go.Am
namespace Go.Am
noncomputable section
open Go Go.RowKit
variable {H : Type} {enc : TypeId × Value → H} {P : Program} {w : World} {base : Nat} {sp : Nat → Bool} {held : Bool}
end
end Go.Am
