/-
  A part of the proof of the statement that the claim names: see the last file.
-/
import Derived.Test.YtifnpljmjhnbaaaGreatDoorAm4
namespace Go.Am
noncomputable section
open Go Go.RowKit


def FnM (C : Cfg) (g : FuncId) (ds : List D) (d : D) : Prop :=
  ∀ (w : World) (args : Array Value) (r1 : Ren), HR C.G C.GB r1 (imps false ds []).2 w → VRs r1 (imps false ds []).1 args.toList →
    Calls C.P g args w fun e w' => ∃ u r2 h2 v h3 n, e = .returned u ∧ StepF r1 (imps false ds []).2 w r2 h2 w' ∧ HR C.G C.GB r2 h2 w' ∧ VR r2 v u ∧ rdO n h2 v = some (d, h3)

def FT.map {α β : Type} (f : α → β) : FT α → FT β
  | .bad => .bad
  | .leaf x => .leaf (f x)
  | .br b x y => .br b (x.map f) (y.map f)

theorem FT.map_run {α β : Type} (f : α → β) : ∀ (t : FT α) {y : β}, (t.map f).run = some y → ∃ x, t.run = some x ∧ y = f x
  | .bad, y, h => by cases h
  | .leaf x, y, h => by cases h; exact ⟨x, rfl, rfl⟩
  | .br b s t, y, h => by
    cases b with
    | true => exact FT.map_run f s h
    | false => exact FT.map_run f t h

def mvF (F : List D → FT D) (argv : List Value) (h : Heap) : FT (Value × Heap) :=
  match thr (rdM rdFuel) argv h with
  | some (ds, h') => (F ds).map fun d => imp true d h'
  | none => .bad

variable {C : Cfg}

theorem thr_len {f : Heap → Value → Option (D × Heap)} (hf : ∀ h v d h', f h v = some (d, h') → h'.length = h.length) : ∀ (vs : List Value) (h : Heap) (ds : List D) (h' : Heap), thr f vs h = some (ds, h') → h'.length = h.length
  | [], h, ds, h', hd => by simp only [thr, Option.some.injEq, Prod.mk.injEq] at hd; rw [hd.2]
  | v :: vs, h, ds, h', hd => by
    simp only [thr] at hd
    cases h1 : f h v with
    | none => rw [h1] at hd; cases hd
    | some x =>
      obtain ⟨d, hh⟩ := x
      simp only [h1] at hd
      cases h2 : thr f vs hh with
      | none => rw [h2] at hd; cases hd
      | some y =>
        obtain ⟨ds', hh2⟩ := y
        simp only [h2, Option.some.injEq, Prod.mk.injEq] at hd
        obtain ⟨_, rfl⟩ := hd
        exact (thr_len hf vs hh ds' hh2 h2).trans (hf h v d hh h1)

theorem rdM_len : ∀ (n : Nat) (h : Heap) (v : Value) (d : D) (h' : Heap), rdM n h v = some (d, h') → h'.length = h.length
  | 0, h, v, d, h', hd => by simp [rdM, rdQ] at hd
  | n + 1, h, v, d, h', hd => by
    have ih := thr_len (rdM_len n)
    unfold rdM rdQ at hd
    repeat' split at hd
    all_goals first
      | (cases hd; done)
      | (simp only [Option.some.injEq, Prod.mk.injEq] at hd
         obtain ⟨_, rfl⟩ := hd
         first
          | rfl
          | exact kill_length _ _
          | exact ih _ _ _ _ (by assumption)
          | exact (ih _ _ _ _ (by assumption)).trans ((kill_length _ _).trans (kill_length _ _))
          | (rename_i e1 _ _ _ e2 _; exact (ih _ _ _ _ e2).trans (ih _ _ _ _ e1)))

theorem thr_ok {w : World} {r : Ren} : ∀ (n : Nat) (vs us : List Value) (h : Heap) (ds : List D) (h' : Heap), thr (rdM n) vs h = some (ds, h') → HR C.G C.GB r h w → VRs r vs us → HR C.G C.GB r h' w ∧ Less h' h ∧ InsOK C.G C.GB w r h h' ds us
  | n, [], us, h, ds, h', hd, H, hv => by
    simp only [thr, Option.some.injEq, Prod.mk.injEq] at hd
    obtain ⟨rfl, rfl⟩ := hd
    have : us = [] := List.length_eq_zero_iff.1 hv.1.symm
    subst this
    exact ⟨H, .refl _, fun h0 r0 H0 A => ⟨r0, .refl _, by simpa [imps] using H0, by simpa [imps] using VRs.nil r0, by simpa [imps] using A, by simpa [imps] using Cov.refl r0 h0 r h, fun k hk => .inl (by simpa [imps] using hk)⟩⟩
  | n, v :: vs, us, h, ds, h', hd, H, hv => by
    cases us with
    | nil => simp [VRs] at hv
    | cons u us =>
      simp only [thr] at hd
      cases h1 : rdM n h v with
      | none => rw [h1] at hd; cases hd
      | some x =>
        obtain ⟨d, hh⟩ := x
        simp only [h1] at hd
        cases h2 : thr (rdM n) vs hh with
        | none => rw [h2] at hd; cases hd
        | some y =>
          obtain ⟨ds', hh2⟩ := y
          simp only [h2, Option.some.injEq, Prod.mk.injEq] at hd
          obtain ⟨rfl, rfl⟩ := hd
          obtain ⟨u', hu, hvu⟩ := hv.2 0 v rfl
          simp only [List.getElem?_cons_zero, Option.some.injEq] at hu
          subst hu
          obtain ⟨H1, L1, o1⟩ := rdQ_ok n h v d hh u h1 H hvu
          obtain ⟨H2, L2, o2⟩ := thr_ok n vs us hh ds' hh2 h2 H1 ⟨by have := hv.1; simpa using this, fun j x hj => by simpa using hv.2 (j + 1) x (by simpa using hj)⟩
          refine ⟨H2, L2.trans L1, fun h0 r0 H0 A => ?_⟩
          obtain ⟨r1, le1, K1, v1, A1, c1, w1⟩ := o1 h0 r0 H0 A
          obtain ⟨r2, le2, K2, v2, A2, c2, w2⟩ := o2 _ r1 K1 A1
          refine ⟨r2, le1.trans le2, by simpa [imps] using K2, by simpa [imps] using VRs.cons (v1.mono le2) v2, by simpa [imps] using A2, by simpa [imps] using c1.trans (c2.less L1), fun k hk => ?_⟩
          rcases w2 k (by simpa [imps] using hk) with h3 | h3
          · exact w1 k h3
          · exact .inr (L1.owned h3)

theorem callM_sound {F : List D → FT D} {g : FuncId} (hF : ∀ ds d, (F ds).run = some d → FnM C g ds d) {argv : List Value} {h h' : Heap} {v : Value} (hv : (mvF F argv h).run = some (v, h')) : CallI C g argv h v h' := by
  intro Fe n r w args hFe hro H hargs
  unfold mvF at hv
  cases ht : thr (rdM rdFuel) argv h with
  | none => rw [ht] at hv; cases hv
  | some y =>
    obtain ⟨ds, hk⟩ := y
    simp only [ht] at hv
    obtain ⟨d, hd, hvd⟩ := FT.map_run _ _ hv
    obtain ⟨Hk, L, ins⟩ := thr_ok rdFuel argv args.toList h ds hk ht H hargs
    have he := H.basis.empty
    obtain ⟨r1, _, H1, v1, A1, _, w1⟩ := ins [] _ he ⟨fun b t hb => (by rw [at_nil] at hb; cases hb), fun b t _ _ ho => (by obtain ⟨c, tc, _, c2, _⟩ := ho; cases c2)⟩
    have own1 : ∀ k, Owned r1 (imps false ds []).2 k → Owned r h k := fun k hk => by
      rcases w1 k hk with ⟨c, tc, _, c2, _⟩ | h3
      · cases c2
      · exact h3
    refine CallsIn.mono (calls_in hFe (hF ds d hd w args r1 H1 v1)) fun e w' ⟨u, r2, h2, v2, h3, m, he, S, H2, hv2, hrd⟩ => ?_
    obtain ⟨_, _, out⟩ := rdO_ok m h2 v2 d h3 u hrd H2 hv2
    have keepA : ∀ b t, (hk.at b).alive = true → r b = some t → w'.heap[t.blk]? = w.heap[t.blk]? := fun b t hb hr => by
      obtain ⟨t', hr', hlt, _⟩ := Hk.obj b hb
      rw [hr] at hr'; cases hr'
      exact S.keep _ hlt (A1.2 b t hb hr)
    have hgl : ∀ k, k < C.GB → w'.heap[k]? = w.heap[k]? := fun k hk' => S.keep k (by have := H.gb; omega) fun ho => by
      obtain ⟨b, t, hb, hr, rfl⟩ := own1 k ho
      have := H.own b t hb hr
      omega
    have Hk' : HR C.G C.GB r hk w' := ⟨Hk.dom, fun b hb => by
      obtain ⟨t, a, c, e⟩ := Hk.obj b hb
      exact ⟨t, a, Nat.lt_of_lt_of_le c S.size, ObjR.of_block (.refl _) (keepA b t hb a) e⟩, Hk.exc, Hk.glob_keep hgl, by have := Hk.gb; have := S.size; omega, Hk.own⟩
    have ap : Apart r hk r2 h2 := fun b t hb hr ho => by
      obtain ⟨t', hr', hlt, _⟩ := Hk.obj b hb
      rw [hr] at hr'; cases hr'
      exact A1.2 b t hb hr (S.own _ hlt ho)
    obtain ⟨r3, le, H3, v3, N, l1, l2⟩ := out hk r Hk' ap
    have e1 : (imp true d hk).1 = v := by rw [← hvd]
    have e2 : (imp true d hk).2 = h' := by rw [← hvd]
    rw [e2] at H3 N l1
    rw [e1] at v3
    have hlen := thr_len (rdM_len rdFuel) _ _ _ _ ht
    refine ⟨u, r3, he, ⟨le, S.os, S.tape, S.output, S.size, fun k hk2 ho => S.keep k hk2 fun h => ho (own1 k h), fun k hk2 ho => ?_, by omega, fun b t hb => ?_⟩, H3, v3⟩
    · obtain ⟨b, t, hb, hr, rfl⟩ := ho
      rcases N b t (AObj.alive_of_owned hb) hr with ⟨a, e, c⟩ | ⟨a, _⟩ | a
      · exact L.owned ⟨b, t, by rw [e]; exact hb, c, rfl⟩
      · exact own1 _ (S.own _ hk2 a)
      · exact absurd ⟨b, t, hb, hr, a⟩ H3.zero.2
    · rcases l2 b t hb with h4 | h4
      · exact .inl h4
      · exact .inr (by omega)

theorem bodyT_move (ok : CfgOk C) (sp : SpecOK C) {n : Nat} {L : List Ld} {m : Nat} {g : FuncId} {fd : AFn} (hg : C.fn g = some fd) {ds : List D} {d : D} {o : Obs} (hd : bodyT C n L m fd ds = some (o, d)) (hO : Owed C o) : FnM C g ds d := by
  intro w args r1 H1 v1
  refine (callsIn_wide (n := 0)).1 ?_
  obtain ⟨fn, f1, f2, f3, f4, f5⟩ := ok.fn g fd hg
  unfold bodyT at hd
  generalize hi : imps false ds [] = vh at hd H1 v1
  obtain ⟨argv, h0⟩ := vh
  simp only at hd H1 v1
  refine callsIn_of_wp_marks f1 f2 (wide_wide.1 g) ?_ rfl
  have hS : SR C.G C.GB w.heap.size r1 ⟨argv ++ List.replicate (fd.ntmps - argv.length) undef, h0⟩ { tmps := args ++ Array.replicate (fn.ntmps - args.size) undef, defers := [] } w := by
    have hl : argv.length = args.size := by have := v1.1; simpa using this
    refine ⟨by simp [hl, f3], fun j x hj => ?_, H1, ⟨[], rfl, by simp, by simp⟩⟩
    rcases Nat.lt_or_ge j argv.length with h1 | h1
    · simp only at hj
      rw [List.getElem?_append_left h1] at hj
      obtain ⟨u, hu, hv⟩ := v1.2 j x hj
      refine ⟨u, ?_, hv⟩
      simp only
      rw [Array.getElem?_append_left (by omega)]
      simpa using hu
    · simp only at hj
      rw [List.getElem?_append_right h1, List.getElem?_replicate] at hj
      split at hj
      · rename_i hlt
        simp only [Option.some.injEq] at hj
        subst hj
        refine ⟨undef, ?_, .tup _ _ rfl fun j h => by simp at h⟩
        simp only
        rw [Array.getElem?_append_right (by omega), Array.getElem?_replicate, if_pos (by omega)]
      · cases hj
  have fin : ∀ (s' : St) (vs : List Value), resVs C s'.heap s'.tmps fd.results = some vs → (∃ h2, rdO rdFuel s'.heap (tupV vs) = some (d, h2)) → ∀ r' a' w', StepF r1 h0 w r' s'.heap w' → SR C.G C.GB w.heap.size r' s' a' w' →
      LeavesInM Fence.wide 0 C.P fn a'.tmps (fun e w' => ∃ u r2 h2 v h3 n, e = .returned u ∧ StepF r1 h0 w r2 h2 w' ∧ HR C.G C.GB r2 h2 w' ∧ VR r2 v u ∧ rdO n h2 v = some (d, h3)) a'.defers .returning w' := fun s' vs hvs ⟨h2, hrd⟩ r' a' w' S hSR => by
    obtain ⟨rs, e1, e2, e3⟩ := hSR.marks
    rw [e1]
    refine leaves_marksF rs w' e2 e3 hSR.heap H1.gb.1 S fun w2 H2 S2 => ?_
    obtain ⟨u, p1, p2⟩ := results_run ok H2 (fun t => by rw [nthR_eq]; exact hSR.getD t) f4 hvs
    exact ⟨u, p1, u, r', _, _, h2, rdFuel, rfl, S2, H2, p2, hrd⟩
  have key : ∀ x s' o', resD C fd x s' o' = some (o, d) → o' = o ∧ (x = .normal ∨ x = .ret) ∧ ∃ vs, resVs C s'.heap s'.tmps fd.results = some vs ∧ ∃ h2, rdO rdFuel s'.heap (tupV vs) = some (d, h2) := fun x s' o' h => by
    unfold resD at h
    have main : (match resVs C s'.heap s'.tmps fd.results with
      | some vs => match rdO rdFuel s'.heap (tupV vs) with
        | some (d, _) => some (o', d)
        | none => none
      | none => none) = some (o, d) → o' = o ∧ ∃ vs, resVs C s'.heap s'.tmps fd.results = some vs ∧ ∃ h2, rdO rdFuel s'.heap (tupV vs) = some (d, h2) := fun h => by
      cases hvs : resVs C s'.heap s'.tmps fd.results with
      | none => simp [hvs] at h
      | some vs =>
        simp only [hvs] at h
        cases hr : rdO rdFuel s'.heap (tupV vs) with
        | none => simp [hr] at h
        | some q => obtain ⟨d', h2⟩ := q; simp [hr] at h; obtain ⟨rfl, rfl⟩ := h; exact ⟨rfl, vs, rfl, h2, hr⟩
    cases x with
    | exit id => cases h
    | normal => exact let ⟨a, b⟩ := main h; ⟨a, .inl rfl, b⟩
    | ret => exact let ⟨a, b⟩ := main h; ⟨a, .inr rfl, b⟩
  refine (evD_ok ok sp m fd.body _ _ _ (o, d) (fun x s o' hk => by rw [(key x s o' hk).1]; exact hO) hd).2 Fence.wide 0 w.heap.size r1 _ w _ wide_wide rfl hS (Nat.le_refl _) fun x s' o' r' a' w' S hSR hk => ?_
  obtain ⟨_, hx, vs, h1, h2⟩ := key x s' o' hk
  rcases hx with rfl | rfl
  · exact fin s' vs h1 h2 r' a' w' S hSR
  · exact fin s' vs h1 h2 r' a' w' S hSR


section
variable {N : Nat} {rel : List (Nat × Cv)} {B : Code} {id : Nat} {α : Type}
theorem ldT_rgs (ok : CfgOk C) (sp : SpecOK C) {k : Nat} (hk : k < 4611686018427387904) (st : Int × α → List D) (step : Nat → α → X × α) (inv : Nat → α → Prop)
    (hr : ∀ (j : Nat) a, j < k → inv j a → RdOK C N rel B (st ((j : Int), a)) (step j a).1 (st (nx j (step j a))))
    (hn : ∀ (j : Nat) a a', j < k → inv j a → step j a = (.normal, a') → inv (j + 1) a')
    (he : ∀ a, inv k a → RdOK C N rel B (st ((k : Int), a)) (.exit id) (st ((k : Int), a)))
    {a0 : α} {i0 : Nat} (hi0 : i0 ≤ k) (h0 : inv i0 a0) {x : X} {p : Int × α} (hx : rgRun id step (k - i0) i0 a0 = (x, p)) (hid : Nat.ble 100000 id = false := by rfl) : LdT C (ldP id N rel (outX id x) (st p)) (.loop B) (st ((i0 : Int), a0)) := by
  refine ldT_iter ok sp st (rgNext id k step) (fun p => ∃ j : Nat, p.1 = (j : Int) ∧ j ≤ k ∧ inv j p.2) (fun p ⟨j, hj, hle, hi⟩ => ?_) (fun p q ⟨j, hj, hle, hi⟩ hq => ?_) (a0 := ((i0 : Int), a0)) (b := p) (f := k - i0 + 1) ⟨i0, rfl, by omega, h0⟩ ?_ hid
  · obtain ⟨i, a⟩ := p
    simp only at hj hi
    subst hj
    unfold rgNext
    by_cases hlt : j < k
    · have hd : decide ((j : Int) < k) = true := by simp [hlt]
      have := hr j a hlt hi
      simp only [hd, cond_true, Int.toNat_natCast]
      cases hs : step j a with
      | mk y b => rw [hs] at this; cases y <;> exact this
    · have hd : decide ((j : Int) < k) = false := by simp; omega
      have hjk : j = k := by omega
      subst hjk
      simp only [hd, cond_false]
      exact he a hi
  · obtain ⟨i, a⟩ := p
    simp only at hj hi
    subst hj
    unfold rgNext at hq
    by_cases hlt : j < k
    · have hd : decide ((j : Int) < k) = true := by simp [hlt]
      simp only [hd, cond_true, Int.toNat_natCast] at hq
      cases hs : step j a with
      | mk y b =>
        rw [hs] at hq
        cases y with
        | normal =>
          simp only [Prod.mk.injEq, true_and] at hq
          subst hq
          exact ⟨j + 1, wrap_nat (by omega), by omega, hn j a b hlt hi hs⟩
        | exit id' => simp at hq
        | ret => simp at hq
    · have hd : decide ((j : Int) < k) = false := by simp; omega
      simp only [hd, cond_false] at hq
      cases hq
  · rw [← hx]; exact rg_iter id hk step (k - i0) i0 a0 (by omega)

end


def Cfg.onH (C : Cfg) (hs : List (Nat × (List Value → Heap → FT (Value × Heap)))) : Cfg := { C with mode := fun f => modeH C.mode hs f }
where
  modeH (m : FuncId → Am.Mode) : List (Nat × (List Value → Heap → FT (Value × Heap))) → FuncId → Am.Mode
    | [], f => m f
    | c :: cs, f => match Nat.beq f c.1 with
      | true => .specH c.2
      | false => modeH m cs f

def GdH (C : Cfg) (c : Nat × (List Value → Heap → FT (Value × Heap))) : Prop := ∀ argv h v h', (c.2 argv h).run = some (v, h') → CallI C c.1 argv h v h'
def GdsH (C : Cfg) : List (Nat × (List Value → Heap → FT (Value × Heap))) → Prop
  | [] => True
  | c :: cs => GdH C c ∧ GdsH C cs

theorem onH_mode {C : Cfg} : ∀ {hs : List (Nat × (List Value → Heap → FT (Value × Heap)))}, GdsH C hs → SpecOK C → ∀ (g : FuncId) (M : Am.Mode), Cfg.onH.modeH C.mode hs g = M →
    C.mode g = M ∨ ∃ F, M = .specH F ∧ ∀ argv h v h', (F argv h).run = some (v, h') → CallI C g argv h v h'
  | [], _, _, g, M, h => .inl h
  | c :: cs, ⟨h1, h2⟩, sp, g, M, h => by
    unfold Cfg.onH.modeH at h
    split at h
    · rename_i e
      rw [Nat.beq_eq] at e
      subst e
      exact .inr ⟨c.2, h.symm, h1⟩
    · exact onH_mode h2 sp g M h

theorem specs_onH {C : Cfg} (sp : SpecOK C) {hs : List (Nat × (List Value → Heap → FT (Value × Heap)))} (hh : GdsH C hs) : SpecOK (C.onH hs) := by
  refine ⟨fun g Fn hm => ?_, fun g Fn hm => ?_, fun g Fn hm => ?_, fun g Fn hm => ?_⟩
  · rcases onH_mode hh sp g _ hm with h | ⟨F, h, _⟩
    · exact sp.1 g Fn h
    · cases h
  · rcases onH_mode hh sp g _ hm with h | ⟨F, h, _⟩
    · exact sp.2.1 g Fn h
    · cases h
  · rcases onH_mode hh sp g _ hm with h | ⟨F, h, _⟩
    · exact sp.2.2.1 g Fn h
    · cases h
  · rcases onH_mode hh sp g _ hm with h | ⟨F, h, k⟩
    · exact sp.2.2.2 g Fn h
    · cases h
      exact k

theorem Cfg.onH_ok {C : Cfg} (ok : CfgOk C) (hs : List (Nat × (List Value → Heap → FT (Value × Heap)))) : CfgOk (C.onH hs) := ⟨ok.ty, ok.fn, ok.mixed⟩

theorem Gds.onH {C : Cfg} {hs : List (Nat × (List Value → Heap → FT (Value × Heap)))} : ∀ {cs : List Ct}, Gds C cs → Gds (C.onH hs) cs
  | [], _ => trivial
  | _ :: _, h => ⟨h.1, Gds.onH h.2⟩

theorem FnM.sy {C : Cfg} {cs : List Ct} {g : FuncId} {ds : List D} {d : D} (h : FnM (C.at cs) g ds d) : FnM C g ds d := fun w args r1 H v1 =>
  (h w args r1 (HR.sy.2 H) v1).mono fun _ _ ⟨u, r2, h2, v, h3, n, a, b, c, d, e⟩ => ⟨u, r2, h2, v, h3, n, a, b, HR.sy.1 c, d, e⟩

def Cfg.onI (C : Cfg) (gs : List Nat) : Cfg := { C with mode := fun f => match gs.any (Nat.beq f) with
  | true => .inl
  | false => C.mode f }

theorem specs_onI {C : Cfg} (sp : SpecOK C) (gs : List Nat) : SpecOK (C.onI gs) := by
  have key : ∀ g M, (C.onI gs).mode g = M → M = .inl ∨ C.mode g = M := fun g M h => by
    unfold Cfg.onI at h
    simp only at h
    split at h
    · exact .inl h.symm
    · exact .inr h
  refine ⟨fun g Fn hm => ?_, fun g Fn hm => ?_, fun g Fn hm => ?_, fun g Fn hm => ?_⟩
  · rcases key g _ hm with h | h
    · cases h
    · exact sp.1 g Fn h
  · rcases key g _ hm with h | h
    · cases h
    · exact sp.2.1 g Fn h
  · rcases key g _ hm with h | h
    · cases h
    · exact sp.2.2.1 g Fn h
  · rcases key g _ hm with h | h
    · cases h
    · exact sp.2.2.2 g Fn h

theorem Cfg.onI_ok {C : Cfg} (ok : CfgOk C) (gs : List Nat) : CfgOk (C.onI gs) := ⟨ok.ty, ok.fn, ok.mixed⟩
end
end Go.Am
