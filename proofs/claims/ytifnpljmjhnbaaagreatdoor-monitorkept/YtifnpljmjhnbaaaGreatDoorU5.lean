/-
  A part of the proof of the statement that the claim names: see the last file.
-/
import Derived.Test.YtifnpljmjhnbaaaGreatDoorU4
import Derived.Test.YtifnpljmjhnbaaaGreatDoorAm4
namespace Go.Proofs.YtifnpljmjhnbaaaGreatDoor
open Go Go.Am
set_option maxRecDepth 100000
noncomputable section


def cl (l : TL) (r : Ru) (f n : Nat) : Nat := (List.range' f n).countP (loudB l r)
theorem cl_zero (l : TL) (r : Ru) (f n : Nat) (h : ∀ j, f ≤ j → j < f + n → loudB l r j = false) : cl l r f n = 0 := by
  unfold cl
  rw [List.countP_eq_zero]
  intro j hj
  rw [List.mem_range'_1] at hj
  rw [h j hj.1 hj.2]
  decide
theorem cl_add (l : TL) (r : Ru) (f m n : Nat) : cl l r f (m + n) = cl l r f m + cl l r (f + m) n := by
  unfold cl
  rw [← List.countP_append, List.range'_append_1]
theorem cl_one (l : TL) (r : Ru) (i : Nat) (h : loudB l r i = true) : cl l r i 1 = 1 := by
  unfold cl
  rw [show List.range' i 1 = [i] from rfl, List.countP_cons, h]
  rfl
def GpOk (l : TL) (r : Ru) (i : Nat) (g : Gp) : Prop := ∃ f t : Nat, g.1 = f ∧ g.2.1 = t ∧ f < t ∧ t ≤ i ∧ loudB l r f = true ∧ loudB l r (t - 1) = true ∧ g.2.2 = (cl l r f (t - f) : Nat)
structure GI (l : TL) (r : Ru) (i : Nat) (G : List Gp) : Prop where
  mem : ∀ g ∈ G, GpOk l r i g
  pair : G.Pairwise fun g h => g.2.1 + r.2.1 < h.1
  cov : ∀ j : Nat, j < i → loudB l r j = true → ∃ g ∈ G, g.1 ≤ (j : Int) ∧ (j : Int) < g.2.1
theorem GpOk.up {l : TL} {r : Ru} {i : Nat} {g : Gp} (h : GpOk l r i g) : GpOk l r (i + 1) g := by
  obtain ⟨f, t, a, b, c, d, e⟩ := h
  exact ⟨f, t, a, b, c, by omega, e⟩
theorem GpOk.new {l : TL} {r : Ru} {i : Nat} (h : loudB l r i = true) : GpOk l r (i + 1) ((i : Int), (i : Int) + 1, 1) :=
  ⟨i, i + 1, rfl, by show (i : Int) + 1 = _; omega, by omega, by omega, h, by rw [Nat.add_sub_cancel]; exact h, by
    show (1 : Int) = _
    rw [show i + 1 - i = 1 by omega, cl_one l r i h]; rfl⟩
theorem GI_step {l : TL} {r : Ru} {i : Nat} {G : List Gp} (hg : 0 ≤ r.2.1) (h : GI l r i G) : GI l r (i + 1) (stepL l r G i) := by
  unfold stepL
  cases hl : loudB l r i with
  | false =>
    refine ⟨fun g hg => (h.mem g hg).up, h.pair, fun j hj hjl => ?_⟩
    refine h.cov j ?_ hjl
    by_cases e : j = i
    · rw [e, hl] at hjl; cases hjl
    · omega
  | true =>
    simp only [cond_true]
    rcases snoc_or G with rfl | ⟨P, g, rfl⟩
    · rw [putG_nil]
      refine ⟨fun g hg => ?_, List.pairwise_singleton _ _, fun j hj hjl => ?_⟩
      · rw [List.mem_singleton] at hg; rw [hg]; exact GpOk.new hl
      · by_cases e : j = i
        · subst e
          exact ⟨_, List.mem_singleton.2 rfl, by show (j : Int) ≤ j; omega, by show (j : Int) < j + 1; omega⟩
        · obtain ⟨g, hg, _⟩ := h.cov j (by omega) hjl
          cases hg
    · rw [putG_snoc]
      obtain ⟨f, t, e1, e2, e3, e4, e5, e6, e7⟩ := h.mem g (by simp)
      obtain ⟨p1, p2, p3⟩ := List.pairwise_append.1 h.pair
      have quiet : ∀ j, t ≤ j → j < t + (i - t) → loudB l r j = false := fun j h1 h2 => by
        cases hj : loudB l r j with
        | false => rfl
        | true =>
          obtain ⟨g', hg', c1, c2⟩ := h.cov j (by omega) hj
          rcases List.mem_append.1 hg' with hg' | hg'
          · have := p3 g' hg' g (by simp)
            omega
          · rw [List.mem_singleton] at hg'
            rw [hg'] at c2
            omega
      cases hc : decide ((i : Int) - g.2.1 ≤ r.2.1) with
      | true =>
        simp only [cond_true]
        refine ⟨fun x hx => ?_, ?_, fun j hj hjl => ?_⟩
        · rcases List.mem_append.1 hx with hx | hx
          · exact (h.mem x (by simp [hx])).up
          · rw [List.mem_singleton] at hx
            rw [hx]
            refine ⟨f, i + 1, e1, by show (i : Int) + 1 = _; omega, by omega, by omega, e5, by rw [Nat.add_sub_cancel]; exact hl, ?_⟩
            show g.2.2 + 1 = _
            rw [show i + 1 - f = (t - f) + ((i - t) + 1) by omega, cl_add, cl_add, show f + (t - f) = t by omega, cl_zero l r t (i - t) quiet, show t + (i - t) = i by omega, cl_one l r i hl, e7]
            omega
        · refine List.pairwise_append.2 ⟨p1, List.pairwise_singleton _ _, fun x hx y hy => ?_⟩
          rw [List.mem_singleton] at hy
          rw [hy]
          exact p3 x hx g (by simp)
        · by_cases e : j = i
          · exact ⟨_, List.mem_append.2 (.inr (List.mem_singleton.2 rfl)), by show g.1 ≤ (j : Int); omega, by show (j : Int) < (i : Int) + 1; omega⟩
          · obtain ⟨g', hg', c1, c2⟩ := h.cov j (by omega) hjl
            rcases List.mem_append.1 hg' with hg' | hg'
            · exact ⟨g', by simp [hg'], c1, c2⟩
            · rw [List.mem_singleton] at hg'
              rw [hg'] at c1 c2
              exact ⟨_, List.mem_append.2 (.inr (List.mem_singleton.2 rfl)), c1, by show (j : Int) < (i : Int) + 1; omega⟩
      | false =>
        have hc' := of_decide_eq_false hc
        simp only [cond_false]
        refine ⟨fun x hx => ?_, ?_, fun j hj hjl => ?_⟩
        · rcases List.mem_append.1 hx with hx | hx
          · exact (h.mem x hx).up
          · rw [List.mem_singleton] at hx
            rw [hx]
            exact GpOk.new hl
        · refine List.pairwise_append.2 ⟨h.pair, List.pairwise_singleton _ _, fun x hx y hy => ?_⟩
          rw [List.mem_singleton] at hy
          rw [hy]
          show x.2.1 + r.2.1 < (i : Int)
          rcases List.mem_append.1 hx with hx | hx
          · have := p3 x hx g (by simp)
            omega
          · rw [List.mem_singleton] at hx
            rw [hx]
            omega
        · by_cases e : j = i
          · subst e
            exact ⟨_, List.mem_append.2 (.inr (List.mem_singleton.2 rfl)), by show (j : Int) ≤ j; omega, by show (j : Int) < j + 1; omega⟩
          · obtain ⟨g', hg', c⟩ := h.cov j (by omega) hjl
            exact ⟨g', List.mem_append.2 (.inl hg'), c⟩
theorem GI_all {l : TL} {r : Ru} (hg : 0 ≤ r.2.1) : ∀ n, GI l r n (GG l r n)
  | 0 => ⟨fun g hg => by simp [GG] at hg, by simp [GG], fun j hj _ => by omega⟩
  | n + 1 => by rw [GG_succ]; exact GI_step hg (GI_all hg n)


def lastTo (G : List Gp) : Option Int := G.getLast?.map (·.2.1)
theorem lastTo_snoc (P : List Gp) (g : Gp) : lastTo (P ++ [g]) = some g.2.1 := by unfold lastTo; simp
theorem GG_len (l : TL) (t g a b : Int) : ∀ n, lastTo (GG l (t, g, a) n) = lastTo (GG l (t, g + 1, b) n) ∧ (GG l (t, g + 1, b) n).length ≤ (GG l (t, g, a) n).length
  | 0 => ⟨rfl, Nat.le_refl _⟩
  | n + 1 => by
    obtain ⟨h1, h2⟩ := GG_len l t g a b n
    rw [GG_succ, GG_succ]
    generalize GG l (t, g, a) n = A at h1 h2
    generalize GG l (t, g + 1, b) n = B at h1 h2
    unfold stepL
    show lastTo (bif loudB l (t, g, a) n then putG g A n else A) = lastTo (bif loudB l (t, g, a) n then putG (g + 1) B n else B) ∧ (bif loudB l (t, g, a) n then putG (g + 1) B n else B).length ≤ (bif loudB l (t, g, a) n then putG g A n else A).length
    cases loudB l (t, g, a) n with
    | false => exact ⟨h1, h2⟩
    | true =>
      simp only [cond_true]
      rcases snoc_or A with rfl | ⟨P, x, rfl⟩
      · rcases snoc_or B with rfl | ⟨Q, y, rfl⟩
        · rw [putG_nil, putG_nil]
          exact ⟨rfl, Nat.le_refl _⟩
        · rw [lastTo_snoc] at h1; cases h1
      · rcases snoc_or B with rfl | ⟨Q, y, rfl⟩
        · rw [lastTo_snoc] at h1; cases h1
        · rw [lastTo_snoc, lastTo_snoc] at h1
          have e : x.2.1 = y.2.1 := Option.some.inj h1
          simp only [List.length_append, List.length_singleton] at h2
          rw [putG_snoc, putG_snoc, ← e]
          cases c1 : decide ((n : Int) - x.2.1 ≤ g) with
          | true =>
            have := of_decide_eq_true c1
            rw [decide_eq_true (show (n : Int) - x.2.1 ≤ g + 1 by omega)]
            simp only [cond_true]
            exact ⟨by rw [lastTo_snoc, lastTo_snoc], by simp; omega⟩
          | false =>
            simp only [cond_false]
            cases decide ((n : Int) - x.2.1 ≤ g + 1) with
            | true => exact ⟨by simp only [cond_true]; rw [lastTo_snoc, lastTo_snoc], by simp; omega⟩
            | false => exact ⟨by simp only [cond_false]; rw [lastTo_snoc, lastTo_snoc], by simp; omega⟩
theorem GG_least (l : TL) (t g a b : Int) : ∀ n, GG l (t, g, a) n = GG l (t, g, b) n
  | 0 => rfl
  | n + 1 => by rw [GG_succ, GG_succ, GG_least l t g a b n]; rfl
end
end Go.Proofs.YtifnpljmjhnbaaaGreatDoor

namespace Go.Proofs.YtifnpljmjhnbaaaGreatDoor
open Go Go.Am
set_option maxRecDepth 100000
noncomputable section


def RecOk (R : TL) : Prop := 1 ≤ R.length ∧ R.length ≤ 40 ∧ ∀ j, j < R.length → -1 ≤ i1 (nth R j) ∧ i1 (nth R j) ≤ 1000000
def hfold (l : TL) (f n : Nat) : A4 := (List.range' f n).foldl (fun a (j : Nat) => stepH (i1 (nth l j)) j a) (0, 0, (f : Int), 0)
theorem hfold_succ (l : TL) (f n : Nat) : hfold l f (n + 1) = stepH (i1 (nth l (f + n))) ((f + n : Nat) : Int) (hfold l f n) := by
  unfold hfold
  rw [List.range'_concat, List.foldl_append]
  simp
structure Hi (l : TL) (f n : Nat) (a : A4) (q : Nat) : Prop where
  q1 : f ≤ q
  q2 : q < f + n
  at' : a.2.2.1 = q
  pk : i1 (nth l q) = a.2.1
  pos : 1 ≤ a.2.1
  all : ∀ m, f ≤ m → m < f + n → i1 (nth l m) ≠ -1 → i1 (nth l m) ≤ a.2.1 ∧ (i1 (nth l m) = a.2.1 → q ≤ m)
  s1 : 0 ≤ a.1
  s2 : a.1 ≤ (n : Int) * 1000000
theorem hfold_inv {l : TL} (hl : RecOk l) (f : Nat) (h1 : 1 ≤ i1 (nth l f)) : ∀ n, f + (n + 1) ≤ l.length → ∃ q, Hi l f (n + 1) (hfold l f (n + 1)) q
  | 0, hn => by
    have hb := (hl.2.2 f (by omega)).2
    rw [hfold_succ]
    have e : stepH (i1 (nth l (f + 0))) ((f + 0 : Nat) : Int) (hfold l f 0) = (i1 (nth l f), i1 (nth l f), (f : Int), 0) := by
      show stepH (i1 (nth l f)) (f : Int) (0, 0, (f : Int), 0) = _
      unfold stepH
      rw [beq_eq_false_iff_ne.2 (show i1 (nth l f) ≠ -1 by omega), decide_eq_true (show i1 (nth l f) > ((0 : Int), (0 : Int), (f : Int), (0 : Int)).2.1 by show i1 (nth l f) > 0; omega)]
      simp only [cond_false, cond_true]
      rw [W_id (by omega) (by omega), Int.zero_add]
    rw [e]
    refine ⟨f, by omega, by omega, rfl, rfl, h1, fun m m1 m2 _ => ?_, by show (0 : Int) ≤ i1 (nth l f); omega, by show i1 (nth l f) ≤ _; omega⟩
    rw [show m = f by omega]
    exact ⟨Int.le_refl _, fun _ => Nat.le_refl _⟩
  | n + 1, hn => by
    obtain ⟨q, H⟩ := hfold_inv hl f h1 n (by omega)
    rw [hfold_succ]
    generalize hfold l f (n + 1) = a at H
    obtain ⟨b1, b2⟩ := hl.2.2 (f + (n + 1)) (by omega)
    have q1 := H.q1
    have q2 := H.q2
    have s1 := H.s1
    have s2 := H.s2
    have pos := H.pos
    have hlen := hl.2.1
    unfold stepH
    cases hm : (i1 (nth l (f + (n + 1))) == -1) with
    | true =>
      simp only [cond_true]
      have hm := beq_iff_eq.1 hm
      refine ⟨q, q1, by omega, H.at', H.pk, pos, fun m m1 m2 m3 => ?_, s1, by show a.1 ≤ _; omega⟩
      by_cases e : m = f + (n + 1)
      · rw [e] at m3; exact absurd hm m3
      · exact H.all m m1 (by omega) m3
    | false =>
      have hm := beq_eq_false_iff_ne.1 hm
      simp only [cond_false]
      cases hc : decide (i1 (nth l (f + (n + 1))) > a.2.1) with
      | true =>
        have hc := of_decide_eq_true hc
        simp only [cond_true]
        refine ⟨f + (n + 1), by omega, by omega, rfl, rfl, by show 1 ≤ i1 (nth l (f + (n + 1))); omega, fun m m1 m2 m3 => ?_, ?_, ?_⟩
        · show i1 (nth l m) ≤ i1 (nth l (f + (n + 1))) ∧ (i1 (nth l m) = i1 (nth l (f + (n + 1))) → _)
          by_cases e : m = f + (n + 1)
          · rw [e]; exact ⟨Int.le_refl _, fun _ => Nat.le_refl _⟩
          · obtain ⟨p1, _⟩ := H.all m m1 (by omega) m3
            exact ⟨by omega, fun h => by omega⟩
        · show 0 ≤ IntKind.i64.wrap (a.1 + _)
          rw [W_id (by omega) (by omega)]; omega
        · show IntKind.i64.wrap (a.1 + _) ≤ _
          rw [W_id (by omega) (by omega)]; omega
      | false =>
        have hc := of_decide_eq_false hc
        simp only [cond_false]
        refine ⟨q, q1, by omega, H.at', H.pk, pos, fun m m1 m2 m3 => ?_, ?_, ?_⟩
        · show i1 (nth l m) ≤ a.2.1 ∧ (i1 (nth l m) = a.2.1 → _)
          by_cases e : m = f + (n + 1)
          · rw [e]; exact ⟨by omega, fun _ => by omega⟩
          · exact H.all m m1 (by omega) m3
        · show 0 ≤ IntKind.i64.wrap (a.1 + _)
          rw [W_id (by omega) (by omega)]; omega
        · show IntKind.i64.wrap (a.1 + _) ≤ _
          rw [W_id (by omega) (by omega)]; omega
theorem cnt_fold (l : TL) (t : Int) : ∀ (L : List Nat) (c : Int × Int × Int) (a : A4), c.1 = a.1 → c.2.1 = a.2.2.2 →
    (L.foldl (fun c (j : Nat) => stL t (i1 (nth l j)) c) c).1 = (L.foldl (fun a (j : Nat) => stepH (i1 (nth l j)) j a) a).1 ∧ (L.foldl (fun c (j : Nat) => stL t (i1 (nth l j)) c) c).2.1 = (L.foldl (fun a (j : Nat) => stepH (i1 (nth l j)) j a) a).2.2.2
  | [], c, a, h1, h2 => ⟨h1, h2⟩
  | j :: L, c, a, h1, h2 => by
    rw [List.foldl_cons, List.foldl_cons]
    refine cnt_fold l t L _ _ ?_ ?_
    · unfold stL stepH
      rw [h1]
      cases (i1 (nth l j) == -1)
      · cases decide (i1 (nth l j) > a.2.1) <;> rfl
      · rfl
    · unfold stL stepH
      rw [h2]
      cases (i1 (nth l j) == -1)
      · cases decide (i1 (nth l j) > a.2.1) <;> rfl
      · rfl
theorem cnt_succ (l : TL) (t : Int) (f n : Nat) : cnt4 l t f (n + 1) = stL t (i1 (nth l (f + n))) (cnt4 l t f n) := by
  unfold cnt4
  rw [List.range'_concat, List.foldl_append]
  simp
theorem cnt_loud (l : TL) (r : Ru) (ht : 1 ≤ r.1) (f : Nat) : ∀ n, n ≤ 100000 → (cnt4 l r.1 f n).2.2 = (cl l r f n : Nat) ∧ cl l r f n ≤ n
  | 0, _ => ⟨rfl, Nat.le_refl _⟩
  | n + 1, hn => by
    obtain ⟨h1, h2⟩ := cnt_loud l r ht f n (by omega)
    rw [cnt_succ, cl_add l r f n 1]
    have hc : cl l r (f + n) 1 = if decide (i1 (nth l (f + n)) ≥ r.1) then 1 else 0 := by
      unfold cl
      rw [show List.range' (f + n) 1 = [f + n] from rfl, List.countP_cons, List.countP_nil]
      show 0 + _ = _
      unfold loudB
      simp
    rw [hc]
    unfold stL
    cases hm : (i1 (nth l (f + n)) == -1) with
    | true =>
      have hm := beq_iff_eq.1 hm
      rw [decide_eq_false (show ¬ i1 (nth l (f + n)) ≥ r.1 by omega)]
      simp only [cond_true]
      exact ⟨by rw [h1]; simp, by simp; omega⟩
    | false =>
      simp only [cond_false]
      cases hd : decide (i1 (nth l (f + n)) ≥ r.1) with
      | true =>
        simp only [cond_true]
        rw [h1, W_id (by omega) (by omega)]
        exact ⟨by simp, by simp; omega⟩
      | false =>
        simp only [cond_false]
        exact ⟨by rw [h1]; simp, by simp; omega⟩


theorem within_ok {n lo hi : Int} (h1 : lo ≤ n) (h2 : n ≤ hi) : withinZ n lo hi = 0 := by
  unfold withinZ whenZ
  rw [decide_eq_false (show ¬ n < lo by omega), decide_eq_false (show ¬ n > hi by omega)]
  rfl
theorem firstZ_all : ∀ {L : List Int}, (∀ e ∈ L, e = 0) → firstZ L = 0
  | [], _ => rfl
  | e :: L, h => by
    unfold firstZ
    rw [h e (by simp)]
    exact firstZ_all fun x hx => h x (List.mem_cons_of_mem _ hx)
theorem chkR_ok {R : TL} (h : RecOk R) : chkR R = 0 := by
  unfold chkR emE maE whenZ
  rw [beq_eq_false_iff_ne.2 (show (R.length : Int) ≠ 0 by have := h.1; omega), decide_eq_false (show ¬ (R.length : Int) > 1024 by have := h.2.1; omega)]
  have : rgE R (-1) maxE = 0 := by
    unfold rgE
    refine firstZ_all fun e he => ?_
    rw [List.map_map] at he
    obtain ⟨x, hx, rfl⟩ := List.mem_map.1 he
    obtain ⟨j, hj, rfl⟩ := List.getElem_of_mem hx
    have hb := h.2.2 j hj
    rw [show nth R j = R[j] by simp [nth, hj]] at hb
    show withinZ (i1 R[j]) (-1) maxE = 0
    refine within_ok hb.1 ?_
    have : maxE = 10000000000000 := rfl
    omega
  rw [this]
  rfl
theorem ru_ok {t g le : Int} (h1 : 1 ≤ t) (h2 : t ≤ maxE) (h3 : 0 ≤ g) (h4 : g ≤ 60) (h5 : 1 ≤ le) (h6 : le ≤ 1024) : ruE t g le = 0 := by
  unfold ruE
  refine firstZ_all fun e he => ?_
  simp only [List.mem_cons, List.not_mem_nil, or_false] at he
  rcases he with rfl | rfl | rfl
  · exact within_ok h1 h2
  · exact within_ok h3 h4
  · exact within_ok h5 h6
theorem gpEv_eq {R : TL} {r : Ru} (hR : RecOk R) (ht : 1 ≤ r.1) {g : Gp} {f t : Nat} (e1 : g.1 = f) (e2 : g.2.1 = t) (h3 : f < t) (h4 : t ≤ R.length) (h5 : loudB R r f = true) : gpEv R g = evT f t (hfold R f (t - f)) := by
  have h5 := of_decide_eq_true h5
  have hlen := hR.2.1
  unfold gpEv
  rw [e1, e2, Int.toNat_natCast, Int.toNat_natCast, evP_eq h3 h4 (by omega) (by omega)]
  rfl
theorem evs_small {R : TL} {r : Ru} (hR : RecOk R) (ht : 1 ≤ r.1) (hg : 0 ≤ r.2.1) : (evsP R r).any bgE = false := by
  rw [← Bool.not_eq_true, List.any_eq_true]
  rintro ⟨e, he, hb⟩
  unfold evsP at he
  obtain ⟨g, hgm, rfl⟩ := List.mem_map.1 he
  obtain ⟨f, t, e1, e2, e3, e4, e5, _⟩ := (GI_all hg R.length).mem g (List.mem_filter.1 hgm).1
  rw [gpEv_eq hR ht e1 e2 e3 e4 e5] at hb
  have hb := of_decide_eq_true hb
  obtain ⟨q, H⟩ := hfold_inv hR f (by have := of_decide_eq_true e5; omega) (t - f - 1) (by omega)
  rw [show t - f - 1 + 1 = t - f by omega] at H
  have s2 := H.s2
  have hb : (hfold R f (t - f)).1 > maxE := hb
  have hm : maxE = 10000000000000 := rfl
  have := hR.2.1
  omega
theorem ev36_ok {R : TL} {r : Ru} (hR : RecOk R) (h1 : 1 ≤ r.1) (h2 : r.1 ≤ maxE) (h3 : 0 ≤ r.2.1) (h4 : r.2.1 ≤ 60) (h5 : 1 ≤ r.2.2) (h6 : r.2.2 ≤ 1024) : ev36 R r = (evsP R r, 0) := by
  unfold ev36 e36
  rw [chkR_ok hR, ru_ok h1 h2 h3 h4 h5 h6, evs_small hR h1 h3]
  rfl
theorem from_inj {gap : Int} (hg : 0 ≤ gap) {G : List Gp} (hp : G.Pairwise fun g h => g.2.1 + gap < h.1) (hl : ∀ g ∈ G, g.1 < g.2.1) {x y : Gp} (hx : x ∈ G) (hy : y ∈ G) (h : x.1 = y.1) : x = y := by
  obtain ⟨i, hi, rfl⟩ := List.getElem_of_mem hx
  obtain ⟨j, hj, rfl⟩ := List.getElem_of_mem hy
  rw [List.pairwise_iff_getElem] at hp
  rcases Nat.lt_trichotomy i j with hij | hij | hij
  · have := hp i j hi hj hij
    have := hl _ (List.getElem_mem hi)
    omega
  · subst hij; rfl
  · have := hp j i hj hi hij
    have := hl _ (List.getElem_mem hj)
    omega
theorem sameEv_self (e : Tup evK) : sameEv e e = true := by
  unfold sameEv
  simp
theorem all_sel {R : TL} {t g : Int} (h3 : 0 ≤ g) : (GG R (t, g, 1) R.length).filter (selG (t, g, 1)) = GG R (t, g, 1) R.length := by
  rw [List.filter_eq_self]
  intro x hx
  obtain ⟨f, q, e1, e2, e3, e4, e5, e6, e7⟩ := (GI_all (r := (t, g, 1)) h3 R.length).mem x hx
  refine decide_eq_true ?_
  show x.2.2 ≥ 1
  rw [e7]
  have : 1 ≤ cl R (t, g, 1) f (q - f) := by
    rw [show q - f = 1 + (q - f - 1) by omega, cl_add, cl_one R _ f e5]
    omega
  omega
theorem evOk {R : TL} {t g le : Int} (hR : RecOk R) (h1 : 1 ≤ t) (h3 : 0 ≤ g) (k : Kx) (ka : k.a = evsP R (t, g, 1)) (kc : k.c = evsP R (t, g, le)) (kr : k.r = R) (kt : k.t = t) (kg : k.g = g) (kl : k.le = le) (i : Nat) (hi : i < k.a.length) :
    ∃ f t a, EvOk k i f t a := by
  have GIa := GI_all (l := R) (r := (t, g, 1)) h3 R.length
  have hae : k.a = (GG R (t, g, 1) R.length).map (gpEv R) := by rw [ka]; unfold evsP; rw [all_sel h3]
  have hce : k.c = ((GG R (t, g, 1) R.length).filter (fun x => decide (x.2.2 ≥ le))).map (gpEv R) := by
    rw [kc]; unfold evsP; rw [GG_least R t g le 1]; rfl
  have hiG : i < (GG R (t, g, 1) R.length).length := by rw [hae, List.length_map] at hi; exact hi
  have hget : ∀ j, (h : j < (GG R (t, g, 1) R.length).length) → nth k.a j = gpEv R (GG R (t, g, 1) R.length)[j] := fun j h => by
    rw [hae, nth_map (gpEv R) _ (0, 0, 0) h]
    simp [h]
  have hmem := List.getElem_mem hiG
  generalize hG : GG R (t, g, 1) R.length = G at *
  obtain ⟨f, q, e1, e2, e3, e4, e5, e6, e7⟩ := GIa.mem G[i] hmem
  have hev : nth k.a i = evT f q (hfold R f (q - f)) := by rw [hget i hiG, gpEv_eq (r := (t, g, 1)) hR h1 e1 e2 e3 e4 e5]
  have l5 := of_decide_eq_true e5
  have l6 := of_decide_eq_true e6
  have l5 : i1 (nth R f) ≥ t := l5
  have l6 : i1 (nth R (q - 1)) ≥ t := l6
  obtain ⟨a, H⟩ := hfold_inv hR f (by omega) (q - f - 1) (by omega)
  rw [show q - f - 1 + 1 = q - f by omega] at H
  have hlen := hR.2.1
  obtain ⟨c1, c2⟩ := cnt_fold R t (List.range' f (q - f)) (0, 0, 0) (0, 0, (f : Int), 0) rfl rfl
  obtain ⟨c3, _⟩ := cnt_loud R (t, g, 1) h1 f (q - f) (by omega)
  have q2 := H.q2
  refine ⟨f, q, a, ?_, ?_, ?_, e3, by rw [kr]; exact e4, ?_, by rw [kr, kt]; exact l5, by rw [kr, kt]; exact l6, H.q1, by omega, ?_, ?_, ?_, ?_, ?_⟩
  · rw [hev]; rfl
  · rw [hev]; rfl
  · rw [hev]; exact H.at'
  · intro j hj
    have hjG : j < G.length := by omega
    have hp := List.pairwise_iff_getElem.1 GIa.pair j i hjG hiG (by omega)
    obtain ⟨f', q', d1, d2, d3, d4, _⟩ := GIa.mem G[j] (List.getElem_mem hjG)
    have : et (nth k.a j) = G[j].2.1 := by rw [hget j hjG]; rfl
    rw [this, kg]
    have hp : G[j].2.1 + g < G[i].1 := hp
    refine ⟨by omega, by omega, by omega⟩
  · rw [kr, hev]; exact H.pk
  · intro m m1 m2 m3
    rw [kr] at m3 ⊢
    rw [hev]
    obtain ⟨p1, p2⟩ := H.all m m1 (by omega) m3
    refine ⟨p1, fun h => ?_⟩
    have := p2 h
    show (hfold R f (q - f)).2.2.1 ≤ _
    rw [H.at']
    omega
  · rw [kr, kt, hev]; exact c1
  · rw [kr, kt, hev]; exact c2
  · rw [kr, kt, kl, c3, ← e7]
    unfold keptB
    rw [Bool.eq_iff_iff, List.any_eq_true, decide_eq_true_iff]
    constructor
    · rintro ⟨x, hx, hs⟩
      rw [hce] at hx
      obtain ⟨y, hy, rfl⟩ := List.mem_map.1 hx
      obtain ⟨hy1, hy2⟩ := List.mem_filter.1 hy
      have hy2 := of_decide_eq_true hy2
      rw [hget i hiG] at hs
      have hfrom : y.1 = G[i].1 := by
        unfold sameEv at hs
        simp only [Bool.and_eq_true, beq_iff_eq] at hs
        exact hs.1.1
      have := from_inj h3 GIa.pair (fun z hz => by obtain ⟨f', q', d1, d2, d3, _⟩ := GIa.mem z hz; omega) hy1 hmem hfrom
      rw [← this]
      exact hy2
    · intro h
      refine ⟨gpEv R G[i], ?_, by rw [hget i hiG]; exact sameEv_self _⟩
      rw [hce]
      exact List.mem_map.2 ⟨G[i], List.mem_filter.2 ⟨hmem, decide_eq_true h⟩, rfl⟩
theorem covOk {R : TL} {t g : Int} (h3 : 0 ≤ g) (j : Nat) (hj : j < R.length) (hl : i1 (nth R j) ≥ t) :
    ∃ i, i < (evsP R (t, g, 1)).length ∧ (ef (nth (evsP R (t, g, 1)) i)).toNat ≤ j ∧ j < (et (nth (evsP R (t, g, 1)) i)).toNat := by
  have GIa := GI_all (l := R) (r := (t, g, 1)) h3 R.length
  have hae : evsP R (t, g, 1) = (GG R (t, g, 1) R.length).map (gpEv R) := by unfold evsP; rw [all_sel h3]
  obtain ⟨x, hx, c1, c2⟩ := GIa.cov j hj (decide_eq_true hl)
  obtain ⟨i, hi, rfl⟩ := List.getElem_of_mem hx
  refine ⟨i, by rw [hae, List.length_map]; exact hi, ?_⟩
  rw [hae, nth_map (gpEv R) _ (0, 0, 0) hi]
  have e : (GG R (t, g, 1) R.length).getD i (0, 0, 0) = (GG R (t, g, 1) R.length)[i] := by simp [hi]
  rw [e]
  show ((GG R (t, g, 1) R.length)[i].1).toNat ≤ j ∧ j < ((GG R (t, g, 1) R.length)[i].2.1).toNat
  omega
end
end Go.Proofs.YtifnpljmjhnbaaaGreatDoor

namespace Go.Proofs.YtifnpljmjhnbaaaGreatDoor
open Go Go.Am
set_option maxRecDepth 100000
variable {w0 : World}
noncomputable section


theorem wf16 {n : Int} (h : WfE (.int .u16) n) : 0 ≤ n ∧ n ≤ 65535 := by
  have h : (decide (IntKind.u16.min ≤ n) && decide (n ≤ IntKind.u16.max)) = true := h
  rw [Bool.and_eq_true, decide_eq_true_eq, decide_eq_true_eq] at h
  have e1 : IntKind.u16.min = 0 := by decide
  have e2 : IntKind.u16.max = 65535 := by decide
  omega
theorem wf32 {n : Int} (h : WfE (.int .u32) n) : 0 ≤ n := by
  have h : (decide (IntKind.u32.min ≤ n) && decide (n ≤ IntKind.u32.max)) = true := h
  rw [Bool.and_eq_true, decide_eq_true_eq, decide_eq_true_eq] at h
  have e1 : IntKind.u32.min = 0 := by decide
  omega
theorem tmod_b {x k : Int} (hx : 0 ≤ x) (hk : 0 < k) : 0 ≤ x.tmod k ∧ x.tmod k < k := by
  rw [Int.tmod_eq_emod_of_nonneg hx]
  exact ⟨Int.emod_nonneg _ (by omega), Int.emod_lt_of_pos _ hk⟩
theorem thr_eq {x : Int} (h1 : 0 ≤ x) (h2 : x ≤ 65535) : IntKind.i64.wrap (1 + IntKind.i64.wrap (IntKind.i64.wrap x * 16)) = 1 + x * 16 := by
  rw [W_id (n := x) (by omega) (by omega), W_id (n := x * 16) (by omega) (by omega), W_id (by omega) (by omega)]
structure NOk (n : Tup hK) : Prop where
  t1 : 1 ≤ thr10 n
  t2 : thr10 n ≤ 2000000
  g1 : 0 ≤ gap10 n
  g2 : gap10 n ≤ 4
  l1 : 1 ≤ lea10 n
  l2 : lea10 n ≤ 4
  f1 : 500 ≤ fac10 n
  f2 : fac10 n ≤ 1499
theorem nOk {n : Tup hK} (h : WfT hK n) : NOk n := by
  obtain ⟨h0, h1, h2, h3, _⟩ := h
  obtain ⟨a0, b0⟩ := wf16 h0
  obtain ⟨a1, b1⟩ := wf16 h1
  obtain ⟨a2, b2⟩ := wf16 h2
  obtain ⟨a3, b3⟩ := wf16 h3
  have e0 : thr10 n = _ := thr_eq a0 b0
  have e1 : gap10 n = (n.2.1 : Int).tmod 5 := by
    unfold gap10
    rw [W_id (n := n.2.1) (by omega) (by omega)]
  obtain ⟨c1, d1⟩ := tmod_b (k := 5) a1 (by omega)
  obtain ⟨c2, d2⟩ := tmod_b (k := 4) a2 (by omega)
  obtain ⟨c3, d3⟩ := tmod_b (k := 1000) a3 (by omega)
  have e2 : lea10 n = 1 + (n.2.2.1 : Int).tmod 4 := by
    unfold lea10
    rw [W_id (n := n.2.2.1) (by omega) (by omega), W_id (by omega) (by omega)]
  have e3 : fac10 n = 500 + (n.2.2.2.1 : Int).tmod 1000 := by
    unfold fac10
    rw [W_id (n := n.2.2.2.1) (by omega) (by omega), W_id (by omega) (by omega)]
  exact ⟨by rw [e0]; omega, by rw [e0]; omega, by rw [e1]; exact c1, by rw [e1]; omega, by rw [e2]; omega, by rw [e2]; omega, by rw [e3]; omega, by rw [e3]; omega⟩
theorem cal_ok {F M : Int} (f1 : 500 ≤ F) (f2 : F ≤ 1499) (hM : M = 1000000000 / F) : cal 1000000 M (IntKind.i64.wrap (M + 1)) = (1000000000 / (M + 1), (1000000000 + M - 1) / M, 0) ∧ 0 ≤ 1000000000 / (M + 1) ∧ 1000000000 / (M + 1) ≤ F ∧ F ≤ (1000000000 + M - 1) / M ∧ (1000000000 + M - 1) / M ≤ 10000 ∧ 667000 ≤ M ∧ M ≤ 2000000 := by
  have h1 : M * F ≤ 1000000000 := by rw [hM]; exact Int.ediv_mul_le _ (by omega)
  have h2 : 1000000000 < (M + 1) * F := by
    rw [hM]
    exact Int.lt_ediv_add_one_mul_self _ (by omega)
  have h3 : M ≤ 2000000 := by
    rw [hM]
    have : (1000000000 : Int) / F < 2000001 := (Int.ediv_lt_iff_lt_mul (by omega)).2 (by omega)
    omega
  have h4 : 667000 ≤ M := by
    rw [hM]
    exact (Int.le_ediv_iff_mul_le (by omega)).2 (by omega)
  have k1 : 1000000000 / (M + 1) ≤ F := by
    have : 1000000000 / (M + 1) < F := (Int.ediv_lt_iff_lt_mul (by omega)).2 (by rw [Int.mul_comm]; exact h2)
    omega
  have k0 : 0 ≤ 1000000000 / (M + 1) := Int.ediv_nonneg (by omega) (by omega)
  have k2 : F ≤ (1000000000 + M - 1) / M := (Int.le_ediv_iff_mul_le (by omega)).2 (by rw [Int.mul_comm]; omega)
  have k3 : (1000000000 + M - 1) / M ≤ 10000 := by
    have : (1000000000 + M - 1) / M < 10001 := (Int.ediv_lt_iff_lt_mul (by omega)).2 (by omega)
    omega
  refine ⟨?_, k0, k1, k2, k3, h4, h3⟩
  rw [W_id (by omega) (by omega)]
  have w1 : IntKind.i64.wrap (1000 * 1000000) = 1000000000 := by rw [W_id (by omega) (by omega)]; rfl
  have e : e15 1000000 M (M + 1) = 0 := by
    unfold e15 interZ
    rw [within_ok (by omega) (by omega), within_ok (n := M) (by omega) (by omega), within_ok (n := M + 1) (by omega) (by omega)]
    unfold whenZ
    rw [decide_eq_false (show ¬ M > M + 1 by omega)]
    rfl
  have eh : hi15 1000000 M = (1000000000 + M - 1) / M := by
    unfold hi15
    rw [w1, upZ_eq (by omega) (by omega) (by omega) (by omega)]
  have el : lo15 1000000 (M + 1) = 1000000000 / (M + 1) := by
    unfold lo15
    rw [w1, tdivW (by omega) (by omega) (by omega)]
  unfold cal
  rw [e, eh, el, decide_eq_false (show ¬ (1000000000 + M - 1) / M > 10000 by omega)]
  rfl
theorem bigL_any' (l : List (Tup IvK)) : bigL l = l.any biB := by
  unfold bigL ixB
  rw [ixR_any, range_any biB]
theorem co_ok {x L H F : Int} (x1 : 0 ≤ x) (x2 : x ≤ 1000000) (l0 : 0 ≤ L) (lf : L ≤ F) (fh : F ≤ H) (h1 : H ≤ 10000) : lo95 x L = x * L / 1000 ∧ hi95 x H = (x * H + 1000 - 1) / 1000 ∧ 0 ≤ x * L / 1000 ∧ 1000 * (x * L / 1000) ≤ x * F ∧ x * F ≤ 1000 * ((x * H + 1000 - 1) / 1000) ∧ (x * H + 1000 - 1) / 1000 ≤ 20000000 ∧ 0 ≤ x * F ∧ x * F ≤ 20000000000 := by
  have a1 : x * L ≤ x * F := Int.mul_le_mul_of_nonneg_left lf x1
  have a2 : x * F ≤ x * H := Int.mul_le_mul_of_nonneg_left fh x1
  have a3 : x * H ≤ x * 10000 := Int.mul_le_mul_of_nonneg_left h1 x1
  have a0 : 0 ≤ x * L := Int.mul_nonneg x1 l0
  refine ⟨?_, ?_, by omega, by omega, by omega, by omega, by omega, by omega⟩
  · unfold lo95
    rw [beq_eq_false_iff_ne.2 (show x ≠ -1 by omega), cond_false, W_id (n := x * L) (by omega) (by omega), tdivW (by omega) (by omega) (by omega)]
  · unfold hi95
    rw [beq_eq_false_iff_ne.2 (show x ≠ -1 by omega), cond_false, W_id (n := x * H) (by omega) (by omega), upZ_eq (by omega) (by omega) (by omega) (by omega)]
theorem recOk {l : UL} (h1 : 1 ≤ l.length) (h2 : l.length ≤ 40) (hw : ∀ x ∈ l, WfT uK x) : RecOk (l.map rE) := by
  refine ⟨by rw [List.length_map]; exact h1, by rw [List.length_map]; exact h2, fun j hj => ?_⟩
  rw [List.length_map] at hj
  have e : nth (l.map rE) j = rE l[j] := by
    simp only [nth, List.getD_eq_getElem?_getD, List.getElem?_map, List.getElem?_eq_getElem hj, Option.map_some, Option.getD_some]
  rw [e]
  have h0 := wf32 (hw _ (List.getElem_mem hj)).1
  obtain ⟨b1, b2⟩ := tmod_b (k := 1000001) (show 0 ≤ u1 l[j] from h0) (by omega)
  show -1 ≤ (bif (u1 l[j]).tmod 7 == 3 then -1 else IntKind.i64.wrap ((u1 l[j]).tmod 1000001)) ∧ (bif (u1 l[j]).tmod 7 == 3 then -1 else IntKind.i64.wrap ((u1 l[j]).tmod 1000001)) ≤ 1000000
  cases ((u1 l[j]).tmod 7 == 3) with
  | true => exact ⟨by show (-1 : Int) ≤ -1; omega, by show (-1 : Int) ≤ 1000000; omega⟩
  | false =>
    simp only [cond_false]
    rw [W_id (by omega) (by omega)]
    omega
theorem good10 {R : TL} {n : Tup hK} (hR : RecOk R) (N : NOk n) : Good10 R n := by
  have t1 := N.t1
  have t2 := N.t2
  have g1 := N.g1
  have g2 := N.g2
  have l1 := N.l1
  have l2 := N.l2
  have f1 := N.f1
  have f2 := N.f2
  have hm : maxE = 10000000000000 := rfl
  have eA : evA10 R n = (evsP R (thr10 n, gap10 n, 1), 0) := ev36_ok hR t1 (by show thr10 n ≤ _; omega) g1 (by show gap10 n ≤ _; omega) (by show (1 : Int) ≤ 1; omega) (by show (1 : Int) ≤ 1024; omega)
  have eC : evC10 R n = (evsP R (thr10 n, gap10 n, lea10 n), 0) := ev36_ok hR t1 (by show thr10 n ≤ _; omega) g1 (by show gap10 n ≤ _; omega) l1 (by show lea10 n ≤ _; omega)
  have eB : evB10 R n = (evsP R (thr10 n, gap10 n + 1, 1), 0) := by
    unfold evB10
    rw [W_id (by omega) (by omega)]
    exact ev36_ok hR t1 (by show thr10 n ≤ _; omega) (by show 0 ≤ gap10 n + 1; omega) (by show gap10 n + 1 ≤ 60; omega) (by show (1 : Int) ≤ 1; omega) (by show (1 : Int) ≤ 1024; omega)
  have lenA : (evsP R (thr10 n, gap10 n, 1)).length = (GG R (thr10 n, gap10 n, 1) R.length).length := by unfold evsP; rw [all_sel g1, List.length_map]
  have lenB : (evsP R (thr10 n, gap10 n + 1, 1)).length = (GG R (thr10 n, gap10 n + 1, 1) R.length).length := by unfold evsP; rw [all_sel (by omega), List.length_map]
  have lenC : (evsP R (thr10 n, gap10 n, lea10 n)).length ≤ (GG R (thr10 n, gap10 n, 1) R.length).length := by
    unfold evsP
    rw [List.length_map, GG_least R (thr10 n) (gap10 n) (lea10 n) 1]
    exact List.length_filter_le ..
  have hGl := (GG_inv R (thr10 n, gap10 n, 1) R.length).1
  have hlen := hR.2.1
  have hM : ms10 n = 1000000000 / fac10 n := by unfold ms10; exact tdivW (by omega) (by omega) (by omega)
  obtain ⟨c1, c2, c3, c4, c5, c6, c7⟩ := cal_ok f1 f2 hM
  have hcal : cal10 n = (1000000000 / (ms10 n + 1), (1000000000 + ms10 n - 1) / ms10 n, 0) := c1
  have hcor : cor10 R n = (R.map (coE (1000000000 / (ms10 n + 1)) ((1000000000 + ms10 n - 1) / ms10 n)), 0) := by
    unfold cor10
    rw [hcal]
    simp only
    generalize 1000000000 / (ms10 n + 1) = L at *
    generalize (1000000000 + ms10 n - 1) / ms10 n = H at *
    have e : e25 R L H = 0 := by
      unfold e25 interZ
      rw [chkR_ok hR, within_ok (n := L) (by omega) (by omega), within_ok (n := H) (by omega) (by omega)]
      unfold whenZ
      rw [decide_eq_false (show ¬ L > H by omega)]
      rfl
    have hb : bigL (R.map (coE L H)) = false := by
      rw [bigL_any', ← Bool.not_eq_true, List.any_eq_true]
      rintro ⟨y, hy, hb⟩
      obtain ⟨x, hx, rfl⟩ := List.mem_map.1 hy
      have hb := of_decide_eq_true hb
      obtain ⟨j, hj, rfl⟩ := List.getElem_of_mem hx
      obtain ⟨b1, b2⟩ := hR.2.2 j hj
      rw [show nth R j = R[j] by simp [nth, hj]] at b1 b2
      have hb : hi95 (i1 R[j]) H > maxE := hb
      by_cases hm1 : i1 R[j] = -1
      · unfold hi95 at hb
        rw [hm1] at hb
        have hb : (-1 : Int) > maxE := hb
        omega
      · obtain ⟨_, p2, _, _, _, p6, _⟩ := co_ok (x := i1 R[j]) (L := L) (H := H) (F := fac10 n) (by omega) b2 c2 c3 c4 c5
        rw [p2] at hb
        omega
    unfold cor25
    rw [e, hb]
    rfl
  generalize 1000000000 / (ms10 n + 1) = L at *
  generalize (1000000000 + ms10 n - 1) / ms10 n = H at *
  have hv : ∀ j, j < R.length → nth (R.map (coE L H)) j = coE L H (nth R j) := fun j hj => by
    simp only [nth, List.getD_eq_getElem?_getD, List.getElem?_map, List.getElem?_eq_getElem hj, Option.map_some, Option.getD_some]
  refine ⟨hlen, by rw [eA], by rw [eB], by rw [eC], ?_, ?_, ?_, ?_, ?_, by omega, ?_, ?_, by rw [hcal], by rw [hcal]; exact c3, by rw [hcal]; exact c4, by rw [hcor], by rw [hcor, List.length_map], ?_, ?_⟩
  · rw [eA]
    show (evsP R (thr10 n, gap10 n, 1)).length ≤ _
    omega
  · rw [eA, eB]
    show (evsP R (thr10 n, gap10 n + 1, 1)).length ≤ (evsP R (thr10 n, gap10 n, 1)).length
    rw [lenA, lenB]
    exact (GG_len R (thr10 n) (gap10 n) 1 1 R.length).2
  · rw [eA, eC]
    show (evsP R (thr10 n, gap10 n, lea10 n)).length ≤ (evsP R (thr10 n, gap10 n, 1)).length
    omega
  · intro i hi
    exact evOk (le := lea10 n) hR t1 g1 (kx10 R n) (congrArg Prod.fst eA) (congrArg Prod.fst eC) rfl rfl rfl rfl i hi
  · intro j hj hl
    rw [eA]
    exact covOk g1 j hj hl
  · exact decide_eq_false (show ¬ ms10 n = 0 by omega)
  · rw [W_id (by omega) (by omega)]
    exact decide_eq_false (show ¬ ms10 n + 1 = 0 by omega)
  · intro j hj h
    rw [hcor]
    show v1 (nth (R.map (coE L H)) j) = -1 ∧ v2 (nth (R.map (coE L H)) j) = -1
    rw [hv j hj]
    show lo95 (i1 (nth R j)) L = -1 ∧ hi95 (i1 (nth R j)) H = -1
    rw [h]
    exact ⟨rfl, rfl⟩
  · intro j hj h
    rw [hcor]
    show IntKind.i64.wrap (1000 * v1 (nth (R.map (coE L H)) j)) ≤ _ ∧ _ ≤ IntKind.i64.wrap (1000 * v2 (nth (R.map (coE L H)) j))
    rw [hv j hj]
    show IntKind.i64.wrap (1000 * lo95 (i1 (nth R j)) L) ≤ _ ∧ _ ≤ IntKind.i64.wrap (1000 * hi95 (i1 (nth R j)) H)
    obtain ⟨b1, b2⟩ := hR.2.2 j hj
    obtain ⟨p1, p2, p3, p4, p5, p6, p7, p8⟩ := co_ok (x := i1 (nth R j)) (L := L) (H := H) (F := fac10 n) (by omega) b2 c2 c3 c4 c5
    rw [p1, p2, W_id (n := i1 (nth R j) * fac10 n) (by omega) (by omega), W_id (by omega) (by omega), W_id (by omega) (by omega)]
    exact ⟨p4, p5⟩
theorem law10_fn (h0 : Lib0 w0) (l : UL) (n : Tup hK) (hl : ∀ x ∈ l, WfT uK x) (hn : WfT hK n) : FnD (cfg w0) 10 [.vec uK l, .agg [U16 n.1, U16 n.2.1, U16 n.2.2.1, U16 n.2.2.2.1]] (Bo true) := by
  by_cases h1 : 1 ≤ l.length
  · by_cases h2 : l.length ≤ 40
    · exact law10_good h0 l n h1 h2 (good10 (recOk h1 h2 hl) (nOk hn))
    · have hb := body10 (w0 := w0) l n (0, []) (0, []) 0 0
      unfold t10 at hb
      rw [decide_eq_false (show ¬ (l.length : Int) < 1 by omega), decide_eq_true (show (l.length : Int) > 40 by omega)] at hb
      exact fnD_t (cfg_ok w0) h0 (cs10_gd h0) (fd := fnOf Tryz.f10) rfl hb trivial
  · have hb := body10 (w0 := w0) l n (0, []) (0, []) 0 0
    unfold t10 at hb
    rw [decide_eq_true (show (l.length : Int) < 1 by omega)] at hb
    exact fnD_t (cfg_ok w0) h0 (cs10_gd h0) (fd := fnOf Tryz.f10) rfl hb trivial
end
end Go.Proofs.YtifnpljmjhnbaaaGreatDoor
