/-
  A part of the proof of the statement that the claim names: see the last file.
-/
import Derived.Test.YtifnpljmjhnbaaaGreatDoorR6
namespace Go.Proofs.YtifnpljmjhnbaaaGreatDoor
open Go Go.Am
set_option maxRecDepth 100000
variable {w0 : World}
noncomputable section

theorem firstZ_zero : ∀ {l : List Int}, firstZ l = 0 → ∀ e ∈ l, e = 0
  | [], _, e, h => by cases h
  | x :: xs, hz, e, h => by
    unfold firstZ at hz
    obtain ⟨h1, h2⟩ := first_zero hz
    rcases List.mem_cons.1 h with rfl | h
    · exact h1
    · exact firstZ_zero h2 e h
theorem chk_ok {r : TL} (h : chkR r = 0) : r.length ≤ 1024 ∧ 0 < r.length ∧ ∀ x ∈ r, -1 ≤ i1 x ∧ i1 x ≤ maxE := by
  obtain ⟨h1, h⟩ := first_zero h
  obtain ⟨h2, h⟩ := first_zero h
  obtain ⟨h3, _⟩ := first_zero h
  refine ⟨?_, ?_, fun x hx => ?_⟩
  · unfold maE whenZ at h2
    cases hd : decide ((r.length : Int) > 1024) with
    | true => rw [hd] at h2; cases h2
    | false => have := of_decide_eq_false hd; omega
  · cases r with
    | nil => cases h1
    | cons => simp
  · unfold rgE at h3
    exact within_zero (firstZ_zero h3 (withinZ (i1 x) (-1) maxE) (by rw [List.map_map]; exact List.mem_map.2 ⟨x, hx, rfl⟩))
theorem co_eq {a b : Int} (h1 : 0 ≤ a) (h2 : a ≤ 10000) (h3 : 0 ≤ b) (h4 : b ≤ 10000) {x : Tup intK} (hx : -1 ≤ i1 x) (hx2 : i1 x ≤ maxE) : coE a b x = coR a b x := by
  have key : ∀ f : Int, 0 ≤ f → f ≤ 10000 → ∀ n : Int, 0 ≤ n → n ≤ maxE → 0 ≤ n * f ∧ n * f ≤ 100000000000000000 := fun f f1 f2 n n1 n2 => by
    refine ⟨Int.mul_nonneg n1 f1, ?_⟩
    have a1 := Int.mul_le_mul_of_nonneg_right n2 f1
    have a2 := Int.mul_le_mul_of_nonneg_left f2 (show (0 : Int) ≤ maxE by decide)
    have : maxE * 10000 = 100000000000000000 := by decide
    omega
  unfold coE coR lo95 hi95
  cases hm : (i1 x == -1) with
  | true => rw [show (i1 x != -1) = false by simp [bne, hm]]; rfl
  | false =>
    rw [show (i1 x != -1) = true by simp [bne, hm]]
    have hne : i1 x ≠ -1 := by simpa using hm
    obtain ⟨k1, k2⟩ := key a h1 h2 (i1 x) (by omega) hx2
    obtain ⟨k3, k4⟩ := key b h3 h4 (i1 x) (by omega) hx2
    simp only [cond_true, cond_false]
    rw [W_id (n := i1 x * a) (by omega) (by omega), W_id (n := i1 x * b) (by omega) (by omega), floorZ_eq (by omega) (by omega) (by omega), tdivW (by omega) (by omega) (by omega), upZ_eq (by omega) (by omega) (by omega) (by omega), ceilZ_eq (by omega) (by omega) (by omega) (by omega)]
theorem bigL_any (l : List (Tup IvK)) : bigL l = l.any biB := by
  unfold bigL ixB
  rw [ixR_any, range_any biB]
theorem cor_eq {r : TL} {a b : Int} (h : e25 r a b = 0) : cor25 r a b = cor31 r a b := by
  obtain ⟨h1, h2⟩ := first_zero h
  obtain ⟨h2, _⟩ := first_zero h2
  obtain ⟨_, _, hx⟩ := chk_ok h1
  obtain ⟨a1, a2, b1, b2, _⟩ := inter_zero h2
  unfold cor25 cor31
  rw [h]
  have : r.map (coE a b) = r.map (coR a b) := List.map_congr_left fun x hm => co_eq a1 a2 b1 b2 (hx x hm).1 (hx x hm).2
  rw [this, bigL_any]
  rfl
theorem bg_eq {r : TL} {pc : Int} (h : e27 r pc = 0) : bg27 r pc = bg32 r pc := by
  obtain ⟨hc, p1, p2⟩ := e27_zero h
  obtain ⟨hl, _, hx⟩ := chk_ok hc
  have hk := keepM_le r
  unfold bg27 bg32
  rw [h, cntK_eq (by omega)]
  cases hz : kpB r with
  | true =>
    unfold kpB at hz
    have : keepM r = [] := by simpa using hz
    rw [this]; rfl
  | false =>
    have hpos : 0 < (keepM r).length := by
      unfold kpB at hz
      cases hq : keepM r with
      | nil => rw [hq] at hz; cases hz
      | cons => simp
    obtain ⟨t, t1, t2⟩ := tgt_eq hpos (by omega) p1 p2
    obtain ⟨q, q1, q2⟩ := rank_found (by omega) (fun x hm => (hx x hm).1) t2
    rw [t1, show (((keepM r).length : Int) == 0) = false by rw [beq_eq_false_iff_ne]; omega, q1]
    show (i1 (nth (sortI (keepM r)) t), (0 : Int)) = _
    rw [← q2]
    rfl
theorem keepM_cons (x : Tup intK) (xs : TL) : keepM (x :: xs) = bif i1 x == -1 then keepM xs else x :: keepM xs := by
  unfold keepM misB
  rw [List.filter_cons]
  cases (i1 x == -1) <;> rfl
theorem hrd_sum (l : TL) (hl : l.length ≤ 100000) : ∀ (n i : Nat) (a : A4), i + n = l.length → 0 ≤ a.2.2.2 → a.2.2.2 ≤ i →
    let R := (List.range' i n).foldl (fun a (j : Nat) => stepH (i1 (nth l j)) j a) a
    (R.1, R.2.1) = (keepM (l.drop i)).foldl addS (a.1, a.2.1) ∧ R.2.2.2 = a.2.2.2 + (n : Int) - (keepM (l.drop i)).length
  | 0, i, a, h, _, _ => by
    rw [List.drop_eq_nil_of_le (by omega)]
    exact ⟨rfl, by show a.2.2.2 = a.2.2.2 + ((0 : Nat) : Int) - ((0 : Nat) : Int); omega⟩
  | n + 1, i, a, h, h1, h2 => by
    have hi : i < l.length := by omega
    rw [List.drop_eq_getElem_cons hi, keepM_cons, ← nth_el hi, List.range'_succ, List.foldl_cons]
    obtain ⟨a1, a2, a3, a4⟩ := a
    simp only at h1 h2
    cases hm : (i1 (nth l i) == -1) with
    | true =>
      have e : stepH (i1 (nth l i)) i (a1, a2, a3, a4) = (a1, a2, a3, a4 + 1) := by
        unfold stepH; rw [hm, cond_true]
        show (a1, a2, a3, IntKind.i64.wrap (a4 + 1)) = _
        rw [W_id (by omega) (by omega)]
      rw [e]
      obtain ⟨r1, r2⟩ := hrd_sum l hl n (i + 1) (a1, a2, a3, a4 + 1) (by omega) (by simp only; omega) (by simp only; omega)
      refine ⟨r1, ?_⟩
      rw [r2]
      simp only [cond_true]
      omega
    | false =>
      have e : ∃ a3', stepH (i1 (nth l i)) i (a1, a2, a3, a4) = (IntKind.i64.wrap (a1 + i1 (nth l i)), mx a2 (i1 (nth l i)), a3', a4) := by
        unfold stepH mx; rw [hm, cond_false]
        by_cases hg : i1 (nth l i) > a2
        · exact ⟨(i : Int), by rw [decide_eq_true hg, if_pos hg]; rfl⟩
        · exact ⟨a3, by rw [decide_eq_false hg, if_neg hg]; rfl⟩
      obtain ⟨a3', e⟩ := e
      rw [e]
      obtain ⟨r1, r2⟩ := hrd_sum l hl n (i + 1) (IntKind.i64.wrap (a1 + i1 (nth l i)), mx a2 (i1 (nth l i)), a3', a4) (by omega) (by simp only; omega) (by simp only; omega)
      refine ⟨r1, ?_⟩
      rw [r2]
      simp only [cond_false, List.length_cons]
      omega
theorem tot_eq {r : TL} (h : chkR r = 0) : tot28 r = totR r := by
  obtain ⟨hl, _, _⟩ := chk_ok h
  have hk := keepM_le r
  obtain ⟨r1, r2⟩ := hrd_sum r (by omega) r.length 0 (0, 0, ((0 : Nat) : Int), 0) (by omega) (by simp) (by simp)
  rw [List.drop_zero] at r1 r2
  have r1 : ((hrd r 0 r.length).1, (hrd r 0 r.length).2.1) = sumK r := r1
  have r2 : (hrd r 0 r.length).2.2.2 = 0 + (r.length : Int) - (keepM r).length := r2
  unfold tot28 totR
  rw [h, ← r1, r2, W_id (by omega) (by omega), Int.zero_add]
  rfl
theorem sameV_self (l : List (Tup IvK)) : sameV l l = true := decide_eq_true rfl
theorem chain_ok {r : TL} {c : LE} {g : Int × Int} {t : T4} (hc : c.1.length ≤ 100000) : chain4 r c c g g t t = some (Bo true) := by
  unfold chain4 bf
  rw [sameV_self, show Nat.ble c.1.length 100000 = true from (Nat.ble_eq ..).mpr hc]
  simp
theorem cor25_len {r : TL} {a b : Int} (h : r.length ≤ 100000) : (cor25 r a b).1.length ≤ 100000 := by
  unfold cor25
  cases (e25 r a b != 0)
  · cases bigL (r.map (coE a b))
    · simpa using h
    · simp
  · simp
theorem law4_true (r : TL) (a b pc : Int) : law4 r a b pc = some (Bo true) := by
  unfold law4
  cases hs : shortB r with
  | false => rfl
  | true =>
    have hl : r.length ≤ 1025 := by
      unfold shortB at hs
      cases hd : decide ((r.length : Int) ≤ 40) with
      | true => have := of_decide_eq_true hd; omega
      | false => rw [hd] at hs; simp only [cond_false, beq_iff_eq] at hs; omega
    have hg : sm r = true := (Nat.ble_eq ..).mpr (by omega)
    have h4 : k4 r a b pc (cor25 r a b) (bg27 r pc) (tot28 r) = some (Bo true) := by
      unfold k4
      rw [Gs_ok hg]
      exact chain_ok (cor25_len (by omega))
    have h3 : k3 r a b pc (cor25 r a b) (bg27 r pc) = some (Bo true) := by
      unfold k3
      cases hz : (chkR r == 0) with
      | true => rw [cond_true, Gs_ok hg, ← tot_eq (by simpa using hz)]; exact h4
      | false =>
        have : tot28 r = (0, 0, 0, chkR r) := by unfold tot28; rw [show (chkR r != 0) = true by simp [bne, hz]]; rfl
        rw [cond_false, ← this]; exact h4
    have h2 : k2 r a b pc (cor25 r a b) = some (Bo true) := by
      unfold k2
      cases hz : (e27 r pc == 0) with
      | true => rw [cond_true, Gs_ok hg, ← bg_eq (by simpa using hz)]; exact h3
      | false =>
        have : bg27 r pc = (0, e27 r pc) := by unfold bg27; rw [show (e27 r pc != 0) = true by simp [bne, hz]]; rfl
        rw [cond_false, ← this]; exact h3
    rw [Bool.not_true, cond_false, Gs_ok hg]
    cases hz : (e25 r a b == 0) with
    | true => rw [cond_true, Gs_ok hg, ← cor_eq (by simpa using hz)]; exact h2
    | false =>
      have : cor25 r a b = ([], e25 r a b) := by unfold cor25; rw [show (e25 r a b != 0) = true by simp [bne, hz]]; rfl
      rw [cond_false, ← this]; exact h2
theorem law4_fn (h0 : Lib0 w0) (r : TL) (a b pc : Int) : FnD (cfg w0) 4 [.vec intK r, .agg [I a, I b], I pc] (Bo true) :=
  fnD_k (cfg_ok w0) h0 (cs := cs4) ⟨gd23 h0, gd24 h0, gd26 h0, gd25 h0, gd27 h0, gd28 h0, gd29 h0, gd31 h0, gd32 h0, gd33 h0, gd34 h0, gd35 h0, baseE_gd h0⟩ (fd := fnOf Tryz.f4) rfl ((run4 ..).trans (law4_true ..))
end
end Go.Proofs.YtifnpljmjhnbaaaGreatDoor
