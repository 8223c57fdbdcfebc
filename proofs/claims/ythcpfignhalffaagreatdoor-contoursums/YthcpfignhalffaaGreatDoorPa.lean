/-
  A part of the proof of the statement that the claim names: see the last file.
-/
import Derived.Test.YthcpfignhalffaaGreatDoorP1
import Derived.Test.YthcpfignhalffaaGreatDoorP6
namespace Go.Proofs.YthcpfignhalffaaGreatDoor
open Go Go.Am
set_option maxRecDepth 100000
noncomputable section


theorem thr_step : ((List.range 120).all fun k => decide (thrN k < thrN (k + 1))) = true := by kernel_rfl
theorem thr_mono : ∀ (d i : Nat), i + d ≤ 120 → 0 < d → thrN i < thrN (i + d)
  | 0, _, _, h => by omega
  | d + 1, i, h, _ => by
    have h1 : thrN (i + d) < thrN (i + d + 1) := by
      have := List.all_eq_true.1 thr_step (i + d) (by simp; omega)
      simpa using this
    rcases Nat.eq_zero_or_pos d with hd | hd
    · subst hd; simpa using h1
    · exact Nat.lt_trans (thr_mono d i (by omega) hd) h1

def IsLv (e m : Int) : Prop := -1 ≤ m ∧ m ≤ 120 ∧ (0 ≤ m → thr m ≤ e) ∧ (m < 120 → e < thr (m + 1))
theorem lv_uniq {e m n : Int} (h : IsLv e m) (k : IsLv e n) : m = n := by
  have key : ∀ {m n : Int}, IsLv e m → IsLv e n → ¬ m < n := fun {m n} h k hlt => by
    obtain ⟨a1, a2, _, a4⟩ := h
    obtain ⟨b1, b2, b3, _⟩ := k
    have h1 := a4 (by omega)
    have h2 := b3 (by omega)
    have : thr (m + 1) ≤ thr n := by
      unfold thr
      rcases Nat.lt_or_ge (m + 1).toNat n.toNat with hl | hl
      · have := thr_mono (n.toNat - (m + 1).toNat) (m + 1).toNat (by omega) (by omega)
        rw [show (m + 1).toNat + (n.toNat - (m + 1).toNat) = n.toNat by omega] at this
        omega
      · rw [show (m + 1).toNat = n.toNat by omega]; omega
    omega
  have h1 := key h k
  have h2 := key k h
  omega

theorem levF_lv (e : Int) : ∀ (f : Nat) (k : Int), -1 ≤ k → k ≤ 120 → 120 < k + f → (0 ≤ k → thr k ≤ e) → IsLv e (levF f e k)
  | 0, k, _, h1, h2, _ => by omega
  | f + 1, k, h0, h1, h2, h3 => by
    unfold levF
    cases hc : (decide (k < 120) && decide (thr (k + 1) ≤ e)) with
    | true =>
      simp only [Bool.and_eq_true, decide_eq_true_eq] at hc
      exact levF_lv e f (k + 1) (by omega) (by omega) (by omega) (fun _ => hc.2)
    | false =>
      show IsLv e k
      refine ⟨h0, h1, h3, fun hk => ?_⟩
      simp only [Bool.and_eq_false_iff, decide_eq_false_iff_not] at hc
      rcases hc with hc | hc <;> omega
theorem lev_lv (e : Int) : IsLv e (lev e) := levF_lv e 122 (-1) (by decide) (by decide) (by decide) (fun h => absurd h (by decide))

theorem levB_inv (e : Int) : ∀ (n k : Nat) (b : Int), k + n ≤ 121 → -1 ≤ b → b < k → (0 ≤ b → thr b ≤ e) → (∀ j : Nat, b < j → j < k → e < thr j) →
    (fun m : Int => -1 ≤ m ∧ m < ((k + n : Nat) : Int) ∧ (0 ≤ m → thr m ≤ e) ∧ (∀ j : Nat, m < j → j < k + n → e < thr j)) ((List.range' k n).foldl (fun b (k : Nat) => stepB e (k : Int) b) b)
  | 0, k, b, _, h1, h2, h3, h4 => ⟨h1, by simpa using h2, h3, h4⟩
  | n + 1, k, b, h0, h1, h2, h3, h4 => by
    rw [List.range'_succ, List.foldl_cons]
    unfold stepB
    have hkn : k + (n + 1) = (k + 1) + n := by omega
    rw [hkn]
    cases hc : decide (thr (k : Int) ≤ e) with
    | true =>
      rw [decide_eq_true_eq] at hc
      exact levB_inv e n (k + 1) (k : Int) (by omega) (by omega) (by omega) (fun _ => hc) (fun j j1 j2 => by omega)
    | false =>
      rw [decide_eq_false_iff_not] at hc
      exact levB_inv e n (k + 1) b (by omega) h1 (by omega) h3 (fun j j1 j2 => by
        rcases Nat.lt_or_ge j k with hj | hj
        · exact h4 j j1 hj
        · have : j = k := by omega
          subst this; omega)
theorem levB_lv (e : Int) : IsLv e (levB e) := by
  have := levB_inv e 121 0 (-1) (by omega) (by omega) (by omega) (fun h => absurd h (by decide)) (fun j _ h => absurd h (by omega))
  rw [← List.range_eq_range'] at this
  obtain ⟨h1, h2, h3, h4⟩ := this
  have h1 : -1 ≤ levB e := h1
  have h2 : levB e < 121 := h2
  refine ⟨h1, by omega, h3, fun hk => ?_⟩
  have := h4 (levB e + 1).toNat (by show levB e < _; omega) (by omega)
  rwa [show (((levB e + 1).toNat : Nat) : Int) = levB e + 1 by omega] at this
theorem lev_eq (e : Int) : lev e = levB e := lv_uniq (lev_lv e) (levB_lv e)
theorem levR_eq {e : Int} (h1 : 0 ≤ e) (h2 : e ≤ maxE) : levR e = levB e := by
  have : withinZ e 0 maxE = 0 := by
    unfold withinZ whenZ
    have a1 : ¬ e < 0 := by omega
    have a2 : ¬ e > maxE := by omega
    simp [a1, a2]
  unfold levR
  rw [this]
  exact lev_eq e


theorem dif_eq {a b : Gr} (ca : chkG a = 0) (cb : chkG b = 0) (hl : a.l.length = b.l.length) : difP a b = difR a b := by
  obtain ⟨_, _, _, _, _, va⟩ := chk_len ca
  obtain ⟨_, _, _, _, _, vb⟩ := chk_len cb
  apply List.ext_getElem?
  intro j
  unfold difP difR
  rw [updL_get, List.getElem?_map, List.getElem?_map]
  rcases Nat.lt_or_ge j a.l.length with hj | hj
  · have hjb : j < b.l.length := by omega
    rw [List.getElem?_eq_getElem hjb, List.getElem?_range' hj]
    have ea := va _ (List.getElem_mem hj)
    have eb := vb _ (List.getElem_mem hjb)
    have na : nth a.l j = a.l[j] := by simp [nth, hj]
    have nla : nth (a.l.map lbE) j = lbE a.l[j] := by simp [nth, hj]
    have nlb : nth (b.l.map lbE) j = lbE b.l[j] := by simp [nth, hjb]
    simp only [Option.map_some, Nat.zero_add, Nat.one_mul, Option.some.injEq]
    unfold dfE dfR
    rw [na, nla, nlb]
    show t1 (W (levR (i1 b.l[j]) - levR (i1 a.l[j]))) = t1 (W (levB (i1 b.l[j]) - levB (i1 a.l[j])))
    rw [levR_eq eb.1 eb.2, levR_eq ea.1 ea.2]
  · rw [List.getElem?_eq_none (by omega), List.getElem?_eq_none (by simp; omega)]; rfl
end
end Go.Proofs.YthcpfignhalffaaGreatDoor

namespace Go.Proofs.YthcpfignhalffaaGreatDoor
open Go Go.Am
set_option maxRecDepth 100000
noncomputable section


theorem sm_le {g : Gr} (h : g.l.length ≤ 100000) : smG g = true := Nat.ble_eq_true_of_le h
theorem sm_g0 : smG g0 = true := rfl
theorem same_refl (a : Gr) : sameG a a = true := by simp [sameG, sizeB, sameI]
theorem whole_ok {p : Gr × Int} {e : Int} {q : Gr} (hs : p.2 ≠ 0 → p.1 = g0) (he : e = p.2) (hq : p.2 = 0 → q = p.1) : wholeB p.1 p.2 e q = true := by
  subst he
  unfold wholeB
  cases h : (p.2 != 0) with
  | true => rw [hs (by simpa using h)]; simp [same_refl]
  | false => rw [hq (by simpa using h)]; simp [same_refl]
theorem list_ok {a b : Gr} {one : Int} {df : List (Tup intK)} (he : one = e62 a b) (hq : e62 a b = 0 → df = difP a b) : listB (difX a b) (e62 a b) one df = true := by
  subst he
  unfold listB difX
  cases h : (e62 a b != 0) with
  | true => simp [sameI]
  | false => rw [hq (by simpa using h)]; simp [sameI]
theorem rows_len (g : Gr) (b : Bx) : ∀ (n : Nat) (y : Int), (rowsF g b n y).length ≤ n * g.l.length
  | 0, _ => by simp [rowsF]
  | n + 1, y => by
    unfold rowsF
    rw [List.length_append, Nat.succ_mul]
    have := rows_len g b n (y + 1)
    have := row_len g b y
    omega
theorem chk_sm {g : Gr} (h : chkG g = 0) : g.l.length ≤ 256 := by
  obtain ⟨h1, h2, h3, h4, h5, _⟩ := chk_len h
  have hm := mul_bound (a := g.w) (b := g.h) (by omega) h3 (by omega) h5
  rw [W_in (by omega)] at h1
  omega
theorem tile_shape (g : Gr) (b : Bx) : (tileX g b).2 ≠ 0 → (tileX g b).1 = g0 := by
  unfold tileX; cases h : (e78 g b != 0) <;> simp
theorem tile_e (g : Gr) (b : Bx) : (tileX g b).2 = e78 g b := by
  unfold tileX
  cases h : (e78 g b != 0)
  · have h0 : e78 g b = 0 := by simpa using h
    exact h0.symm
  · rfl
theorem tile_g {g : Gr} {b : Bx} (h : e78 g b = 0) : (tileX g b).1 = tileG g b := by
  unfold tileX; rw [h]; rfl
theorem tile_sm (g : Gr) (b : Bx) : smG (tileX g b).1 = true := by
  cases h : (e78 g b != 0) with
  | true => rw [show tileX g b = (g0, e78 g b) by unfold tileX; rw [h]; rfl]; rfl
  | false =>
    have h0 : e78 g b = 0 := by simpa using h
    rw [tile_g h0]
    have hb := box_ok h0
    have hz := firstZ_zero h0
    have h1 := hz (chkG g) (by simp)
    have h3 := full_zero (hz (fullZ b.r0 b.r1 g.h) (by simp))
    obtain ⟨_, _, _, _, k5, _⟩ := chk_len h1
    apply sm_le
    have := rows_len g b (b.r1 - b.r0).toNat b.r0
    have hl := chk_sm h1
    have : (b.r1 - b.r0).toNat * g.l.length ≤ 16 * 256 := Nat.mul_le_mul (by omega) hl
    show (tileL g b).length ≤ 100000
    unfold tileL
    omega
theorem ov_shape (g t : Gr) (x y : Int) : (ovX g t x y).2 ≠ 0 → (ovX g t x y).1 = g0 := by
  unfold ovX
  cases decide (t.w > W (g.w - x)) <;> cases decide (t.h > W (g.h - y)) <;> cases anyO g t x y <;> simp
theorem over_shape (g t : Gr) (x y : Int) : (overX g t x y).2 ≠ 0 → (overX g t x y).1 = g0 := by
  unfold overX; cases h : (e79 g t x y != 0)
  · exact ov_shape g t x y
  · simp
theorem over_sm {g t : Gr} (x y : Int) (hg : smG g = true) : smG (overX g t x y).1 = true := by
  unfold overX ovX
  cases (e79 g t x y != 0) <;> cases decide (t.w > W (g.w - x)) <;> cases decide (t.h > W (g.h - y)) <;> cases anyO g t x y <;> first | rfl | exact hg
theorem join_shape (a b : Gr) : (joinX a b).2 ≠ 0 → (joinX a b).1 = g0 := by
  unfold joinX; cases h : (e80 a b != 0) <;> simp
theorem cat_len {a b : Gr} (ha : chkG a = 0) (hb : chkG b = 0) (hh : a.h = b.h) : ∀ (n k : Nat) (o : List (Tup intK)), ((k + n : Nat) : Int) ≤ a.h → ((List.range' k n).foldl (fun out (j : Nat) => out ++ rowJ a (j : Int) ++ rowJ b (j : Int)) o).length ≤ o.length + n * 2000
  | 0, k, o, _ => by simp
  | n + 1, k, o, hk => by
    rw [List.range'_succ, List.foldl_cons]
    have h1 := cat_len ha hb hh n (k + 1) (o ++ rowJ a (k : Int) ++ rowJ b (k : Int)) (by omega)
    have h2 := (joinRow ha (j := k) (by omega)).2
    have h3 := (joinRow hb (j := k) (by omega)).2
    simp only [List.length_append] at h1
    omega
theorem join_sm (a b : Gr) : smG (joinX a b).1 = true := by
  cases h : (e80 a b != 0) with
  | true => rw [show joinX a b = (g0, e80 a b) by unfold joinX; rw [h]; rfl]; rfl
  | false =>
    have h0 : e80 a b = 0 := by simpa using h
    rw [show joinX a b = (joinG a b, 0) by unfold joinX; rw [h]; rfl]
    obtain ⟨ha, hb, hh⟩ := e80_zero h0
    obtain ⟨_, _, _, _, k5, _⟩ := chk_len ha
    apply sm_le
    have := cat_len ha hb hh a.h.toNat 0 [] (by omega)
    show (catL a b).length ≤ 100000
    unfold catL
    have h2 : a.h.toNat * 2000 ≤ 16 * 2000 := Nat.mul_le_mul (by omega) (Nat.le_refl _)
    simp only [List.length_nil] at this
    omega
theorem dif_len {a b : Gr} (hb : smG b = true) : Nat.ble (difX a b).length 100000 = true := by
  unfold difX
  cases (e62 a b != 0)
  · show Nat.ble (difP a b).length 100000 = true
    unfold difP
    rw [updL_len, List.length_map]
    exact hb
  · rfl

structure EndOK (a b : Gr) (bx : Bx) (x y one : Int) (df : List (Tup intK)) (box : Int) (tl : Gr) (three : Int) (ov : Gr) (four : Int) (jo : Gr) : Prop where
  e1 : one = e62 a b
  d : e62 a b = 0 → df = difP a b
  e2 : box = e78 a bx
  t : e78 a bx = 0 → tl = tileG a bx
  e3 : three = (overX a b x y).2
  o : (overX a b x y).2 = 0 → ov = (overX a b x y).1
  e4 : four = (joinX a b).2
  j : (joinX a b).2 = 0 → jo = (joinX a b).1
theorem end_ok {a b : Gr} {bx : Bx} {x y one : Int} {df : List (Tup intK)} {box : Int} {tl : Gr} {three : Int} {ov : Gr} {four : Int} {jo : Gr} (ha : smG a = true) (hb : smG b = true)
    (h : EndOK a b bx x y one df box tl three ov four jo) : lwEnd a b bx x y one df box tl three ov four jo = some (Bo true) := by
  unfold lwEnd
  rw [dif_len hb, list_ok h.e1 h.d, tile_sm, whole_ok (tile_shape a bx) (h.e2.trans (tile_e a bx).symm) (fun k => (h.t (by rwa [tile_e] at k)).trans (tile_g (by rwa [tile_e] at k)).symm),
    over_sm x y ha, whole_ok (over_shape a b x y) h.e3 h.o, join_sm, whole_ok (join_shape a b) h.e4 h.j]
  rfl
end
end Go.Proofs.YthcpfignhalffaaGreatDoor

namespace Go.Proofs.YthcpfignhalffaaGreatDoor
open Go Go.Am
set_option maxRecDepth 100000
noncomputable section


theorem nthI {l : List (Tup intK)} {j : Nat} (h : j < l.length) : nth l j = l[j] := by simp [nth, h]
theorem nthF {l : List (Tup flK)} {j : Nat} (h : j < l.length) : nth l j = l[j] := by simp [nth, h]
theorem nth_upd {g : Nat → Tup intK → Tup intK} {l : List (Tup intK)} {j : Nat} (h : j < l.length) : nth (updL g 0 l) j = g j (nth l j) := by
  have := updL_get g l 0 j
  rw [nthI h, nthI (by rw [updL_len]; exact h)]
  rw [List.getElem?_eq_getElem h, List.getElem?_eq_getElem (by rw [updL_len]; exact h)] at this
  simpa using this
theorem nth_sumL {gs : List Gr} {j : Nat} (h : j < hdL gs) : nth (sumL gs) j = t1 (sumI gs j) := by
  rw [nthI (by rw [sumL_len]; exact h)]
  simp [sumL]

def sumW (wo : Int) (j : Nat) : Nat → Int → List Gr → Int
  | _, s, [] => s
  | k, s, g :: gs => bif (k : Int) == wo then sumW wo j (k + 1) s gs else sumW wo j (k + 1) (W (s + vAt g j)) gs
theorem nth_gSum {wo : Int} {j : Nat} : ∀ {gs : List Gr} (k : Nat) (o : List (Tup intK)), j < o.length → nth (gSum wo k o gs) j = t1 (sumW wo j k (i1 (nth o j)) gs)
  | [], _, o, _ => rfl
  | g :: gs, k, o, h => by
    unfold gSum sumW
    cases ((k : Int) == wo)
    · show nth (gSum wo (k + 1) (updL (adE g) 0 o) gs) j = t1 (sumW wo j (k + 1) (W (i1 (nth o j) + vAt g j)) gs)
      rw [nth_gSum (k + 1) (updL (adE g) 0 o) (by rw [updL_len]; exact h), nth_upd h]
      rfl
    · exact nth_gSum (k + 1) o h
theorem nth_refL {gs : List Gr} {wo : Int} {j : Nat} (h : j < hdL gs) : nth (refL gs wo) j = t1 (sumW wo j 0 0 gs) := by
  unfold refL
  rw [nth_gSum 0 _ (by simpa using h)]
  rw [show nth (List.replicate (hdL gs) (t1 0)) j = t1 0 by rw [nthI (by simpa using h)]; simp]
  rfl
theorem sumW_all {j : Nat} : ∀ {gs : List Gr} (k : Nat) (s : Int), sumW (-1) j k s gs = sumZ j s gs
  | [], _, _ => rfl
  | g :: gs, k, s => by
    unfold sumW sumZ
    rw [show ((k : Int) == -1) = false by simp]
    exact sumW_all (k + 1) _
theorem refL_all (gs : List Gr) : refL gs (-1) = sumL gs := by
  apply List.ext_getElem?
  intro j
  rcases Nat.lt_or_ge j (hdL gs) with h | h
  · have h1 := nth_refL (wo := -1) h
    rw [sumW_all] at h1
    have h2 := nth_sumL h
    rw [nthI (by rw [refL_len]; exact h)] at h1
    rw [nthI (by rw [sumL_len]; exact h)] at h2
    rw [List.getElem?_eq_getElem (by rw [refL_len]; exact h), List.getElem?_eq_getElem (by rw [sumL_len]; exact h), h1, h2]; rfl
  · rw [List.getElem?_eq_none (by rw [refL_len]; exact h), List.getElem?_eq_none (by rw [sumL_len]; exact h)]
theorem sumT_cons (g : Gr) (gs : List Gr) (j : Nat) : sumT (g :: gs) j = vAt g j + sumT gs j := by simp [sumT]
theorem sumW_eq {j : Nat} : ∀ {gs : List Gr} (k wo : Nat) (s : Int), (∀ g ∈ gs, chkG g = 0) → 0 ≤ s → s + gs.length * maxE ≤ big →
    sumW (wo : Int) j k s gs = s + sumT gs j - (if k ≤ wo then (match gs[wo - k]? with | some g => vAt g j | none => 0) else 0)
  | [], k, wo, s, _, _, _ => by simp [sumW, sumT]
  | g :: gs, k, wo, s, h, hs, hb => by
    have h1 := vAt_ok (h g (by simp)) j
    have hm : (0 : Int) ≤ gs.length * maxE := Int.mul_nonneg (by omega) (by decide)
    rw [List.length_cons, Int.natCast_add, Int.add_mul] at hb
    unfold sumW
    rw [sumT_cons]
    by_cases e : k = wo
    · subst e
      rw [show ((k : Int) == (k : Int)) = true by simp]
      simp only [cond_true]
      rw [sumW_eq (k + 1) k s (fun x hx => h x (by simp [hx])) hs (by omega), if_neg (by omega), if_pos (Nat.le_refl _)]
      simp
      omega
    · rw [show ((k : Int) == (wo : Int)) = false by simp; omega]
      simp only [cond_false]
      rw [show W (s + vAt g j) = s + vAt g j from W_big (by omega), sumW_eq (k + 1) wo _ (fun x hx => h x (by simp [hx])) (by omega) (by omega)]
      by_cases hk : k ≤ wo
      · rw [if_pos hk, if_pos (by omega), show wo - k = (wo - (k + 1)) + 1 by omega, List.getElem?_cons_succ]
        omega
      · rw [if_neg hk, if_neg (by omega)]; omega
theorem sumT_mem {gs : List Gr} (h : ∀ g ∈ gs, chkG g = 0) {k : Nat} {g : Gr} (hg : gs[k]? = some g) (j : Nat) : vAt g j ≤ sumT gs j := by
  induction gs generalizing k with
  | nil => cases hg
  | cons a r ih =>
    have h1 := vAt_ok (h a (by simp)) j
    have h2 := (sumT_ok (i := j) (gs := r) fun x hx => h x (by simp [hx])).1
    rw [sumT_cons]
    match k, hg with
    | 0, hg => cases hg; omega
    | k + 1, hg => have := ih (fun x hx => h x (by simp [hx])) hg; omega

theorem pick_congr {p q : Nat → Bool} {w : Int} {n : Nat} (h : ∀ j, j < n → p j = q j) : pick p w n = pick q w n := by
  unfold pick
  rw [List.filter_congr fun j hj => h j (by simpa using hj)]
theorem leaves_eq {gs : List Gr} (hz : chkGs gs = 0) (h8 : g128 gs = true) (hL : large gs = false) {i v : Int} (hi : oob gs i = false) : leavesP gs v (atL gs i) = leavesR gs i v := by
  obtain ⟨_, h16, hall⟩ := chkGs_zero hz
  have hv : ∀ g ∈ gs, chkG g = 0 := fun g hg => (hall g hg).1
  unfold oob at hi
  simp only [Bool.or_eq_false_iff, decide_eq_false_iff_not] at hi
  obtain ⟨k, rfl⟩ : ∃ k : Nat, i = (k : Int) := Int.eq_ofNat_of_zero_le (Int.not_lt.1 hi.1)
  have hk : k < gs.length := by omega
  obtain ⟨g, hg⟩ : ∃ g, gs[k]? = some g := ⟨gs[k], List.getElem?_eq_getElem hk⟩
  have hat : atL gs (k : Int) = g.l := by unfold atL; rw [Int.toNat_natCast, hg]; rfl
  have hgl : g.l.length = hdL gs := Nat.eq_of_beq_eq_true (List.all_eq_true.1 (g128_le h8).2.2 g (List.mem_of_getElem? hg))
  rw [hat]
  unfold leavesP leavesR
  refine pick_congr fun j hj => ?_
  have hm : (gs.length : Int) * maxE ≤ 16 * maxE := Int.mul_le_mul_of_nonneg_right (by omega) (by decide)
  have hbig : (16 : Int) * maxE ≤ big := by decide
  have hS : sumI gs j ≤ maxE := by
    unfold large at hL
    rw [List.any_eq_false] at hL
    have := hL j (by simpa using hj)
    simpa using this
  have hST := sumI_eq hz j
  have h1 := vAt_ok (hv g (List.mem_of_getElem? hg)) j
  have h2 := sumT_mem hv hg j
  have hlt : (lessL gs g.l).length = hdL gs := by unfold lessL; rw [updL_len, sumL_len]
  have hless : nth (lessL gs g.l) j = t1 (sumT gs j - vAt g j) := by
    unfold lessL
    rw [nth_upd (by rw [sumL_len]; exact hj), nth_sumL hj]
    show t1 (W (sumI gs j - vAt g j)) = _
    rw [hST, W_big (by have := hbig; have : maxE = 10000000000000 := rfl; have : big = 1000000000000000 := rfl; omega)]
  have hrest : nth (refL gs (k : Int)) j = t1 (sumT gs j - vAt g j) := by
    rw [nth_refL hj, sumW_eq 0 k 0 hv (by omega) (by omega), if_pos (by omega), Nat.sub_zero, hg]
    simp
  have mapn : ∀ (l : List (Tup intK)), l.length = hdL gs → b1 (nth (l.map (abE v)) j) = decide (levR (i1 (nth l j)) ≥ v) := fun l hl => by
    rw [nthF (by simpa [hl] using hj), nthI (by rw [hl]; exact hj)]
    simp [b1, abE, tb1]
  unfold pP pR
  rw [mapn _ (sumL_len gs), mapn _ hlt, hless, hrest, refL_all, nth_sumL hj]
  show (decide (levR (sumI gs j) ≥ v) && !decide (levR (sumT gs j - vAt g j) ≥ v)) = (decide (levB (sumI gs j) ≥ v) && decide (levB (sumT gs j - vAt g j) < v))
  rw [levR_eq (by omega) hS, levR_eq (by omega) (by omega)]
  congr 1
  rw [Bool.eq_iff_iff]
  simp

theorem addX_eq {gs : List Gr} (hz : chkGs gs = 0) : addX gs = addXR gs := by
  have e : anyL (sumL gs) = large gs := by
    unfold anyL large
    rw [sumL_len, Bool.eq_iff_iff, List.any_eq_true, List.any_eq_true]
    constructor <;> rintro ⟨j, hj, h⟩ <;> refine ⟨j, hj, ?_⟩
    · rw [nth_sumL (by simpa using hj)] at h; exact h
    · rw [nth_sumL (by simpa using hj)]; exact h
  unfold addX addXR addG
  rw [hz, refL_all, e]; rfl
theorem addX_shape (gs : List Gr) : (addX gs).2 ≠ 0 → (addX gs).1 = g0 := by
  unfold addX
  cases (chkGs gs != 0)
  · cases large gs
    · exact fun h => absurd rfl h
    · exact fun _ => rfl
  · exact fun _ => rfl
theorem few_hd {gs : List Gr} (h : gs.all few = true) : hdL gs ≤ 36 := by
  cases gs with
  | nil => exact Nat.zero_le _
  | cons g r =>
    rw [List.all_cons, Bool.and_eq_true] at h
    have := of_decide_eq_true h.1
    show g.l.length ≤ 36
    omega
theorem few_sm {gs : List Gr} (h : gs.all few = true) : smGs gs = true := by
  unfold smGs
  rw [List.all_eq_true] at h ⊢
  intro g hg
  have := of_decide_eq_true (h g hg)
  exact Nat.ble_eq_true_of_le (by omega)
theorem addX_sm {gs : List Gr} (h : hdL gs ≤ 36) : smG (addX gs).1 = true := by
  unfold addX
  cases (chkGs gs != 0)
  · cases large gs
    · exact Nat.ble_eq_true_of_le (by show (sumL gs).length ≤ _; rw [sumL_len]; omega)
    · rfl
  · rfl
theorem sameP_refl (l : List (Tup ptK)) : sameP l l = true := by simp [sameP]
theorem pick_len (p : Nat → Bool) (w : Int) (n : Nat) : (pick p w n).length ≤ n := by
  unfold pick
  rw [List.length_map]
  exact Nat.le_trans (List.length_filter_le ..) (by simp)
theorem len17_le {gs : List Gr} (h : len17 gs = true) : gs.length ≤ 17 := by
  unfold len17 at h
  rw [Bool.or_eq_true] at h
  rcases h with h | h
  · cases gs with
    | nil => exact Nat.zero_le _
    | cons g r => rcases four h (by simp) with ⟨a, e⟩ | ⟨a, b, e⟩ | ⟨a, b, c, e⟩ | ⟨a, b, c, d, e⟩ <;> rw [e] <;> simp
  · exact Nat.le_of_eq (Nat.eq_of_beq_eq_true h)

theorem endS_ok {gs : List Gr} {x y i v one two four : Int} {sum : Gr} {sh wi : List (Tup ptK)} {loud : List (Tup intK)} (h17 : len17 gs = true) (hf : gs.all few = true)
    (h1 : wholeB (addX gs).1 (addX gs).2 one sum = true) (h2 : shX gs x y = (sh, two)) (h3 : listB (loudX gs).1 (loudX gs).2 (chkGs gs) loud = true) (h4 : cellsB (withX gs i v).1 (withX gs i v).2 four wi = true) :
    endS gs x y i v one sum two sh loud four wi = some (Bo true) := by
  have hd := few_hd hf
  have hl := len17_le h17
  unfold endS
  have k1 : Nat.ble (shX gs x y).1.length 100000 = true := Nat.ble_eq_true_of_le (by
    unfold shX
    cases (chkGs gs != 0)
    · cases hasB (hdG gs) x y
      · exact Nat.zero_le _
      · cases (e45 (sumI gs (ixG (hdG gs) x y).toNat) != 0)
        · show (shL _ _ gs).length ≤ _; unfold shL; rw [List.length_map]; omega
        · exact Nat.zero_le _
    · exact Nat.zero_le _)
  have k2 : Nat.ble (loudX gs).1.length 100000 = true := Nat.ble_eq_true_of_le (by
    unfold loudX
    cases (chkGs gs != 0)
    · show (loudL gs).length ≤ _; unfold loudL; simp; omega
    · exact Nat.zero_le _)
  have k3 : Nat.ble (withX gs i v).1.length 100000 = true := Nat.ble_eq_true_of_le (by
    unfold withX
    cases (e47 gs (oob gs i) v != 0)
    · cases large gs
      · have := pick_len (pP v (sumL gs) (lessL gs (atL gs i))) (hdG gs).w (hdL gs)
        show (leavesP gs v (atL gs i)).length ≤ _
        unfold leavesP; omega
      · exact Nat.zero_le _
    · exact Nat.zero_le _)
  rw [addX_sm hd, h1, k1, k2, h3, k3, h4, h2, sameP_refl]
  simp
theorem listB_ok {p : List (Tup intK) × Int} {bad : Int} {want : List (Tup intK)} (he : p.2 = bad) (hs : bad ≠ 0 → p.1 = []) (hq : bad = 0 → want = p.1) : listB p.1 p.2 bad want = true := by
  unfold listB
  cases h : (bad != 0) with
  | true => rw [hs (by simpa using h), he]; simp [sameI]
  | false => rw [hq (by simpa using h), he]; simp [sameI]
theorem cellsB_ok {p : List (Tup ptK) × Int} {bad : Int} {want : List (Tup ptK)} (he : p.2 = bad) (hs : bad ≠ 0 → p.1 = []) (hq : bad = 0 → want = p.1) : cellsB p.1 p.2 bad want = true := by
  unfold cellsB
  cases h : (bad != 0) with
  | true => rw [hs (by simpa using h), he]; simp [sameP]
  | false => rw [hq (by simpa using h), he]; simp [sameP]
theorem e47_chk {gs : List Gr} {b : Bool} {v : Int} (h : chkGs gs ≠ 0) : e47 gs b v = chkGs gs := by
  unfold e47 firstZ
  rw [show (chkGs gs != 0) = true by simpa using h]; rfl

theorem s4_ok {gs : List Gr} {x y i v one two : Int} {b : Bool} {sum : Gr} {sh : List (Tup ptK)} {loud : List (Tup intK)} (h17 : len17 gs = true) (hf : gs.all few = true) (hb : b = oob gs i)
    (h1 : wholeB (addX gs).1 (addX gs).2 one sum = true) (h2 : shX gs x y = (sh, two)) (h3 : listB (loudX gs).1 (loudX gs).2 (chkGs gs) loud = true) :
    s4 gs x y i v b one sum two sh loud = some (Bo true) := by
  subst hb
  unfold s4
  cases he : (e47 gs (oob gs i) v == 0) with
  | true =>
    have hz := e47_zero (gs := gs) (b := oob gs i) (v := v) (by simpa using he)
    have h8 := chk_g128 h17 hz.1
    rw [h8, hz.1]
    have hw : withX gs i v = withXR gs i v := by
      have : (e47 gs (oob gs i) v != 0) = false := by simpa using he
      unfold withX withXR
      rw [this]
      have e := addX_eq hz.1
      cases hL : large gs with
      | true =>
        have : anyL (refL gs (-1)) = true := by
          unfold addX addXR at e
          rw [hz.1, hL] at e
          cases ha : anyL (refL gs (-1)) with
          | true => rfl
          | false => rw [ha] at e; exact absurd (congrArg Prod.snd e) (by simp)
        rw [this]; rfl
      | false =>
        have : anyL (refL gs (-1)) = false := by
          unfold addX addXR at e
          rw [hz.1, hL] at e
          cases ha : anyL (refL gs (-1)) with
          | false => rfl
          | true => rw [ha] at e; exact absurd (congrArg Prod.snd e) (by simp)
        rw [this, leaves_eq hz.1 h8 hL hz.2]; rfl
    refine endS_ok h17 hf h1 h2 h3 ?_
    rw [hw]
    refine cellsB_ok rfl (fun h => ?_) (fun _ => rfl)
    unfold withXR at h ⊢
    cases ha : anyL (refL gs (-1)) with
    | true => rfl
    | false => rw [ha] at h; exact absurd rfl h
  | false =>
    have hne : (e47 gs (oob gs i) v != 0) = true := by simpa using he
    refine endS_ok h17 hf h1 h2 h3 ?_
    have hw : withX gs i v = ([], e47 gs (oob gs i) v) := by unfold withX; rw [hne]; rfl
    rw [hw]
    exact cellsB_ok rfl (fun _ => rfl) (fun _ => rfl)

theorem s1_ok {gs : List Gr} {x y i v : Int} {b : Bool} (h17 : len17 gs = true) (hf : gs.all few = true) (hb : b = oob gs i) : s1 gs x y i v b = some (Bo true) := by
  unfold s1
  cases hc : (chkGs gs == 0) with
  | false =>
    have hne : chkGs gs ≠ 0 := by simpa using hc
    have hne' : (chkGs gs != 0) = true := by simpa using hc
    have hX : addX gs = (g0, chkGs gs) := by unfold addX; rw [hne']; rfl
    simp only [cond_false]
    unfold s2
    rw [hc]
    refine s4_ok h17 hf hb ?_ ?_ ?_
    · rw [hX]; exact whole_ok (p := (g0, chkGs gs)) (fun _ => rfl) rfl (fun h => absurd h hne)
    · unfold shX; rw [hne']; rfl
    · have : loudX gs = ([], chkGs gs) := by unfold loudX; rw [hne']; rfl
      rw [this]
      exact listB_ok rfl (fun _ => rfl) (fun h => absurd h hne)
  | true =>
    have hz : chkGs gs = 0 := by simpa using hc
    have hz' : (chkGs gs != 0) = false := by simp [hz]
    have h8 := chk_g128 h17 hz
    have h4 := (g128_le h8).2.1
    rw [h8]
    simp only [cond_true]
    have hA : wholeB (addX gs).1 (addX gs).2 (addXR gs).2 (addXR gs).1 = true := by
      rw [← addX_eq hz]
      exact whole_ok (addX_shape gs) rfl (fun _ => rfl)
    have hLo : listB (loudX gs).1 (loudX gs).2 (chkGs gs) (loudL gs) = true := by
      have : loudX gs = (loudL gs, 0) := by unfold loudX; rw [hz']; rfl
      rw [this, hz]
      exact listB_ok rfl (fun h => absurd rfl h) (fun _ => rfl)
    unfold s2
    cases hB : hasB (hdG gs) x y with
    | false =>
      refine s4_ok h17 hf hb hA ?_ hLo
      unfold shX
      rw [hz', hB]; rfl
    | true =>
      rw [h4, hc]
      refine s4_ok h17 hf hb hA ?_ hLo
      unfold shX shT
      rw [hz', hB]
      cases (e45 (sumI gs (ixG (hdG gs) x y).toNat) != 0) <;> rfl

theorem law5_true {gs : List Gr} {x y i v : Int} (h17 : len17 gs = true) : law5 gs x y i v = some (Bo true) := by
  unfold law5
  cases hf : gs.all few with
  | false => rfl
  | true =>
    have hs := few_sm hf
    unfold gdS
    rw [h17, hs]
    simp only [Bool.not_true, cond_false, Bool.and_true, cond_true]
    cases hi : decide (i < 0) with
    | true => exact s1_ok h17 hf (by unfold oob; rw [hi]; rfl)
    | false => exact s1_ok h17 hf (by unfold oob; rw [hi]; rfl)
end
end Go.Proofs.YthcpfignhalffaaGreatDoor
