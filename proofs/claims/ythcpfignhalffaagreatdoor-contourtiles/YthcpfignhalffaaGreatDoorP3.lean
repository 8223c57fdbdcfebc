/-
  A part of the proof of the statement that the claim names: see the last file.
-/
import Derived.Test.YthcpfignhalffaaGreatDoorP2
namespace Go.Proofs.YthcpfignhalffaaGreatDoor
open Go Go.Am
set_option maxRecDepth 100000
noncomputable section


theorem thr_step : ((List.range 120).all fun k => decide (thrN k < thrN (k + 1))) = true := by kernel_rfl
theorem thr_mono : ∀ (d i : Nat), i + d ≤ 120 → 0 < d → thrN i < thrN (i + d)
  | 0, _, _, h => by omega
  | d + 1, i, h, _ => by
    have h1 : thrN (i + d) < thrN (i + d + 1) := by
      have := List.all_eq_true.1 thr_step (i + d) (by simp; omega)
      simpa using this
    rcases Nat.eq_zero_or_pos d with hd | hd
    · subst hd; simpa using h1
    · exact Nat.lt_trans (thr_mono d i (by omega) hd) h1

def IsLv (e m : Int) : Prop := -1 ≤ m ∧ m ≤ 120 ∧ (0 ≤ m → thr m ≤ e) ∧ (m < 120 → e < thr (m + 1))
theorem lv_uniq {e m n : Int} (h : IsLv e m) (k : IsLv e n) : m = n := by
  have key : ∀ {m n : Int}, IsLv e m → IsLv e n → ¬ m < n := fun {m n} h k hlt => by
    obtain ⟨a1, a2, _, a4⟩ := h
    obtain ⟨b1, b2, b3, _⟩ := k
    have h1 := a4 (by omega)
    have h2 := b3 (by omega)
    have : thr (m + 1) ≤ thr n := by
      unfold thr
      rcases Nat.lt_or_ge (m + 1).toNat n.toNat with hl | hl
      · have := thr_mono (n.toNat - (m + 1).toNat) (m + 1).toNat (by omega) (by omega)
        rw [show (m + 1).toNat + (n.toNat - (m + 1).toNat) = n.toNat by omega] at this
        omega
      · rw [show (m + 1).toNat = n.toNat by omega]; omega
    omega
  have h1 := key h k
  have h2 := key k h
  omega

theorem levF_lv (e : Int) : ∀ (f : Nat) (k : Int), -1 ≤ k → k ≤ 120 → 120 < k + f → (0 ≤ k → thr k ≤ e) → IsLv e (levF f e k)
  | 0, k, _, h1, h2, _ => by omega
  | f + 1, k, h0, h1, h2, h3 => by
    unfold levF
    cases hc : (decide (k < 120) && decide (thr (k + 1) ≤ e)) with
    | true =>
      simp only [Bool.and_eq_true, decide_eq_true_eq] at hc
      exact levF_lv e f (k + 1) (by omega) (by omega) (by omega) (fun _ => hc.2)
    | false =>
      show IsLv e k
      refine ⟨h0, h1, h3, fun hk => ?_⟩
      simp only [Bool.and_eq_false_iff, decide_eq_false_iff_not] at hc
      rcases hc with hc | hc <;> omega
theorem lev_lv (e : Int) : IsLv e (lev e) := levF_lv e 122 (-1) (by decide) (by decide) (by decide) (fun h => absurd h (by decide))

theorem levB_inv (e : Int) : ∀ (n k : Nat) (b : Int), k + n ≤ 121 → -1 ≤ b → b < k → (0 ≤ b → thr b ≤ e) → (∀ j : Nat, b < j → j < k → e < thr j) →
    (fun m : Int => -1 ≤ m ∧ m < ((k + n : Nat) : Int) ∧ (0 ≤ m → thr m ≤ e) ∧ (∀ j : Nat, m < j → j < k + n → e < thr j)) ((List.range' k n).foldl (fun b (k : Nat) => stepB e (k : Int) b) b)
  | 0, k, b, _, h1, h2, h3, h4 => ⟨h1, by simpa using h2, h3, h4⟩
  | n + 1, k, b, h0, h1, h2, h3, h4 => by
    rw [List.range'_succ, List.foldl_cons]
    unfold stepB
    have hkn : k + (n + 1) = (k + 1) + n := by omega
    rw [hkn]
    cases hc : decide (thr (k : Int) ≤ e) with
    | true =>
      rw [decide_eq_true_eq] at hc
      exact levB_inv e n (k + 1) (k : Int) (by omega) (by omega) (by omega) (fun _ => hc) (fun j j1 j2 => by omega)
    | false =>
      rw [decide_eq_false_iff_not] at hc
      exact levB_inv e n (k + 1) b (by omega) h1 (by omega) h3 (fun j j1 j2 => by
        rcases Nat.lt_or_ge j k with hj | hj
        · exact h4 j j1 hj
        · have : j = k := by omega
          subst this; omega)
theorem levB_lv (e : Int) : IsLv e (levB e) := by
  have := levB_inv e 121 0 (-1) (by omega) (by omega) (by omega) (fun h => absurd h (by decide)) (fun j _ h => absurd h (by omega))
  rw [← List.range_eq_range'] at this
  obtain ⟨h1, h2, h3, h4⟩ := this
  have h1 : -1 ≤ levB e := h1
  have h2 : levB e < 121 := h2
  refine ⟨h1, by omega, h3, fun hk => ?_⟩
  have := h4 (levB e + 1).toNat (by show levB e < _; omega) (by omega)
  rwa [show (((levB e + 1).toNat : Nat) : Int) = levB e + 1 by omega] at this
theorem lev_eq (e : Int) : lev e = levB e := lv_uniq (lev_lv e) (levB_lv e)
theorem levR_eq {e : Int} (h1 : 0 ≤ e) (h2 : e ≤ maxE) : levR e = levB e := by
  have : withinZ e 0 maxE = 0 := by
    unfold withinZ whenZ
    have a1 : ¬ e < 0 := by omega
    have a2 : ¬ e > maxE := by omega
    simp [a1, a2]
  unfold levR
  rw [this]
  exact lev_eq e


theorem dif_eq {a b : Gr} (ca : chkG a = 0) (cb : chkG b = 0) (hl : a.l.length = b.l.length) : difP a b = difR a b := by
  obtain ⟨_, _, _, _, _, va⟩ := chk_len ca
  obtain ⟨_, _, _, _, _, vb⟩ := chk_len cb
  apply List.ext_getElem?
  intro j
  unfold difP difR
  rw [updL_get, List.getElem?_map, List.getElem?_map]
  rcases Nat.lt_or_ge j a.l.length with hj | hj
  · have hjb : j < b.l.length := by omega
    rw [List.getElem?_eq_getElem hjb, List.getElem?_range' hj]
    have ea := va _ (List.getElem_mem hj)
    have eb := vb _ (List.getElem_mem hjb)
    have na : nth a.l j = a.l[j] := by simp [nth, hj]
    have nla : nth (a.l.map lbE) j = lbE a.l[j] := by simp [nth, hj]
    have nlb : nth (b.l.map lbE) j = lbE b.l[j] := by simp [nth, hjb]
    simp only [Option.map_some, Nat.zero_add, Nat.one_mul, Option.some.injEq]
    unfold dfE dfR
    rw [na, nla, nlb]
    show t1 (W (levR (i1 b.l[j]) - levR (i1 a.l[j]))) = t1 (W (levB (i1 b.l[j]) - levB (i1 a.l[j])))
    rw [levR_eq eb.1 eb.2, levR_eq ea.1 ea.2]
  · rw [List.getElem?_eq_none (by omega), List.getElem?_eq_none (by simp; omega)]; rfl
end
end Go.Proofs.YthcpfignhalffaaGreatDoor

namespace Go.Proofs.YthcpfignhalffaaGreatDoor
open Go Go.Am
set_option maxRecDepth 100000
noncomputable section


theorem sm_le {g : Gr} (h : g.l.length ≤ 100000) : smG g = true := Nat.ble_eq_true_of_le h
theorem sm_g0 : smG g0 = true := rfl
theorem same_refl (a : Gr) : sameG a a = true := by simp [sameG, sizeB, sameI]
theorem whole_ok {p : Gr × Int} {e : Int} {q : Gr} (hs : p.2 ≠ 0 → p.1 = g0) (he : e = p.2) (hq : p.2 = 0 → q = p.1) : wholeB p.1 p.2 e q = true := by
  subst he
  unfold wholeB
  cases h : (p.2 != 0) with
  | true => rw [hs (by simpa using h)]; simp [same_refl]
  | false => rw [hq (by simpa using h)]; simp [same_refl]
theorem list_ok {a b : Gr} {one : Int} {df : List (Tup intK)} (he : one = e62 a b) (hq : e62 a b = 0 → df = difP a b) : listB (difX a b) (e62 a b) one df = true := by
  subst he
  unfold listB difX
  cases h : (e62 a b != 0) with
  | true => simp [sameI]
  | false => rw [hq (by simpa using h)]; simp [sameI]
theorem rows_len (g : Gr) (b : Bx) : ∀ (n : Nat) (y : Int), (rowsF g b n y).length ≤ n * g.l.length
  | 0, _ => by simp [rowsF]
  | n + 1, y => by
    unfold rowsF
    rw [List.length_append, Nat.succ_mul]
    have := rows_len g b n (y + 1)
    have := row_len g b y
    omega
theorem chk_sm {g : Gr} (h : chkG g = 0) : g.l.length ≤ 256 := by
  obtain ⟨h1, h2, h3, h4, h5, _⟩ := chk_len h
  have hm := mul_bound (a := g.w) (b := g.h) (by omega) h3 (by omega) h5
  rw [W_in (by omega)] at h1
  omega
theorem tile_shape (g : Gr) (b : Bx) : (tileX g b).2 ≠ 0 → (tileX g b).1 = g0 := by
  unfold tileX; cases h : (e78 g b != 0) <;> simp
theorem tile_e (g : Gr) (b : Bx) : (tileX g b).2 = e78 g b := by
  unfold tileX
  cases h : (e78 g b != 0)
  · have h0 : e78 g b = 0 := by simpa using h
    exact h0.symm
  · rfl
theorem tile_g {g : Gr} {b : Bx} (h : e78 g b = 0) : (tileX g b).1 = tileG g b := by
  unfold tileX; rw [h]; rfl
theorem tile_sm (g : Gr) (b : Bx) : smG (tileX g b).1 = true := by
  cases h : (e78 g b != 0) with
  | true => rw [show tileX g b = (g0, e78 g b) by unfold tileX; rw [h]; rfl]; rfl
  | false =>
    have h0 : e78 g b = 0 := by simpa using h
    rw [tile_g h0]
    have hb := box_ok h0
    have hz := firstZ_zero h0
    have h1 := hz (chkG g) (by simp)
    have h3 := full_zero (hz (fullZ b.r0 b.r1 g.h) (by simp))
    obtain ⟨_, _, _, _, k5, _⟩ := chk_len h1
    apply sm_le
    have := rows_len g b (b.r1 - b.r0).toNat b.r0
    have hl := chk_sm h1
    have : (b.r1 - b.r0).toNat * g.l.length ≤ 16 * 256 := Nat.mul_le_mul (by omega) hl
    show (tileL g b).length ≤ 100000
    unfold tileL
    omega
theorem ov_shape (g t : Gr) (x y : Int) : (ovX g t x y).2 ≠ 0 → (ovX g t x y).1 = g0 := by
  unfold ovX
  cases decide (t.w > W (g.w - x)) <;> cases decide (t.h > W (g.h - y)) <;> cases anyO g t x y <;> simp
theorem over_shape (g t : Gr) (x y : Int) : (overX g t x y).2 ≠ 0 → (overX g t x y).1 = g0 := by
  unfold overX; cases h : (e79 g t x y != 0)
  · exact ov_shape g t x y
  · simp
theorem over_sm {g t : Gr} (x y : Int) (hg : smG g = true) : smG (overX g t x y).1 = true := by
  unfold overX ovX
  cases (e79 g t x y != 0) <;> cases decide (t.w > W (g.w - x)) <;> cases decide (t.h > W (g.h - y)) <;> cases anyO g t x y <;> first | rfl | exact hg
theorem join_shape (a b : Gr) : (joinX a b).2 ≠ 0 → (joinX a b).1 = g0 := by
  unfold joinX; cases h : (e80 a b != 0) <;> simp
theorem cat_len {a b : Gr} (ha : chkG a = 0) (hb : chkG b = 0) (hh : a.h = b.h) : ∀ (n k : Nat) (o : List (Tup intK)), ((k + n : Nat) : Int) ≤ a.h → ((List.range' k n).foldl (fun out (j : Nat) => out ++ rowJ a (j : Int) ++ rowJ b (j : Int)) o).length ≤ o.length + n * 2000
  | 0, k, o, _ => by simp
  | n + 1, k, o, hk => by
    rw [List.range'_succ, List.foldl_cons]
    have h1 := cat_len ha hb hh n (k + 1) (o ++ rowJ a (k : Int) ++ rowJ b (k : Int)) (by omega)
    have h2 := (joinRow ha (j := k) (by omega)).2
    have h3 := (joinRow hb (j := k) (by omega)).2
    simp only [List.length_append] at h1
    omega
theorem join_sm (a b : Gr) : smG (joinX a b).1 = true := by
  cases h : (e80 a b != 0) with
  | true => rw [show joinX a b = (g0, e80 a b) by unfold joinX; rw [h]; rfl]; rfl
  | false =>
    have h0 : e80 a b = 0 := by simpa using h
    rw [show joinX a b = (joinG a b, 0) by unfold joinX; rw [h]; rfl]
    obtain ⟨ha, hb, hh⟩ := e80_zero h0
    obtain ⟨_, _, _, _, k5, _⟩ := chk_len ha
    apply sm_le
    have := cat_len ha hb hh a.h.toNat 0 [] (by omega)
    show (catL a b).length ≤ 100000
    unfold catL
    have h2 : a.h.toNat * 2000 ≤ 16 * 2000 := Nat.mul_le_mul (by omega) (Nat.le_refl _)
    simp only [List.length_nil] at this
    omega
theorem dif_len {a b : Gr} (hb : smG b = true) : Nat.ble (difX a b).length 100000 = true := by
  unfold difX
  cases (e62 a b != 0)
  · show Nat.ble (difP a b).length 100000 = true
    unfold difP
    rw [updL_len, List.length_map]
    exact hb
  · rfl

structure EndOK (a b : Gr) (bx : Bx) (x y one : Int) (df : List (Tup intK)) (box : Int) (tl : Gr) (three : Int) (ov : Gr) (four : Int) (jo : Gr) : Prop where
  e1 : one = e62 a b
  d : e62 a b = 0 → df = difP a b
  e2 : box = e78 a bx
  t : e78 a bx = 0 → tl = tileG a bx
  e3 : three = (overX a b x y).2
  o : (overX a b x y).2 = 0 → ov = (overX a b x y).1
  e4 : four = (joinX a b).2
  j : (joinX a b).2 = 0 → jo = (joinX a b).1
theorem end_ok {a b : Gr} {bx : Bx} {x y one : Int} {df : List (Tup intK)} {box : Int} {tl : Gr} {three : Int} {ov : Gr} {four : Int} {jo : Gr} (ha : smG a = true) (hb : smG b = true)
    (h : EndOK a b bx x y one df box tl three ov four jo) : lwEnd a b bx x y one df box tl three ov four jo = some (Bo true) := by
  unfold lwEnd
  rw [dif_len hb, list_ok h.e1 h.d, tile_sm, whole_ok (tile_shape a bx) (h.e2.trans (tile_e a bx).symm) (fun k => (h.t (by rwa [tile_e] at k)).trans (tile_g (by rwa [tile_e] at k)).symm),
    over_sm x y ha, whole_ok (over_shape a b x y) h.e3 h.o, join_sm, whole_ok (join_shape a b) h.e4 h.j]
  rfl
end
end Go.Proofs.YthcpfignhalffaaGreatDoor

namespace Go.Proofs.YthcpfignhalffaaGreatDoor
open Go Go.Am
set_option maxRecDepth 100000
noncomputable section

theorem first_cons0 (l : List Int) : firstZ (0 :: l) = firstZ l := rfl
theorem first_consN {a : Int} (h : a ≠ 0) (l : List Int) : firstZ (a :: l) = a := by
  unfold firstZ
  rw [show (a != 0) = true by simpa using h]
  rfl
theorem first_pre {a b : Int} {l : List Int} (h : firstZ [a, b] ≠ 0) : firstZ (a :: b :: l) = firstZ [a, b] := by
  by_cases ha : a = 0
  · subst ha
    rw [first_cons0] at h ⊢
    rw [first_cons0]
    by_cases hb : b = 0
    · subst hb; exact absurd rfl h
    · rw [first_consN hb, first_consN hb]
  · rw [first_consN ha, first_consN ha]
theorem first_pre0 {a b : Int} (h : firstZ [a, b] = 0) : a = 0 ∧ b = 0 := by
  have := firstZ_zero h
  exact ⟨this a (by simp), this b (by simp)⟩
theorem first_one (a : Int) : firstZ [a] = a := by
  by_cases ha : a = 0
  · subst ha; rfl
  · exact first_consN ha _
theorem first_nest (a b c : Int) : firstZ [firstZ [a, b], c] = firstZ [a, b, c] := by
  by_cases h : firstZ [a, b] = 0
  · obtain ⟨rfl, rfl⟩ := first_pre0 h; rfl
  · rw [first_consN h]
    exact (first_pre h).symm

structure MidOK (a b : Gr) (bx : Bx) (one : Int) (df : List (Tup intK)) (box : Int) (tl : Gr) : Prop where
  e1 : one = e62 a b
  d : e62 a b = 0 → df = difP a b
  e2 : box = e78 a bx
  t : e78 a bx = 0 → tl = tileG a bx

theorem lw5_ok {a b : Gr} {bx : Bx} {x y one : Int} {df : List (Tup intK)} {box : Int} {tl : Gr} {three four : Int} {jo : Gr} (ha : smG a = true) (hb : smG b = true)
    (m : MidOK a b bx one df box tl) (h3 : three = e79 a b x y) (h4 : four = (joinX a b).2) (hj : (joinX a b).2 = 0 → jo = (joinX a b).1) :
    lw5 a b bx x y one df box tl three four jo = some (Bo true) := by
  unfold lw5
  cases h : (three == 0) with
  | true =>
    have h0 : e79 a b x y = 0 := by rw [← h3]; simpa using h
    obtain ⟨c1, c2, c3⟩ := e79_zero h0
    rw [ha, hb, c1, c2, c3]
    have ho : overX a b x y = ovX a b x y := by unfold overX; rw [h0]; rfl
    show lwEnd a b bx x y one df box tl (ovX a b x y).2 (ovX a b x y).1 four jo = _
    exact end_ok ha hb ⟨m.e1, m.d, m.e2, m.t, by rw [ho], fun _ => by rw [ho], h4, hj⟩
  | false =>
    have h0 : e79 a b x y ≠ 0 := by rw [← h3]; simpa using h
    have ho : overX a b x y = (g0, e79 a b x y) := by
      unfold overX
      rw [show (e79 a b x y != 0) = true by simpa using h0]
      rfl
    show lwEnd a b bx x y one df box tl three g0 four jo = _
    exact end_ok ha hb ⟨m.e1, m.d, m.e2, m.t, by rw [ho]; exact h3, fun k => by rw [ho] at k; exact absurd k h0, h4, hj⟩

theorem lw4_ok {a b : Gr} {bx : Bx} {x y one : Int} {df : List (Tup intK)} {box : Int} {tl : Gr} (ha : smG a = true) (hb : smG b = true)
    (m : MidOK a b bx one df box tl) : lw4 (chkG a) (chkG b) a b bx x y one df box tl = some (Bo true) := by
  unfold lw4
  cases h : (firstZ [chkG a, chkG b] == 0) with
  | true =>
    obtain ⟨c1, c2⟩ := first_pre0 (a := chkG a) (b := chkG b) (by simpa using h)
    have hj : joinX a b = joinXR a b := by
      unfold joinX joinXR e80 e84
      rw [c1, c2, first_cons0, first_cons0]
    rw [c1, c2]
    show lw5 a b bx x y one df box tl (whenZ (!hasB a x y) 10) (joinXR a b).2 (joinXR a b).1 = _
    refine lw5_ok ha hb m ?_ (by rw [hj]) (fun _ => by rw [hj])
    unfold e79
    rw [c1, c2, first_cons0, first_cons0, first_one]
  | false =>
    have h0 : firstZ [chkG a, chkG b] ≠ 0 := by simpa using h
    have he : e80 a b = firstZ [chkG a, chkG b] := first_pre h0
    have hj : joinX a b = (g0, firstZ [chkG a, chkG b]) := by
      unfold joinX
      rw [he, show (firstZ [chkG a, chkG b] != 0) = true by simpa using h0]
      rfl
    show lw5 a b bx x y one df box tl (firstZ [chkG a, chkG b]) (firstZ [chkG a, chkG b]) g0 = _
    exact lw5_ok ha hb m (first_pre h0).symm (by rw [hj]) (fun _ => by rw [hj])

theorem lw3_ok {a b : Gr} {bx : Bx} {x y one : Int} {df : List (Tup intK)} {box : Int} (ha : smG a = true) (hb : smG b = true)
    (e1 : one = e62 a b) (d : e62 a b = 0 → df = difP a b) (e2 : box = e78 a bx) : lw3 (chkG a) (chkG b) a b bx x y one df box = some (Bo true) := by
  unfold lw3
  subst e2
  cases h : (e78 a bx == 0) with
  | true =>
    rw [ha]
    show lw4 (chkG a) (chkG b) a b bx x y one df (e78 a bx) (tileG a bx) = _
    exact lw4_ok ha hb ⟨e1, d, rfl, fun _ => rfl⟩
  | false =>
    show lw4 (chkG a) (chkG b) a b bx x y one df (e78 a bx) g0 = _
    exact lw4_ok ha hb ⟨e1, d, rfl, fun k => by rw [k] at h; cases h⟩

theorem lw2_ok {a b : Gr} {bx : Bx} {x y one : Int} {df : List (Tup intK)} (ha : smG a = true) (hb : smG b = true)
    (e1 : one = e62 a b) (d : e62 a b = 0 → df = difP a b) : lw2 (chkG a) (chkG b) a b bx x y one df = some (Bo true) := by
  unfold lw2
  cases h : (chkG a == 0) with
  | true =>
    refine lw3_ok ha hb e1 d ?_
    unfold e78
    rw [show chkG a = 0 by simpa using h, first_cons0]
  | false =>
    refine lw3_ok ha hb e1 d ?_
    have h0 : chkG a ≠ 0 := by simpa using h
    exact (first_consN h0 _).symm

theorem lw1_ok {a b : Gr} {bx : Bx} {x y : Int} (ha : smG a = true) (hb : smG b = true) : lw1 (chkG a) (chkG b) a b bx x y = some (Bo true) := by
  have he : oneE (chkG a) (chkG b) a b = e62 a b := first_nest _ _ _
  unfold lw1
  rw [he]
  cases h : (e62 a b == 0) with
  | true =>
    obtain ⟨c1, c2, hw, hh⟩ := e62_zero (a := a) (b := b) (by simpa using h)
    have hl := same_len c1 c2 hw hh
    rw [ha, hb, show Nat.beq a.l.length b.l.length = true by rw [hl]; exact Nat.beq_refl _]
    show lw2 (chkG a) (chkG b) a b bx x y (e62 a b) (difR a b) = _
    exact lw2_ok ha hb rfl (fun _ => (dif_eq c1 c2 hl).symm)
  | false =>
    show lw2 (chkG a) (chkG b) a b bx x y (e62 a b) [] = _
    exact lw2_ok ha hb rfl (fun k => by rw [k] at h; cases h)

theorem lwB_ok {a b : Gr} {bx : Bx} {x y : Int} (ha : smG a = true) (hb : smG b = true) : lwB (chkG a) a b bx x y = some (Bo true) := by
  have h1 := lw1_ok (a := a) (b := b) (bx := bx) (x := x) (y := y) ha hb
  unfold lwB
  rw [hb]
  rcases chk_vals b with e | e | e <;> rw [e] at h1 ⊢ <;> exact h1
theorem lwA_ok {a b : Gr} {bx : Bx} {x y : Int} (ha : smG a = true) (hb : smG b = true) : lwA a b bx x y = some (Bo true) := by
  have h1 := lwB_ok (a := a) (b := b) (bx := bx) (x := x) (y := y) ha hb
  unfold lwA
  rw [ha]
  rcases chk_vals a with e | e | e <;> rw [e] at h1 ⊢ <;> exact h1

theorem few_sm {g : Gr} (h : (!few g) = false) : smG g = true := by
  have : few g = true := by simpa using h
  unfold few at this
  exact sm_le (by have := of_decide_eq_true this; omega)
theorem law9_true (a b : Gr) (bx : Bx) (x y : Int) : law9 a b bx x y = some (Bo true) := by
  unfold law9
  cases ha : !few a with
  | true => rfl
  | false =>
    cases hb : !few b with
    | true => rfl
    | false =>
      have sa := few_sm ha
      have sb := few_sm hb
      rw [sa, sb]
      exact lwA_ok sa sb
end
end Go.Proofs.YthcpfignhalffaaGreatDoor
