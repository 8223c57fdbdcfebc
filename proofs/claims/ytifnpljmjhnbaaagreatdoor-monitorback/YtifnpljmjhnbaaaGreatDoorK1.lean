/-
  A part of the proof of the statement that the claim names: see the last file.
-/
import Derived.Test.YtifnpljmjhnbaaaGreatDoorL5
namespace Go.Proofs.YtifnpljmjhnbaaaGreatDoor
open Go Go.Am Go.RowKit
set_option maxRecDepth 100000


theorem scan_c2 (b : UInt8) (l : List UInt8) (n : Int) : scan (b :: l) n = bif decide (((b.toNat : Nat) : Int) < 48) || decide (((b.toNat : Nat) : Int) > 57) then (n, true) else scan l (10 * n + (b.toNat - 48)) := rfl
theorem scan_dig {d : Nat} (hd : d < 10) (l : List UInt8) (n : Int) : scan (UInt8.ofNat (48 + d) :: l) n = scan l (10 * n + d) := by
  have e : ((UInt8.ofNat (48 + d)).toNat : Int) = 48 + d := by
    rw [UInt8.toNat_ofNat', Nat.mod_eq_of_lt (by omega)]
    omega
  rw [scan_c2, e, decide_eq_false (show ¬ ((48 : Int) + d < 48) by omega), decide_eq_false (show ¬ ((48 : Int) + d > 57) by omega)]
  show scan l (10 * n + (48 + (d : Int) - 48)) = _
  rw [show 10 * n + (48 + (d : Int) - 48) = 10 * n + d by omega]
theorem digs_lt {f n : Nat} {acc : List UInt8} (h : n < 10) : digs (f + 1) n acc = UInt8.ofNat (48 + n) :: acc := by
  unfold digs
  rw [show Nat.blt n 10 = true by exact (Nat.ble_eq ..).mpr h]
theorem digs_ge {f n : Nat} {acc : List UInt8} (h : 10 ≤ n) : digs (f + 1) n acc = digs f (n / 10) (UInt8.ofNat (48 + n % 10) :: acc) := by
  show (match Nat.blt n 10 with | true => _ | false => _) = _
  have : Nat.blt n 10 = false := by
    cases hb : Nat.blt n 10 with
    | false => rfl
    | true =>
      have := Nat.le_of_ble_eq_true hb
      omega
  rw [this]
theorem scan_digs : ∀ (f n : Nat) (acc : List UInt8), n < 10 ^ f → scan (digs f n acc) 0 = scan acc n
  | 0, n, acc, h => by
    rw [Nat.pow_zero] at h
    rw [show n = 0 by omega]
    rfl
  | f + 1, n, acc, h => by
    by_cases hn : n < 10
    · rw [digs_lt hn, scan_dig hn, show 10 * (0 : Int) + n = n by omega]
    · rw [digs_ge (by omega), scan_digs f (n / 10) _ (by rw [Nat.pow_succ] at h; omega), scan_dig (Nat.mod_lt _ (by omega))]
      congr 1
      omega
theorem digs_le : ∀ (k f n : Nat) (acc : List UInt8), n < 10 ^ (k + 1) → (digs f n acc).length ≤ k + 1 + acc.length
  | k, 0, n, acc, h => by show acc.length ≤ _; omega
  | 0, f + 1, n, acc, h => by rw [digs_lt (by simpa using h), List.length_cons]; omega
  | k + 1, f + 1, n, acc, h => by
    by_cases hn : n < 10
    · rw [digs_lt hn, List.length_cons]; omega
    · rw [digs_ge (by omega)]
      have := digs_le k f (n / 10) (UInt8.ofNat (48 + n % 10) :: acc) (by rw [Nat.pow_succ] at h; omega)
      rw [List.length_cons] at this
      omega
theorem dig_ne {d : Nat} (h0 : 0 < d) (hd : d < 10) : (UInt8.ofNat (48 + d) == 48) = false := by
  rw [beq_eq_false_iff_ne]
  intro e
  have := congrArg UInt8.toNat e
  rw [UInt8.toNat_ofNat', Nat.mod_eq_of_lt (by omega)] at this
  have h48 : (48 : UInt8).toNat = 48 := rfl
  omega
theorem digs_head : ∀ (f n : Nat) (acc : List UInt8), 0 < n → n < 10 ^ f → ∃ b t, digs f n acc = b :: t ∧ (b == 48) = false
  | 0, n, acc, h0, h => by rw [Nat.pow_zero] at h; omega
  | f + 1, n, acc, h0, h => by
    by_cases hn : n < 10
    · exact ⟨_, _, digs_lt hn, dig_ne h0 hn⟩
    · rw [digs_ge (by omega)]
      exact digs_head f (n / 10) _ (by omega) (by rw [Nat.pow_succ] at h; omega)
theorem digs_ne : ∀ (f n : Nat) (acc : List UInt8), acc.length < (digs (f + 1) n acc).length
  | f, n, acc => by
    by_cases hn : n < 10
    · rw [digs_lt hn, List.length_cons]; omega
    · rw [digs_ge (by omega)]
      cases f with
      | zero => show acc.length < (UInt8.ofNat (48 + n % 10) :: acc).length; rw [List.length_cons]; omega
      | succ f =>
        have := digs_ne f (n / 10) (UInt8.ofNat (48 + n % 10) :: acc)
        rw [List.length_cons] at this
        omega
theorem digs_all : ∀ (f n : Nat) (acc : List UInt8), ∀ b ∈ digs f n acc, b ∈ acc ∨ 48 ≤ b.toNat
  | 0, _, _, b, h => .inl h
  | f + 1, n, acc, b, h => by
    have hd : ∀ d, d < 10 → 48 ≤ (UInt8.ofNat (48 + d)).toNat := fun d hd => by
      rw [UInt8.toNat_ofNat', Nat.mod_eq_of_lt (by omega)]; omega
    by_cases hn : n < 10
    · rw [digs_lt hn] at h
      rcases List.mem_cons.1 h with e | h
      · subst e; exact .inr (hd n hn)
      · exact .inl h
    · rw [digs_ge (by omega)] at h
      rcases digs_all f (n / 10) _ b h with h | h
      · rcases List.mem_cons.1 h with e | h
        · subst e; exact .inr (hd _ (Nat.mod_lt _ (by omega)))
        · exact .inl h
      · exact .inr h
theorem itoa_nat (n : Nat) : itoaL (n : Int) = digs 20 n [] := rfl
theorem itoa_count {c : UInt8} (hc : c.toNat < 48) (n : Nat) : (itoaL (n : Int)).count c = 0 := by
  rw [itoa_nat, List.count_eq_zero]
  intro h
  rcases digs_all _ _ _ _ h with h | h
  · cases h
  · omega
theorem pow20 {n k : Nat} (h : n < 10 ^ (k + 1)) (hk : k + 1 ≤ 20) : n < 10 ^ 20 := Nat.lt_of_lt_of_le h (Nat.pow_le_pow_right (by omega) hk)
theorem numL_itoa {n k : Nat} {dg : Int} (h : n < 10 ^ (k + 1)) (hk : k + 1 ≤ 20) (hd : ((k + 1 : Nat) : Int) ≤ dg) : numL (itoaL (n : Int)) dg = ((n : Int), false) := by
  have h20 := pow20 h hk
  have hlen := digs_le k 20 n [] h
  have hpos : 0 < (digs 20 n []).length := digs_ne 19 n []
  simp only [List.length_nil] at hlen
  have hz : num0 (itoaL (n : Int)) dg = false := by
    unfold num0
    rw [itoa_nat, decide_eq_false (show ¬ (digs 20 n []).length = 0 by omega), decide_eq_false (show ¬ (((digs 20 n []).length : Int) > dg) by omega)]
    by_cases h0 : n = 0
    · subst h0; rfl
    · obtain ⟨b, t, e, hb⟩ := digs_head 20 n [] (by omega) h20
      rw [e]
      show (false || (false || (_ && (some b == some 48)))) = false
      rw [show (some b == some (48 : UInt8)) = (b == 48) from rfl, hb, Bool.and_false]
      rfl
  unfold numL
  rw [hz, itoa_nat]
  show scan (digs 20 n []) 0 = _
  rw [scan_digs 20 n [] h20]
  rfl


theorem scan_app : ∀ (l m : List UInt8) (n : Int), (scan l n).2 = false → scan (l ++ m) n = scan m (scan l n).1
  | [], m, n, _ => rfl
  | b :: l, m, n, h => by
    rw [List.cons_append]
    rw [scan_c2] at h ⊢
    cases hb : (decide (((b.toNat : Nat) : Int) < 48) || decide (((b.toNat : Nat) : Int) > 57)) with
    | true => rw [hb] at h; cases h
    | false =>
      rw [hb] at h
      rw [scan_c2, hb]
      exact scan_app l m _ h
theorem scan_bad : ∀ (l m : List UInt8) (n : Int), (scan l n).2 = true → (scan (l ++ m) n).2 = true
  | [], m, n, h => by cases h
  | b :: l, m, n, h => by
    rw [List.cons_append]
    rw [scan_c2] at h ⊢
    cases hb : (decide (((b.toNat : Nat) : Int) < 48) || decide (((b.toNat : Nat) : Int) > 57)) with
    | true => rfl
    | false =>
      rw [hb] at h
      exact scan_bad l m _ h
theorem scan_mono : ∀ (l : List UInt8) (n : Int), 0 ≤ n → (scan l n).2 = false → n ≤ (scan l n).1
  | [], n, _, _ => Int.le_refl n
  | b :: l, n, h0, h => by
    rw [scan_c2] at h ⊢
    cases hb : (decide (((b.toNat : Nat) : Int) < 48) || decide (((b.toNat : Nat) : Int) > 57)) with
    | true => rw [hb] at h; cases h
    | false =>
      rw [hb] at h
      rw [Bool.or_eq_false_iff, decide_eq_false_iff_not, decide_eq_false_iff_not] at hb
      have := scan_mono l (10 * n + (b.toNat - 48)) (by omega) h
      show n ≤ (scan l (10 * n + (b.toNat - 48))).1
      omega
theorem scan_one {b : UInt8} {n v : Int} (h : scan [b] n = (v, false)) : ∃ d : Nat, d < 10 ∧ b = UInt8.ofNat (48 + d) ∧ v = 10 * n + d := by
  rw [scan_c2] at h
  cases hb : (decide (((b.toNat : Nat) : Int) < 48) || decide (((b.toNat : Nat) : Int) > 57)) with
  | true => rw [hb] at h; cases h
  | false =>
    rw [hb] at h
    rw [Bool.or_eq_false_iff, decide_eq_false_iff_not, decide_eq_false_iff_not] at hb
    have hv : 10 * n + ((b.toNat : Int) - 48) = v := (Prod.mk.inj h).1
    refine ⟨b.toNat - 48, by omega, ?_, by omega⟩
    rw [show 48 + (b.toNat - 48) = b.toNat by omega, UInt8.ofNat_toNat]
theorem scan_canon : ∀ (k : Nat) (l : List UInt8), l.length = k → ∀ (f : Nat) (acc : List UInt8) (v : Int), l ≠ [] → l.length ≤ f → scan l 0 = (v, false) → (1 < l.length → (l.head? == some 48) = false) → digs f v.toNat acc = l ++ acc
  | 0, l, hk, f, acc, v, hn, _, _, _ => absurd (List.length_eq_zero_iff.1 hk) hn
  | k + 1, l, hk, f, acc, v, hn, hf, hs, hh => by
    obtain ⟨f, rfl⟩ : ∃ f', f = f' + 1 := ⟨f - 1, by omega⟩
    have hl : l = l.dropLast ++ [l.getLast hn] := (List.dropLast_concat_getLast hn).symm
    generalize l.dropLast = l' at hl
    generalize l.getLast hn = b at hl
    subst hl
    rw [List.length_append, List.length_singleton] at hk hf hh
    have h2 : (scan l' 0).2 = false := by
      cases hb : (scan l' 0).2 with
      | false => rfl
      | true =>
        have := scan_bad l' [b] 0 hb
        rw [hs] at this
        cases this
    rw [scan_app _ _ _ h2] at hs
    obtain ⟨d, hd, hbd, hv⟩ := scan_one hs
    cases l' with
    | nil =>
      have hv : v = 10 * 0 + (d : Int) := hv
      rw [show v.toNat = d by omega, digs_lt hd, hbd]
      rfl
    | cons c t =>
      have hc := hh (by rw [List.length_cons]; omega)
      have hpos : 1 ≤ (scan (c :: t) 0).1 := by
        have h3 := h2
        rw [scan_c2] at h3 ⊢
        cases hb : (decide (((c.toNat : Nat) : Int) < 48) || decide (((c.toNat : Nat) : Int) > 57)) with
        | true => rw [hb] at h3; cases h3
        | false =>
          rw [hb] at h3
          rw [Bool.or_eq_false_iff, decide_eq_false_iff_not, decide_eq_false_iff_not] at hb
          have hcn : (c == 48) = false := hc
          rw [beq_eq_false_iff_ne] at hcn
          have : c.toNat ≠ 48 := fun e => hcn (UInt8.toNat_inj.1 e)
          have := scan_mono t (10 * 0 + ((c.toNat : Int) - 48)) (by omega) h3
          show 1 ≤ (scan t (10 * 0 + ((c.toNat : Int) - 48))).1
          omega
      rw [digs_ge (by omega), show v.toNat / 10 = (scan (c :: t) 0).1.toNat by omega, show v.toNat % 10 = d by omega, ← hbd,
        scan_canon k (c :: t) (by omega) f (b :: acc) (scan (c :: t) 0).1 (by simp) (by omega) (Prod.ext rfl h2) (fun _ => hc)]
      simp
theorem itoa_numL {l : List UInt8} {dg v : Int} (hd : dg ≤ 15) (h : numL l dg = (v, false)) : 0 ≤ v ∧ l = itoaL v := by
  unfold numL at h
  cases hz : num0 l dg with
  | true => rw [hz] at h; cases h
  | false =>
    rw [hz] at h
    have h : scan l 0 = (v, false) := h
    unfold num0 at hz
    simp only [Bool.or_eq_false_iff, decide_eq_false_iff_not] at hz
    obtain ⟨h1, h2, h3⟩ := hz
    have h0 : 0 ≤ v := by
      have := scan_mono l 0 (Int.le_refl _) (by rw [h])
      rw [h] at this
      exact this
    refine ⟨h0, ?_⟩
    have hc := scan_canon l.length l rfl 20 [] v (fun e => h1 (by rw [e]; rfl)) (by omega) h (fun hl => by
      rw [decide_eq_true hl] at h3
      simpa using h3)
    rw [List.append_nil] at hc
    obtain ⟨n, rfl⟩ := Int.eq_ofNat_of_zero_le h0
    rw [itoa_nat]
    exact hc.symm


def joinC (c : UInt8) : List (List UInt8) → List UInt8
  | [] => []
  | [x] => x
  | x :: y :: r => x ++ c :: joinC c (y :: r)
theorem spl_ne (c : UInt8) : ∀ l : List UInt8, spl c l ≠ []
  | l => fun e => by
    have := spl_len c l
    rw [e] at this
    simp at this
theorem join_spl (c : UInt8) : ∀ l : List UInt8, joinC c (spl c l) = l
  | [] => rfl
  | b :: l => by
    have ih := join_spl c l
    cases hx : spl c l with
    | nil => exact absurd hx (spl_ne c l)
    | cons x xs =>
      rw [hx] at ih
      cases hb : (b == c) with
      | true =>
        rw [spl_t hb, hx]
        show [] ++ c :: joinC c (x :: xs) = _
        rw [ih, eq_of_beq hb]
        rfl
      | false =>
        rw [spl_f hb, hx]
        cases xs with
        | nil =>
          show b :: x = b :: l
          exact congrArg _ ih
        | cons y r =>
          show (b :: x) ++ c :: joinC c (y :: r) = b :: l
          exact congrArg (b :: ·) ih
end Go.Proofs.YtifnpljmjhnbaaaGreatDoor
