/-
  A part of the proof of the statement that the claim names: see the last file.
-/
import Derived.Test.YtifnpljmjhnbaaaGreatDoorK2
import Derived.Test.YtifnpljmjhnbaaaGreatDoorR2
namespace Go.Proofs.YtifnpljmjhnbaaaGreatDoor
open Go Go.Am Go.RowKit
set_option maxRecDepth 100000


theorem chk_ofP {r : TLq} (h1 : r.length ≤ 1024) (h2 : 0 < r.length) (h3 : ∀ x ∈ r, vld x) : chkR r = 0 := by
  have e1 : emE r = 0 := by
    unfold emE
    rw [show ((r.length : Int) == 0) = false by rw [beq_eq_false_iff_ne]; omega]
    rfl
  have e2 : maE r = 0 := by
    unfold maE
    rw [decide_eq_false (show ¬ ((r.length : Int) > 1024) by omega)]
    rfl
  have e3 : rgE r (-1) maxE = 0 := by
    unfold rgE
    have : ∀ l : TLq, (∀ x ∈ l, vld x) → firstZ ((l.map (wiE (-1) maxE)).map i1) = 0 := by
      intro l
      induction l with
      | nil => intro _; rfl
      | cons x l ih =>
        intro h
        obtain ⟨a, b⟩ := h x (List.mem_cons_self ..)
        have hx : i1 (wiE (-1) maxE x) = 0 := by
          show withinZ (i1 x) (-1) maxE = 0
          unfold withinZ whenZ
          rw [decide_eq_false (show ¬ (i1 x < -1) by omega), decide_eq_false (show ¬ (i1 x > maxE) by omega)]
          rfl
        rw [List.map_cons, List.map_cons, hx]
        show (bif (0 : Int) != 0 then 0 else firstZ ((l.map (wiE (-1) maxE)).map i1)) = 0
        exact ih (fun y hy => h y (List.mem_cons_of_mem _ hy))
    exact this r h3
  unfold chkR
  rw [e1, e2, e3]
  rfl
theorem vld_of {r : TLq} (h : chkR r = 0) : ∀ x ∈ r, vld x := (chk_okP h).2.2
theorem linesL_len : ∀ {r : TLq}, (∀ x ∈ r, vld x) → (linesL r).length ≤ 28 * r.length
  | [], _ => Nat.le_refl _
  | x :: r, h => by
    have h1 := lineB_size (x := x) (h x (List.mem_cons_self ..)).1
    rw [← bl_len, bl_lineB, List.length_append, List.length_singleton] at h1
    have h2 := linesL_len (r := r) (fun y hy => h y (List.mem_cons_of_mem _ hy))
    rw [linesL_cons, List.length_append, List.length_cons, List.length_cons]
    omega
theorem outB_size {r : TLq} (h : ∀ x ∈ r, vld x) : (outB r).size ≤ 28 + 28 * r.length := by
  have h1 := linesL_len h
  have h2 := hd79_size r
  rw [← bl_len, bl_hd79, List.length_append, List.length_singleton] at h2
  rw [← bl_len, bl_outB, List.length_append, List.length_cons]
  omega
theorem prP_ok {r : TLq} (h : chkR r = 0) (hl : r.length ≤ 100) : prP r = (outB r, 0) := by
  have hs := outB_size (vld_of h)
  unfold prP prO
  rw [h, decide_eq_false (show ¬ ((((outB r).size : Nat) : Int) > 4096) by omega)]
  rfl
theorem e80_ok {s : ByteArray} (h1 : s.size ≤ 4096) (h2 : bl s ≠ []) : e80 s = 0 := by
  unfold e80
  rw [decide_eq_false (show ¬ (((s.size : Nat) : Int) > 4096) by omega), str_eq, show (bl s == bl mtL) = false by
    rw [beq_eq_false_iff_ne]
    exact h2]
  rfl
theorem parP_go {s : ByteArray} (h1 : s.size ≤ 4096) (h2 : bl s ≠ []) : parP s = fz80 (goP (spl 10 (bl s)) ⟨[], 0, 0⟩) := by
  unfold parP
  rw [e80_ok h1 h2]
  rfl
theorem hdL_ne (n : Int) (m : List UInt8) : hdL n ++ m ≠ [] := by
  intro h
  have := congrArg List.length h
  unfold hdL at this
  simp at this
theorem spl_out (n : Nat) (r : TLq) (h : ∀ x ∈ r, vld x) (tl : List UInt8) : spl 10 (hdL n ++ 10 :: (linesL r ++ tl)) = hdL n :: (r.map lnR ++ spl 10 tl) := by
  rw [spl_app (hdL_nl n), spl_lines r tl h]
theorem size_le {s : ByteArray} {r : TLq} {m : List UInt8} (hr : chkR r = 0) (hl : r.length ≤ 40) (hs : bl s ++ m = bl (outB r)) : s.size ≤ 4096 := by
  have h := outB_size (vld_of hr)
  have := congrArg List.length hs
  rw [List.length_append, bl_len, bl_len] at this
  omega
theorem par_print {r : TLq} (hr : chkR r = 0) (hl : r.length ≤ 40) : parP (outB r) = (r, 0, 0) := by
  have hv := vld_of hr
  rw [parP_go (size_le (m := []) hr hl (List.append_nil _)) (by rw [bl_outB]; exact hdL_ne _ _), bl_outB]
  have e := spl_out r.length r hv []
  rw [List.append_nil] at e
  rw [e, go_all r.length (by omega) r _ (spl_ne _ _) hv]
  show fz80 (.good ⟨r, 1 + r.length, r.length⟩) = _
  unfold fz80 e80b
  simp only
  rw [hr, show ((r.length : Int) != (r.length : Int)) = false by simp]
  rfl
theorem lines_of {r : TLq} (hr : chkR r = 0) : spl 10 (bl (outB r)) = hdL r.length :: (r.map lnR ++ [[]]) := by
  rw [bl_outB]
  have e := spl_out r.length r (vld_of hr) []
  rw [List.append_nil] at e
  exact e
theorem par_last {r : TLq} {y : Tup intK} {t : ByteArray} (hr : chkR (r ++ [y]) = 0) (hl : (r ++ [y]).length ≤ 40) (ht : bl t = hdL (r ++ [y]).length ++ 10 :: (linesL r ++ lnR y)) :
    parP t = ([], ((r ++ [y]).length : Int), 25) := by
  have hv := vld_of hr
  have hy : vld y := hv y (by simp)
  have ho : bl t ++ [10] = bl (outB (r ++ [y])) := by
    rw [ht, bl_outB, linesL_app, linesL_cons]
    simp [linesL]
  rw [parP_go (size_le hr hl ho) (by rw [ht]; exact hdL_ne _ _), ht, spl_out _ r (fun x hx => hv x (by simp [hx])), spl_none (lnL_nl hy), go_all _ (by omega) r [lnR y] (by simp) (fun x hx => hv x (by simp [hx]))]
  obtain ⟨b, m, hb⟩ : ∃ b m, lnR y = b :: m := by
    cases h : lnR y with
    | nil => exact absurd h (lnL_ne y)
    | cons b m => exact ⟨b, m, rfl⟩
  rw [hb]
  show (([], 1 + (r.length : Int), 25) : P3) = _
  rw [List.length_append, List.length_singleton, show (1 + (r.length : Int)) = ((r.length + 1 : Nat) : Int) by omega]
theorem par_line {r : TLq} {y : Tup intK} {t : ByteArray} (hr : chkR (r ++ [y]) = 0) (hl : (r ++ [y]).length ≤ 40) (ht : bl t = hdL (r ++ [y]).length ++ 10 :: linesL r) :
    parP t = ([], ((r ++ [y]).length : Int), 2) := by
  have hv := vld_of hr
  have ho : bl t ++ (lnR y ++ [10]) = bl (outB (r ++ [y])) := by
    rw [ht, bl_outB, linesL_app, linesL_cons]
    simp [linesL]
  have e := spl_out (r ++ [y]).length r (fun x hx => hv x (by simp [hx])) []
  rw [List.append_nil] at e
  rw [parP_go (size_le hr hl ho) (by rw [ht]; exact hdL_ne _ _), ht, e, go_all _ (by omega) r _ (spl_ne _ _) (fun x hx => hv x (by simp [hx]))]
  show fz80 (.good ⟨r, 1 + r.length, ((r ++ [y]).length : Nat)⟩) = _
  unfold fz80 e80b
  simp only
  rw [List.length_append, List.length_singleton, show ((r.length : Int) != ((r.length + 1 : Nat) : Int)) = true by simp; omega, show (1 + (r.length : Int)) = ((r.length + 1 : Nat) : Int) by omega]
  rfl
theorem print_par {s : ByteArray} (hs : s.size ≤ 300) (h : (parP s).2.2 = 0) : prP (parP s).1 = (s, 0) := by
  unfold parP at h ⊢
  cases hc : (e80 s != 0) with
  | true =>
    rw [hc] at h
    have h : e80 s = 0 := h
    rw [h] at hc
    cases hc
  | false =>
    rw [hc] at h
    simp only [cond_false] at h ⊢
    have hne : bl s ≠ [] := by
      intro e
      have : s = mtL := bl_inj e
      have h25 : e80 mtL = 25 := by unfold e80; rw [str_eq]; rfl
      rw [this, h25] at hc
      exact absurd hc (by decide)
    cases hg : goP (spl 10 (bl s)) ⟨[], 0, 0⟩ with
    | bad i => rw [hg] at h; cases h
    | good q =>
      rw [hg] at h
      unfold fz80 at h ⊢
      simp only at h ⊢
      cases he : (e80b q != 0) with
      | true =>
        rw [he] at h
        have h : e80b q = 0 := h
        rw [h] at he
        cases he
      | false =>
        have he : e80b q = 0 := by simpa using he
        unfold e80b firstZ at he
        obtain ⟨h1, he⟩ := first_zero he
        unfold firstZ at he
        obtain ⟨h2, _⟩ := first_zero he
        have hk : (q.o.length : Int) = q.k := by
          cases hb : ((q.o.length : Int) != q.k) with
          | true => rw [hb] at h1; cases h1
          | false => simpa using hb
        have hb := go_back hg hk hne
        show prP q.o = (s, 0)
        unfold prP prO
        rw [h2, ← hb, decide_eq_false (show ¬ (((s.size : Nat) : Int) > 4096) by omega)]
        rfl


theorem wrap_spec (z : Int) : ∃ k : Int, IntKind.i64.wrap z = z + 18446744073709551616 * k ∧ -9223372036854775808 ≤ IntKind.i64.wrap z ∧ IntKind.i64.wrap z < 9223372036854775808 := by
  have b : IntKind.i64.bits = 64 := rfl
  have s : IntKind.i64.signed = true := rfl
  simp only [IntKind.wrap, b, s]
  have p63 : (2 : Int) ^ (64 - 1) = 9223372036854775808 := rfl
  have p64 : (2 : Int) ^ 64 = 18446744073709551616 := rfl
  rw [p63, p64]
  by_cases h : (9223372036854775808 : Int) ≤ z % 18446744073709551616
  · rw [decide_eq_true (show z % 18446744073709551616 ≥ 9223372036854775808 from h), if_pos (by decide)]
    exact ⟨-(z / 18446744073709551616) - 1, by omega, by omega, by omega⟩
  · rw [decide_eq_false (show ¬ (z % 18446744073709551616 ≥ 9223372036854775808) from h), if_neg (by decide)]
    exact ⟨-(z / 18446744073709551616), by omega, by omega, by omega⟩
theorem addS_comm (a : Int × Int) (x y : Tup intK) : addS (addS a x) y = addS (addS a y) x := by
  have h1 : IntKind.i64.wrap (IntKind.i64.wrap (a.1 + i1 x) + i1 y) = IntKind.i64.wrap (IntKind.i64.wrap (a.1 + i1 y) + i1 x) := by
    have e : ∀ z w : Int, IntKind.i64.wrap (IntKind.i64.wrap z + w) = IntKind.i64.wrap (z + w) := fun z w => by
      obtain ⟨k1, a1, b1, c1⟩ := wrap_spec z
      obtain ⟨k2, a2, b2, c2⟩ := wrap_spec (IntKind.i64.wrap z + w)
      obtain ⟨k3, a3, b3, c3⟩ := wrap_spec (z + w)
      omega
    rw [e, e, Int.add_right_comm]
  have h2 : mx (mx a.2 (i1 x)) (i1 y) = mx (mx a.2 (i1 y)) (i1 x) := by
    have e : ∀ p q : Int, mx p q = max p q := fun p q => by unfold mx; rw [Int.max_def]; split <;> split <;> omega
    rw [e, e, e, e]
    omega
  exact Prod.ext h1 h2
theorem foldl_rev (l : TLq) (a : Int × Int) : l.reverse.foldl addS a = l.foldl addS a := by
  induction l generalizing a with
  | nil => rfl
  | cons x l ih =>
    rw [List.reverse_cons, List.foldl_append, ih]
    show addS (l.foldl addS a) x = l.foldl addS (addS a x)
    clear ih
    induction l generalizing a with
    | nil => rfl
    | cons y l ih2 =>
      rw [List.foldl_cons, List.foldl_cons, ih2, addS_comm]
theorem tot_rev {r : TLq} (hr : chkR r = 0) : tot28 r.reverse = tot28 r := by
  obtain ⟨h1, h2, h3⟩ := chk_okP hr
  have hrr : chkR r.reverse = 0 := chk_ofP (by simpa using h1) (by simpa using h2) (fun x hx => h3 x (by simpa using hx))
  have hk : keepM r.reverse = (keepM r).reverse := by unfold keepM; rw [List.filter_reverse]
  have hs : sumK r.reverse = sumK r := by unfold sumK; rw [hk, foldl_rev]
  unfold tot28
  rw [hr, hrr, hs, hk, List.length_reverse, List.length_reverse]
end Go.Proofs.YtifnpljmjhnbaaaGreatDoor
