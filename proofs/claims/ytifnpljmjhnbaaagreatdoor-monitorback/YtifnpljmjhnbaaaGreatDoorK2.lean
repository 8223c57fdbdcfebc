/-
  A part of the proof of the statement that the claim names: see the last file.
-/
import Derived.Test.YtifnpljmjhnbaaaGreatDoorK1
import Derived.Test.YtifnpljmjhnbaaaGreatDoorL6
import Derived.Test.YtifnpljmjhnbaaaGreatDoorL4
namespace Go.Proofs.YtifnpljmjhnbaaaGreatDoor
open Go Go.Am Go.RowKit
set_option maxRecDepth 100000


def hdL (n : Int) : List UInt8 := bl recB ++ 32 :: itoaL n
def lnR (x : Tup intK) : List UInt8 := bif i1 x == -1 then bl misBy else bl secB ++ 32 :: itoaL (i1 x)
def linesL (r : TLq) : List UInt8 := r.flatMap fun x => lnR x ++ [10]
theorem linesL_cons (x : Tup intK) (r : TLq) : linesL (x :: r) = lnR x ++ 10 :: linesL r := by simp [linesL]
theorem linesL_app (a b : TLq) : linesL (a ++ b) = linesL a ++ linesL b := by simp [linesL]
theorem bl_itoB (n : Int) : bl (itoB n) = itoaL n := bl_mkB _
theorem bl_lineB (x : Tup intK) : bl (lineB x) = lnR x ++ [10] := by
  unfold lineB lnR
  cases (i1 x == -1) with
  | true => rfl
  | false =>
    simp only [cond_false]
    rw [bl_append, bl_append, bl_itoB, show bl secS = bl secB ++ [32] from rfl, show bl nlB = [10] from rfl]
    simp
theorem bl_hd79 (l : TLq) : bl (hd79 l) = hdL l.length ++ [10] := by
  unfold hd79 hdL
  rw [bl_append, bl_append, bl_itoB, show bl recS = bl recB ++ [32] from rfl, show bl nlB = [10] from rfl]
  simp
theorem bl_fold : ∀ (l : TLq) (s : ByteArray), bl (l.foldl (fun s x => s ++ lineB x) s) = bl s ++ linesL l
  | [], s => by simp [linesL]
  | x :: l, s => by
    rw [List.foldl_cons, bl_fold l, bl_append, bl_lineB, linesL_cons]
    simp
theorem bl_outB (l : TLq) : bl (outB l) = hdL l.length ++ 10 :: linesL l := by
  unfold outB
  rw [bl_fold, bl_hd79]
  simp

def vld (x : Tup intK) : Prop := -1 ≤ i1 x ∧ i1 x ≤ maxE
theorem nat_of {n : Int} (h : 0 ≤ n) : ∃ m : Nat, n = (m : Int) := ⟨n.toNat, by omega⟩
theorem lnL_mis {x : Tup intK} (h : i1 x = -1) : lnR x = bl misBy := by unfold lnR; rw [h]; rfl
theorem lnL_num {x : Tup intK} (h : i1 x ≠ -1) : lnR x = bl secB ++ 32 :: itoaL (i1 x) := by
  unfold lnR
  rw [beq_eq_false_iff_ne.2 h]
  rfl
theorem lnL_nl {x : Tup intK} (h : vld x) : (lnR x).count 10 = 0 := by
  by_cases hx : i1 x = -1
  · rw [lnL_mis hx]; rfl
  · have h1 := h.1
    obtain ⟨m, hm⟩ := nat_of (n := i1 x) (by omega)
    rw [lnL_num hx, hm, List.count_append, List.count_cons, itoa_count (by decide)]
    rfl
theorem hdL_nl (n : Nat) : (hdL n).count 10 = 0 := by
  unfold hdL
  rw [List.count_append, List.count_cons, itoa_count (by decide)]
  rfl
theorem lnL_ne (x : Tup intK) : lnR x ≠ [] := by
  unfold lnR
  cases (i1 x == -1) with
  | true => intro h; cases h
  | false => intro h; simp at h
theorem spl_hd (n : Nat) : spl 32 (hdL n) = [bl recB, itoaL n] := by
  unfold hdL
  rw [spl_app (by rfl), spl_none (itoa_count (by decide) n)]
theorem spl_mis {x : Tup intK} (h : i1 x = -1) : spl 32 (lnR x) = [bl misBy] := by
  rw [lnL_mis h, spl_none (by rfl)]
theorem spl_num {x : Tup intK} (h : 0 ≤ i1 x) : spl 32 (lnR x) = [bl secB, itoaL (i1 x)] := by
  obtain ⟨m, hm⟩ := nat_of h
  rw [lnL_num (by omega), hm, spl_app (by rfl), spl_none (itoa_count (by decide) m)]
theorem spl_lines : ∀ (r : TLq) (tl : List UInt8), (∀ x ∈ r, vld x) → spl 10 (linesL r ++ tl) = r.map lnR ++ spl 10 tl
  | [], tl, _ => by simp [linesL]
  | x :: r, tl, h => by
    rw [linesL_cons, List.append_assoc, List.cons_append, spl_app (lnL_nl (h x (List.mem_cons_self ..))), spl_lines r tl (fun y hy => h y (List.mem_cons_of_mem _ hy))]
    rfl


theorem misW_one (a : List UInt8) (r : SLs) : misW (tupS a :: r) = (a == bl misBy) := by
  show ((mkB a).toList == misBy.toList) = _
  rw [str_eq, bl_mkB]
theorem wrB_two (a b : List UInt8) (word : ByteArray) (dg : Int) : wrB [tupS a, tupS b] word dg = ((numL b dg).2 || !(a == bl word)) := by
  show ((numL (bl (mkB b)) dg).2 || ((mkB a).toList != word.toList)) = _
  rw [bl_mkB]
  unfold bne
  rw [str_eq, bl_mkB]
theorem valW_two (a b : List UInt8) (dg : Int) : valW [tupS a, tupS b] dg = (numL b dg).1 := by
  show (numL (bl (mkB b)) dg).1 = _
  rw [bl_mkB]
theorem goP_cons {l : List UInt8} {ls : List (List UInt8)} (h : ls ≠ []) (p : Pz) : goP (l :: ls) p = bif lineOk p true (splW l) then goP ls (nxP p l) else .bad p.n := by
  cases ls with
  | nil => exact absurd rfl h
  | cons m ls => rfl
theorem go_line {x : Tup intK} (h : vld x) {p : Pz} (hp : 1 ≤ p.n) : lineOk p true (splW (lnR x)) = true ∧ nxP p (lnR x) = ⟨p.o ++ [x], p.n + 1, p.k⟩ := by
  have h0 : (p.n == 0) = false := by rw [beq_eq_false_iff_ne]; omega
  obtain ⟨v, rfl⟩ : ∃ v : Int, x = t1 v := ⟨x.1, rfl⟩
  by_cases hx : v = -1
  · subst hx
    have e : splW (lnR (t1 (-1))) = [tupS (bl misBy)] := by unfold splW; rw [spl_mis rfl]; rfl
    unfold nxP lineOk lineE
    rw [e, h0, misW_one]
    exact ⟨rfl, rfl⟩
  · have h1 : -1 ≤ v := h.1
    have h2 : v ≤ maxE := h.2
    have hv : 0 ≤ v := by omega
    have e : splW (lnR (t1 v)) = [tupS (bl secB), tupS (itoaL v)] := by unfold splW; rw [spl_num (x := t1 v) hv]; rfl
    obtain ⟨m, rfl⟩ := nat_of hv
    have hn : numL (itoaL (m : Int)) 15 = ((m : Int), false) := numL_itoa (k := 13) (by have : (m : Int) ≤ 10000000000000 := h2; omega) (by omega) (by omega)
    unfold nxP lineOk lineE
    rw [e, h0, misW_one, wrB_two _ _ secB, valW_two _ _ 15, hn]
    exact ⟨rfl, rfl⟩
theorem go_head (n : Nat) (hn : n ≤ 1024) : lineOk ⟨[], 0, 0⟩ true (splW (hdL n)) = true ∧ nxP ⟨[], 0, 0⟩ (hdL n) = ⟨[], 1, n⟩ := by
  have e : splW (hdL n) = [tupS (bl recB), tupS (itoaL n)] := by unfold splW; rw [spl_hd]; rfl
  have hm : numL (itoaL (n : Int)) 9 = ((n : Int), false) := numL_itoa (k := 3) (by omega) (by omega) (by omega)
  unfold nxP lineOk lineE
  rw [e, wrB_two, valW_two, hm]
  exact ⟨rfl, rfl⟩
theorem go_lines : ∀ (xs : TLq) (p : Pz) (tl : List (List UInt8)), tl ≠ [] → 1 ≤ p.n → (∀ x ∈ xs, vld x) → goP (xs.map lnR ++ tl) p = goP tl ⟨p.o ++ xs, p.n + xs.length, p.k⟩
  | [], p, tl, _, _, _ => by simp
  | x :: xs, p, tl, ht, hp, hv => by
    obtain ⟨h1, h2⟩ := go_line (hv x (List.mem_cons_self ..)) hp
    rw [List.map_cons, List.cons_append, goP_cons (by simp [ht]), h1, h2]
    show goP (xs.map lnR ++ tl) _ = _
    rw [go_lines xs _ tl ht (by show 1 ≤ p.n + 1; omega) (fun y hy => hv y (List.mem_cons_of_mem _ hy))]
    simp only [List.append_assoc, List.singleton_append, List.length_cons]
    rw [show p.n + 1 + (xs.length : Int) = p.n + ((xs.length + 1 : Nat) : Int) by omega]
theorem go_all (n : Nat) (hn : n ≤ 1024) (xs : TLq) (tl : List (List UInt8)) (ht : tl ≠ []) (hv : ∀ x ∈ xs, vld x) : goP (hdL n :: (xs.map lnR ++ tl)) ⟨[], 0, 0⟩ = goP tl ⟨xs, 1 + xs.length, n⟩ := by
  obtain ⟨h1, h2⟩ := go_head n hn
  rw [goP_cons (by simp [ht]), h1, h2]
  show goP (xs.map lnR ++ tl) _ = _
  rw [go_lines xs _ tl ht (by show (1 : Int) ≤ 1; omega) hv]
  rfl


theorem spl_two {c : UInt8} {l : List UInt8} (h1 : (spl c l).length ≠ 1) (h2 : (spl c l).length ≤ 2) : ∃ a b, spl c l = [a, b] ∧ l = a ++ c :: b := by
  have hj := join_spl c l
  have hn := spl_ne c l
  match hs : spl c l with
  | [] => exact absurd hs hn
  | [a] => rw [hs] at h1; exact absurd rfl h1
  | [a, b] => rw [hs] at hj; exact ⟨a, b, rfl, hj.symm⟩
  | _ :: _ :: _ :: _ => rw [hs] at h2; simp at h2
theorem line_inv {p : Pz} (hp : 1 ≤ p.n) {l : List UInt8} (h : lineOk p true (splW l) = true) : ∃ x, l = lnR x ∧ nxP p l = ⟨p.o ++ [x], p.n + 1, p.k⟩ := by
  have h0 : (p.n == 0) = false := by rw [beq_eq_false_iff_ne]; omega
  have hlen : (splW l).length = (spl 32 l).length := by simp [splW]
  unfold lineOk at h
  rw [h0, Bool.true_and] at h
  simp only [cond_false] at h
  have e : nxP p l = ⟨(bif misW (splW l) then (⟨p.o ++ [t1 (-1)], p.n, p.k⟩ : Pz) else ⟨p.o ++ [t1 (valW (splW l) 15)], p.n, p.k⟩).o, p.n + 1, (bif misW (splW l) then (⟨p.o ++ [t1 (-1)], p.n, p.k⟩ : Pz) else ⟨p.o ++ [t1 (valW (splW l) 15)], p.n, p.k⟩).k⟩ := by
    unfold nxP lineE
    rw [h0]
    rfl
  rw [e]
  cases hm : misW (splW l) with
  | true =>
    rw [hm] at h
    have h := Nat.le_of_ble_eq_true h
    refine ⟨t1 (-1), ?_, rfl⟩
    have hj := join_spl 32 l
    match hs : spl 32 l with
    | [] => exact absurd hs (spl_ne _ _)
    | [a] =>
      rw [hs] at hj
      have hm2 : misW (tupS a :: []) = true := by
        have : splW l = [tupS a] := by unfold splW; rw [hs]; rfl
        rw [this] at hm
        exact hm
      rw [misW_one] at hm2
      rw [← hj, lnL_mis rfl]
      exact eq_of_beq hm2
    | _ :: _ :: _ => rw [hlen, hs] at h; simp at h
  | false =>
    rw [hm] at h
    simp only [cond_false, Bool.and_eq_true] at h
    obtain ⟨h1, h2⟩ := h
    have h2 := Nat.le_of_ble_eq_true h2
    have hne : (spl 32 l).length ≠ 1 := by
      intro e1
      have : wrB (splW l) secB 15 = true := by
        unfold wrB
        rw [hlen, e1]
        rfl
      rw [this] at h1
      cases h1
    obtain ⟨a, b, hs, hl⟩ := spl_two hne (by rw [← hlen]; exact h2)
    have hw : splW l = [tupS a, tupS b] := by unfold splW; rw [hs]; rfl
    rw [hw, wrB_two] at h1
    cases hb : (numL b 15).2 with
    | true => rw [hb] at h1; cases h1
    | false =>
      rw [hb] at h1
      have ha : (a == bl secB) = true := by simpa using h1
      obtain ⟨hv, hbb⟩ := itoa_numL (v := (numL b 15).1) (Int.le_refl 15) (Prod.ext rfl hb)
      refine ⟨t1 (numL b 15).1, ?_, ?_⟩
      · rw [lnL_num (by show (numL b 15).1 ≠ -1; omega), hl, eq_of_beq ha]
        exact congrArg (fun z => bl secB ++ 32 :: z) hbb
      · rw [hw, valW_two]
        rfl
theorem head_inv {l : List UInt8} (h : lineOk ⟨[], 0, 0⟩ true (splW l) = true) : ∃ k : Int, l = hdL k ∧ nxP ⟨[], 0, 0⟩ l = ⟨[], 1, k⟩ := by
  have hlen : (splW l).length = (spl 32 l).length := by simp [splW]
  have h : (!wrB (splW l) recB 9 && Nat.ble (splW l).length 2) = true := h
  have e : nxP ⟨[], 0, 0⟩ l = ⟨[], 1, valW (splW l) 9⟩ := rfl
  rw [e]
  simp only [Bool.and_eq_true] at h
  obtain ⟨h1, h2⟩ := h
  have h2 := Nat.le_of_ble_eq_true h2
  have hne : (spl 32 l).length ≠ 1 := by
    intro e1
    have : wrB (splW l) recB 9 = true := by
      unfold wrB
      rw [hlen, e1]
      rfl
    rw [this] at h1
    cases h1
  obtain ⟨a, b, hs, hl⟩ := spl_two hne (by rw [← hlen]; exact h2)
  have hw : splW l = [tupS a, tupS b] := by unfold splW; rw [hs]; rfl
  rw [hw, wrB_two] at h1
  cases hb : (numL b 9).2 with
  | true => rw [hb] at h1; cases h1
  | false =>
    rw [hb] at h1
    have ha : (a == bl recB) = true := by simpa using h1
    obtain ⟨hv, hbb⟩ := itoa_numL (v := (numL b 9).1) (by omega) (Prod.ext rfl hb)
    refine ⟨(numL b 9).1, ?_, by rw [hw, valW_two]⟩
    rw [hl, eq_of_beq ha]
    exact congrArg (fun z => bl recB ++ 32 :: z) hbb
theorem go_inv : ∀ (ls : List (List UInt8)) (p q : Pz), ls ≠ [] → 1 ≤ p.n → goP ls p = .good q → ∃ xs, ls = xs.map lnR ++ [[]] ∧ q = ⟨p.o ++ xs, p.n + xs.length, p.k⟩
  | [], _, _, h, _, _ => absurd rfl h
  | [l], p, q, _, _, h => by
    cases l with
    | nil =>
      cases h
      exact ⟨[], rfl, by simp⟩
    | cons => cases h
  | l :: m :: ls, p, q, _, hp, h => by
    rw [goP_cons (by simp)] at h
    cases hk : lineOk p true (splW l) with
    | false => rw [hk] at h; cases h
    | true =>
      rw [hk] at h
      obtain ⟨x, hx, hn⟩ := line_inv hp hk
      rw [hn] at h
      obtain ⟨xs, h1, h2⟩ := go_inv (m :: ls) ⟨p.o ++ [x], p.n + 1, p.k⟩ q (by simp) (by show 1 ≤ p.n + 1; omega) h
      refine ⟨x :: xs, by rw [h1, hx]; rfl, ?_⟩
      rw [h2]
      simp only [List.append_assoc, List.singleton_append, List.length_cons]
      rw [show p.n + 1 + (xs.length : Int) = p.n + ((xs.length + 1 : Nat) : Int) by omega]
theorem joinC_cons {c : UInt8} {l : List UInt8} {ls : List (List UInt8)} (h : ls ≠ []) : joinC c (l :: ls) = l ++ c :: joinC c ls := by
  cases ls with
  | nil => exact absurd rfl h
  | cons m ls => rfl
theorem join_lines : ∀ xs : TLq, joinC 10 (xs.map lnR ++ [[]]) = linesL xs
  | [] => rfl
  | x :: xs => by
    rw [List.map_cons, List.cons_append, joinC_cons (by simp), join_lines xs, linesL_cons]
theorem go_back {s : ByteArray} {q : Pz} (h : goP (spl 10 (bl s)) ⟨[], 0, 0⟩ = .good q) (hk : (q.o.length : Int) = q.k) (hs : bl s ≠ []) : s = outB q.o := by
  have hj := join_spl 10 (bl s)
  match hp : spl 10 (bl s) with
  | [] => exact absurd hp (spl_ne _ _)
  | [l] =>
    rw [hp] at h hj
    cases l with
    | nil => exact absurd hj.symm hs
    | cons => cases h
  | l :: m :: ls =>
    rw [hp] at h hj
    rw [goP_cons (by simp)] at h
    cases ho : lineOk ⟨[], 0, 0⟩ true (splW l) with
    | false => rw [ho] at h; cases h
    | true =>
      rw [ho] at h
      obtain ⟨k, hl, hn⟩ := head_inv ho
      rw [hn] at h
      obtain ⟨xs, h1, h2⟩ := go_inv (m :: ls) ⟨[], 1, k⟩ q (by simp) (Int.le_refl 1) h
      subst h2
      have hk : (xs.length : Int) = k := hk
      refine bl_inj ?_
      rw [← hj, joinC_cons (by simp), h1, join_lines, hl, ← hk, bl_outB]
      rfl
end Go.Proofs.YtifnpljmjhnbaaaGreatDoor
