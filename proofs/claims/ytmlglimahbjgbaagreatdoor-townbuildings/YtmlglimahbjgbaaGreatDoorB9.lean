/-
  A part of the proof of the statement that the claim names: see the last file.
-/
import Derived.Test.YtmlglimahbjgbaaGreatDoorB8
import Derived.Test.YtmlglimahbjgbaaGreatDoorAm4
namespace Go.Proofs.YtmlglimahbjgbaaGreatDoor
open Go Go.Am Go.Town
set_option maxRecDepth 100000
variable {w0 : World}
noncomputable section


theorem wlB_ok (e : Int) (x y : List (Tup wallK)) (h : e = 0 → y = x) : wlB (orW e x) e e y = true := by
  unfold wlB orW
  cases he : (e != 0) with
  | true => simp [sameWB_self]
  | false => rw [h (by simpa using he)]; simp [sameWB_self]

theorem four7_eq (near : List (Tup wallK)) (x : Tup bxK) : four7 near x = e68 near x := by
  unfold four7 e71 e71b e68 e68b
  show (bif chkAllW near != 0 then chkAllW near else firstZ [firstZ _]) = (bif chkAllW near != 0 then chkAllW near else firstZ _)
  have : ∀ a : Int, firstZ [a] = a := fun a => by
    unfold firstZ
    cases h : (a != 0) with
    | true => rfl
    | false =>
      have : a = 0 := by simpa using h
      rw [this]; rfl
  rw [this]

theorem facF_le (l : List (Tup intK)) : ∀ (k i : Nat) (a : List (Tup intK)), a.length ≤ i → ((List.range' i k).foldl (fun out j => bif decide (i1 (nth l j) < 0) then out ++ [t1 j] else out) a).length ≤ i + k
  | 0, i, a, h => h
  | k + 1, i, a, h => by
    rw [List.range'_succ, List.foldl_cons]
    have := facF_le l k (i + 1) _ (step_len (l := l) (j := i) h)
    omega
theorem facL_le (l : List (Tup intK)) : (facL l).length ≤ l.length := by
  have := facF_le l l.length 0 [] (Nat.le_refl _)
  unfold facL
  omega
theorem facF_nil (l : List (Tup intK)) : ∀ (k i : Nat) (a : List (Tup intK)), ((((List.range' i k).foldl (fun out j => bif decide (i1 (nth l j) < 0) then out ++ [t1 j] else out) a).length : Int) == 0) = ((a.length : Int) == 0 && !(List.range' i k).any fun j => decide (i1 (nth l j) < 0))
  | 0, i, a => by simp
  | k + 1, i, a => by
    rw [List.range'_succ, List.foldl_cons, List.any_cons, facF_nil l k (i + 1)]
    cases hd : decide (i1 (nth l i) < 0) with
    | false => simp
    | true =>
      have : ((((a ++ [t1 i]).length : Nat) : Int) == 0) = false := by
        rw [List.length_append, List.length_singleton, beq_eq_false_iff_ne]
        omega
      simp only [cond_true, this, Bool.false_and, Bool.true_or, Bool.not_true, Bool.and_false]
theorem facL_nil (l : List (Tup intK)) : (((facL l).length : Int) == 0) = !negL l := by
  unfold facL negL
  rw [facF_nil]
  simp

theorem okS_small {b : Bd} (h : okS b = true) : smallB b = true := by
  unfold okS at h
  unfold smallB
  simp only [Bool.and_eq_true, decide_eq_true_eq, Nat.ble_eq] at h ⊢
  omega

theorem walls_le : ∀ {bs : List Bd}, bs.all smallB = true → (wallsL bs).length ≤ 1000 * bs.length
  | [], _ => by simp [wallsL]
  | b :: bs, h => by
    rw [List.all_cons, Bool.and_eq_true] at h
    have h2 := walls_le h.2
    have h1 := h.1
    unfold smallB at h1
    simp only [Bool.and_eq_true, Nat.ble_eq] at h1
    unfold wallsL at h2 ⊢
    rw [List.map_cons, List.flatten_cons, List.length_append, edges_len, List.length_cons]
    omega

theorem orW_le {e : Int} {x : List (Tup wallK)} {n : Nat} (h : x.length ≤ n) : Nat.ble (orW e x).length n = true := by
  refine Nat.ble_eq_true_of_le ?_
  unfold orW
  cases (e != 0) with
  | true => exact Nat.zero_le _
  | false => exact h
theorem orL_le {e : Int} {x : List (Tup intK)} {n : Nat} (h : x.length ≤ n) : Nat.ble (orL e x).length n = true := by
  refine Nat.ble_eq_true_of_le ?_
  unfold orL
  cases (e != 0) with
  | true => exact Nat.zero_le _
  | false => exact h

section
variable {bs : List Bd} {b : Bd} {p : Tup ptK} {x : Tup bxK} {near : List (Tup wallK)}

theorem tail7_ok (h5 : g5 bs = true) (hb : smallB b = true) {C : List (Tup wallK)} {eC : Int} {all : List (Tup wallK)} {fac : List (Tup intK)} {has : Bool} {within : List (Tup wallK)}
    (hC : C.length ≤ 100000) (hCw : wlB C eC (four7 near x) within = true) (hall : chkBs bs = 0 → all = wallsL bs) (hfac : errBP b p = 0 → fac = facL (sidesB b p)) (hhas : has = orB (errBP b p) (!negL (sidesB b p))) :
    tail7 bs b p near x C eC all fac has within = some (Bo true) := by
  have hs5 := h5
  unfold g5 at hs5
  simp only [Bool.and_eq_true, Nat.ble_eq] at hs5
  have hw : (wallsL bs).length ≤ 100000 := by have := walls_le hs5.2; omega
  have hsb := hb
  unfold smallB at hsb
  simp only [Bool.and_eq_true, Nat.ble_eq] at hsb
  have hf : (facL (sidesB b p)).length ≤ 100000 := by
    have := facL_le (sidesB b p)
    rw [sides_len] at this
    omega
  unfold tail7
  rw [h5, orW_le hw, wlB_ok _ _ _ hall, orL_le hf, liB_ok _ _ _ hfac, ← hhas, Nat.ble_eq_true_of_le hC, hCw]
  simp [g1, an]

theorem r37_ok (h5 : g5 bs = true) (hb : smallB b = true) (hn : near.length ≤ 33) {C : List (Tup wallK)} {eC : Int} {all : List (Tup wallK)} {fac : List (Tup intK)} {has : Bool}
    (hC : C.length ≤ 100000) (hCw : ∀ wi, (e68 near x = 0 → wi = keepW x near) → wlB C eC (e68 near x) wi = true) (hall : chkBs bs = 0 → all = wallsL bs) (hfac : errBP b p = 0 → fac = facL (sidesB b p)) (hhas : has = orB (errBP b p) (!negL (sidesB b p))) :
    r37 bs b p near x C eC all fac has = some (Bo true) := by
  unfold r37
  rw [← four7_eq near x] at hCw
  cases h4 : (four7 near x == 0) with
  | true =>
    rw [tail7_ok h5 hb hC (hCw _ fun _ => rfl) hall hfac hhas, Nat.ble_eq_true_of_le (by omega)]
    rfl
  | false => exact tail7_ok h5 hb hC (hCw _ fun h => by simp [h] at h4) hall hfac hhas

theorem r27_ok (h5 : g5 bs = true) (hb : smallB b = true) (hn : near.length ≤ 33) {C : List (Tup wallK)} {eC : Int} {all : List (Tup wallK)}
    (hC : C.length ≤ 100000) (hCw : ∀ wi, (e68 near x = 0 → wi = keepW x near) → wlB C eC (e68 near x) wi = true) (hall : chkBs bs = 0 → all = wallsL bs) :
    r27 bs b p near x C eC all = some (Bo true) := by
  unfold r27
  cases he : (errBP b p == 0) with
  | true =>
    have hz : errBP b p = 0 := by simpa using he
    rw [r37_ok h5 hb hn hC hCw hall (fun _ => rfl) (by rw [facL_nil, hz]; rfl), hb]
    rfl
  | false => exact r37_ok h5 hb hn hC hCw hall (fun h => by simp [h] at he) (by
      unfold orB
      rw [show (errBP b p != 0) = true by simpa using he]
      rfl)

theorem r17_ok (h5 : g5 bs = true) (hb : smallB b = true) (hn : near.length ≤ 33) {C : List (Tup wallK)} {eC : Int}
    (hC : C.length ≤ 100000) (hCw : ∀ wi, (e68 near x = 0 → wi = keepW x near) → wlB C eC (e68 near x) wi = true) :
    r17 bs b p near x C eC = some (Bo true) := by
  unfold r17
  rw [h5, hb]
  cases he : (chkBs bs == 0) with
  | true =>
    have hz : chkBs bs = 0 := by simpa using he
    rw [g5_4 h5 hz, r27_ok h5 hb hn hC hCw fun _ => rfl]
    rfl
  | false =>
    rw [cond_false, r27_ok h5 hb hn hC hCw fun h => by simp [h] at he]
    rfl

theorem keepW_le : (keepW x near).length ≤ near.length := List.length_filter_le ..

theorem law7_ok (hl : bs.length ≤ 5) : law7D bs b p x near = some (Bo true) := by
  unfold law7D
  cases ha : bs.all okS with
  | false => rfl
  | true =>
    cases hb : okS b with
    | false => rfl
    | true =>
      cases hs : shortW near with
      | false => rfl
      | true =>
        have hn := short_len hs
        have hk : (keepW x near).length ≤ near.length := keepW_le
        have h5 : g5 bs = true := by
          unfold g5
          rw [Bool.and_eq_true]
          refine ⟨Nat.ble_eq_true_of_le hl, ?_⟩
          rw [List.all_eq_true] at ha ⊢
          exact fun c hc => okS_small (ha c hc)
        rw [h5, okS_small hb, Nat.ble_eq_true_of_le (show near.length ≤ 100000 by omega)]
        cases hm : em68 near x with
        | true =>
          unfold em68 at hm
          simp only [Bool.and_eq_true, beq_iff_eq, List.isEmpty_iff] at hm
          rw [r17_ok h5 (okS_small hb) hn (by simp) fun wi hwi => by
            rw [hm.1, hwi hm.1, hm.2.2]
            simp [wlB, sameWB_self]]
          rfl
        | false =>
          rw [r17_ok h5 (okS_small hb) hn (Nat.le_of_ble_eq_true (orW_le (by omega))) fun wi hwi => wlB_ok _ _ _ hwi]
          rfl
end


def bad62 : Ct := bC 62 fun _ => .bad
def cfg7 (w0 : World) : Cfg := ((cfg w0).onI [61]).at [⟨13, tG awakeF⟩, bad62]
theorem run7_long (n : Nat) (b : Bd) (p : Tup ptK) (x : Tup bxK) (near : List (Tup wallK)) : bodyK (cfg7 w0) 100 (fnOf Tryz.f7) [.sl n 4 [], plotD b p x, .vec wallK near] =
    bif decide ((n : Int) > 5) then some (Bo true) else bif decide (0 < (n : Int)) then bif ((true && decide (0 ≤ 0)) && decide (0 < (n : Int))) then none else none else none := by kernel_rfl
theorem bad62_gd : Gd (cfg w0) bad62 := gd_b fun _ _ hd => by cases hd

theorem law7_fn (h0 : Lib0 w0) (ha : Good w0 ⟨13, awakeF⟩) (b : Bd) (p : Tup ptK) (x : Tup bxK) (near : List (Tup wallK)) :
    (∀ bs : List Bd, bs.length ≤ 5 → bs ≠ [] → FnD (cfg w0) 7 [slD bs, plotD b p x, .vec wallK near] (Bo true)) ∧ FnD (cfg w0) 7 [nilD, plotD b p x, .vec wallK near] (Bo true) ∧ FnD (cfg w0) 7 [.emp 4, plotD b p x, .vec wallK near] (Bo true) := by
  have go : ∀ {bs : List Bd} {d : D}, bs.length ≤ 5 → bodyK ((cfg w0).at law7) 100 (fnOf Tryz.f7) [d, plotD b p x, .vec wallK near] = law7D bs b p x near → FnD (cfg w0) 7 [d, plotD b p x, .vec wallK near] (Bo true) :=
    fun hl h => fnD_k (cfg_ok w0) h0 (law7_gd h0 ha) (fd := fnOf Tryz.f7) rfl (h.trans (law7_ok hl))
  refine ⟨fun bs h5 hne => ?_, go (by simp) (run7_n b p x near), go (by simp) (run7_e b p x near)⟩
  rcases five (Nat.ble_eq_true_of_le h5) hne with ⟨a, rfl⟩ | ⟨a, c, rfl⟩ | ⟨a, c, d, rfl⟩ | ⟨a, c, d, e, rfl⟩ | ⟨a, c, d, e, f, rfl⟩
  · exact go h5 (run7_1 ..)
  · exact go h5 (run7_2 ..)
  · exact go h5 (run7_3 ..)
  · exact go h5 (run7_4 ..)
  · exact go h5 (run7_5 ..)
end
end Go.Proofs.YtmlglimahbjgbaaGreatDoor

namespace Go.Proofs.YtmlglimahbjgbaaGreatDoor
open Go Go.Am Go.Town
set_option maxRecDepth 100000
variable {w0 : World}


abbrev ssB : List Sh := [.c .str, .v ptK, .c ik, .c ik]
abbrev ssP : List Sh := [.c .str, .v ptK, .c ik, .c ik, .c ik, .c ik, .c ik, .c ik, .c ik, .c ik]
def bdOf (a : ArgT ssB) : Bd := ⟨a.1, a.2.1, a.2.2.1, a.2.2.2.1⟩
theorem flat_eq : ∀ l : List (ArgT ssB), (l.map (toShs ssB)).flatten = flatB (l.map bdOf)
  | [] => rfl
  | a :: l => by
    rw [List.map_cons, List.flatten_cons, flat_eq l]
    rfl
theorem sl_eq (l : List (ArgT ssB)) : D.sl l.length 4 (l.map (toShs ssB)).flatten = slD (l.map bdOf) := by
  unfold slD
  rw [flat_eq, List.length_map]

theorem law7_long (h0 : Lib0 w0) (ha : Good w0 ⟨13, awakeF⟩) (n : Nat) (hn : 5 < n) (b : Bd) (p : Tup ptK) (x : Tup bxK) (near : List (Tup wallK)) : FnD (cfg w0) 7 [.sl n 4 [], plotD b p x, .vec wallK near] (Bo true) :=
  show FnD (cfg w0) 7 _ _ from fnD_k (C := (cfg w0).onI [61]) (Cfg.onI_ok (cfg_ok w0) [61]) (specs_onI h0 [61]) (cs := [⟨13, tG awakeF⟩, bad62]) ⟨gd_of ha, bad62_gd, trivial⟩ (g := 7) (fd := fnOf Tryz.f7) rfl
    ((run7_long n b p x near).trans (by rw [decide_eq_true (show ((n : Nat) : Int) > 5 by omega)]; rfl))

theorem law7_all (h0 : Lib0 w0) (ha : Good w0 ⟨13, awakeF⟩) {w : World} {v : Value}
    (hv : (∀ (G : Gl) (GB : Nat), ImpOK G GB w (.val (.slice none 0 0)) v) ∨ (∀ (G : Gl) (GB : Nat), ImpOK G GB w (.emp ssB.length) v) ∨
      ∃ l : List (ArgT ssB), l ≠ [] ∧ (∀ x ∈ l, WfA ssB x) ∧ ∀ (G : Gl) (GB : Nat), ImpOK G GB w (.sl l.length ssB.length (l.map (toShs ssB)).flatten) v ∧ ImpOK G GB w (.sl l.length ssB.length []) v)
    (a : ArgT ssP) (near : List (Tup wallK)) : ∃ d : D, (∀ (G : Gl) (GB : Nat), ImpOK G GB w d v) ∧ FnD (cfg w0) 7 [d, .agg (toShs ssP a), .vec wallK near] (Bo true) := by
  obtain ⟨nm, cs, hh, e, px, py, x1, y1, x2, y2, u⟩ := a
  have L := law7_fn h0 ha ⟨nm, cs, hh, e⟩ (px, py, ()) (x1, y1, x2, y2, ()) near
  rcases hv with hv | hv | ⟨l, hne, _, hv⟩
  · exact ⟨nilD, hv, L.2.1⟩
  · exact ⟨.emp 4, hv, L.2.2⟩
  · rcases Nat.lt_or_ge 5 l.length with h5 | h5
    · exact ⟨.sl l.length 4 [], fun G GB => (hv G GB).2, law7_long h0 ha l.length h5 ⟨nm, cs, hh, e⟩ (px, py, ()) (x1, y1, x2, y2, ()) near⟩
    · refine ⟨slD (l.map bdOf), fun G GB => ?_, L.1 _ (by rw [List.length_map]; exact h5) (by simpa using hne)⟩
      rw [← sl_eq]
      exact (hv G GB).1
end Go.Proofs.YtmlglimahbjgbaaGreatDoor
