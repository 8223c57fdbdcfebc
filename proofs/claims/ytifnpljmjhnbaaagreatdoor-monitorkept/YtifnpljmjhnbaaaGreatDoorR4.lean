/-
  A part of the proof of the statement that the claim names: see the last file.
-/
import Derived.Test.YtifnpljmjhnbaaaGreatDoorProg
import Derived.Shelf.Slices.SearchI
import Derived.Ground.Names2Prog
import Derived.WalkKit
import Derived.Shelf.SlSortCmp.Whole1
import Derived.Test.YtifnpljmjhnbaaaGreatDoorR2
import Derived.Test.YtifnpljmjhnbaaaGreatDoorAm5
import Derived.Shelf.SlSortCmp.Insertion
import Derived.Test.YtifnpljmjhnbaaaGreatDoorR3
namespace Go.Proofs
open Go.Shelf Go.RowKit Go.Lib

def Tryz.laysNaN_ren : Go.Shelf.Ren := ⟨fun | 37 => 148 | n => n, fun | 3 => 3 | 4 => 4 | n => n, fun | n => n⟩
theorem Tryz.laysNaN : Go.Proofs.Lays2.n37 Tryz.prog Tryz.laysNaN_ren := {
  mixed := by kernel_rfl
  f37 := Tryz.func148.trans (congrArg some (by kernel_rfl))
  t3 := Tryz.underlying3
  a3 := Tryz.isAgg3
  z3 := Tryz.sizeOf3
  v3 := Tryz.zeroValue3
  t4 := Tryz.underlying4
  a4 := Tryz.isAgg4
  z4 := Tryz.sizeOf4
  v4 := Tryz.zeroValue4 }
theorem Tryz.isNaN148 (x : Int) (w : World) : Calls Tryz.prog 148 #[.int .i64 x] w fun e w' => e = .returned (.bool false) ∧ w' = w := Any.cmp_isNaN_int2 Tryz.laysNaN x w


def cmpN (x y : Int) : Int := if x < y then -1 else if y < x then 1 else 0

theorem Tryz.cmp101 (x y : Int) (W : World) : Calls Tryz.prog 101 #[.int .i64 x, .int .i64 y] W fun e w' => e = .returned (.int .i64 (cmpN x y)) ∧ W = w' := by
  have hn : ∀ x W, Calls Tryz.prog 148 #[.int .i64 x] W fun e w' => e = .returned (.bool false) ∧ W = w' := fun x W => (Tryz.isNaN148 x W).mono fun _ _ ⟨a, b⟩ => ⟨a, b.symm⟩
  unfold cmpN
  by_cases h1 : x < y
  · rw [if_pos h1]
    go_enter Tryz.func101, Tryz.ntmps101
    go_wp2_with (go_at_call 148; refine (hn _ _).mono ?_; rintro e w' ⟨rfl, rfl⟩)
    go_ret
    exact ⟨rfl, rfl⟩
  · rw [if_neg h1]
    by_cases h2 : y < x
    · rw [if_pos h2]
      go_enter Tryz.func101, Tryz.ntmps101
      go_wp2_with (go_at_call 148; refine (hn _ _).mono ?_; rintro e w' ⟨rfl, rfl⟩)
      go_ret
      exact ⟨rfl, rfl⟩
    · rw [if_neg h2]
      go_enter Tryz.func101, Tryz.ntmps101
      go_wp2_with (go_at_call 148; refine (hn _ _).mono ?_; rintro e w' ⟨rfl, rfl⟩)
      go_ret
      exact ⟨rfl, rfl⟩
theorem Tryz.cmp100 (x y : Int) (W : World) : Calls Tryz.prog 100 #[.int .i64 x, .int .i64 y] W fun e w' => e = .returned (.int .i64 (cmpN y x)) ∧ w' = W := by
  go_enter Tryz.func100, Tryz.ntmps100
  go_wp2_with (go_at_call 101; refine (Tryz.cmp101 _ _ _).mono ?_; rintro e w' ⟨rfl, rfl⟩)
  go_ret
  exact ⟨rfl, rfl⟩
end Go.Proofs

namespace Go.Proofs
open Go.Shelf
def Tryz.sortInt_ren : Go.Shelf.Ren := ⟨fun | 6 => 99 | 15 => 147 | 14 => 146 | 28 => 182 | 29 => 183 | 20 => 174 | 21 => 175 | 22 => 176 | 23 => 177 | 24 => 178 | 25 => 179 | 26 => 180 | 27 => 181 | 46 => 197 | 47 => 198 | 48 => 199 | 49 => 200 | 50 => 201 | 57 => 216 | n => n, fun | 22 => 32 | 24 => 3 | 25 => 155 | 3 => 3 | 39 => 220 | 0 => 0 | 53 => 132 | 55 => 253 | 4 => 4 | 46 => 246 | 45 => 245 | 50 => 213 | 5 => 5 | 9 => 9 | 66 => 263 | 70 => 267 | 76 => 278 | 77 => 50 | n => n, fun | n => n⟩
theorem Tryz.sortInt : Go.Proofs.SlLaysF.n6 Tryz.prog Tryz.sortInt_ren := {
  mixed := by kernel_rfl
  f6 := ⟨Tryz.f99.name, by decide, Tryz.func99.trans (congrArg some (by kernel_rfl))⟩
  f14 := ⟨Tryz.f146.name, by decide, Tryz.func146.trans (congrArg some (by kernel_rfl))⟩
  f15 := Tryz.func147.trans (congrArg some (by kernel_rfl))
  f20 := ⟨Tryz.f174.name, by decide, Tryz.func174.trans (congrArg some (by kernel_rfl))⟩
  f21 := ⟨Tryz.f175.name, by decide, Tryz.func175.trans (congrArg some (by kernel_rfl))⟩
  f22 := ⟨Tryz.f176.name, by decide, Tryz.func176.trans (congrArg some (by kernel_rfl))⟩
  f23 := ⟨Tryz.f177.name, by decide, Tryz.func177.trans (congrArg some (by kernel_rfl))⟩
  f24 := ⟨Tryz.f178.name, by decide, Tryz.func178.trans (congrArg some (by kernel_rfl))⟩
  f25 := ⟨Tryz.f179.name, by decide, Tryz.func179.trans (congrArg some (by kernel_rfl))⟩
  f26 := ⟨Tryz.f180.name, by decide, Tryz.func180.trans (congrArg some (by kernel_rfl))⟩
  f27 := ⟨Tryz.f181.name, by decide, Tryz.func181.trans (congrArg some (by kernel_rfl))⟩
  f28 := Tryz.func182.trans (congrArg some (by kernel_rfl))
  f29 := Tryz.func183.trans (congrArg some (by kernel_rfl))
  f46 := ⟨Tryz.f197.name, by decide, Tryz.func197.trans (congrArg some (by kernel_rfl))⟩
  f47 := Tryz.func198.trans (congrArg some (by kernel_rfl))
  f48 := Tryz.func199.trans (congrArg some (by kernel_rfl))
  f49 := ⟨Tryz.f200.name, by decide, Tryz.func200.trans (congrArg some (by kernel_rfl))⟩
  f50 := ⟨Tryz.f201.name, by decide, Tryz.func201.trans (congrArg some (by kernel_rfl))⟩
  f57 := ⟨Tryz.f216.name, by decide, Tryz.func216.trans (congrArg some (by kernel_rfl))⟩
  t0 := Tryz.underlying0
  a0 := Tryz.isAgg0
  z0 := Tryz.sizeOf0
  v0 := Tryz.zeroValue0
  t3 := Tryz.underlying3
  a3 := Tryz.isAgg3
  z3 := Tryz.sizeOf3
  v3 := Tryz.zeroValue3
  t4 := Tryz.underlying4
  a4 := Tryz.isAgg4
  z4 := Tryz.sizeOf4
  v4 := Tryz.zeroValue4
  t5 := Tryz.underlying5
  a5 := Tryz.isAgg5
  z5 := Tryz.sizeOf5
  v5 := Tryz.zeroValue5
  t9 := Tryz.underlying9
  a9 := Tryz.isAgg9
  z9 := Tryz.sizeOf9
  v9 := Tryz.zeroValue9
  t22 := Tryz.underlying32
  a22 := Tryz.isAgg32
  z22 := Tryz.sizeOf32
  v22 := Tryz.zeroValue32
  a24 := Tryz.isAgg3
  z24 := Tryz.sizeOf3
  t25 := Tryz.underlying155
  a25 := Tryz.isAgg155
  z25 := Tryz.sizeOf155
  v25 := Tryz.zeroValue155
  t39 := Tryz.underlying220
  a39 := Tryz.isAgg220
  z39 := Tryz.sizeOf220
  v39 := Tryz.zeroValue220
  t45 := Tryz.underlying245
  a45 := Tryz.isAgg245
  z45 := Tryz.sizeOf245
  v45 := Tryz.zeroValue245
  t46 := Tryz.underlying246
  a46 := Tryz.isAgg246
  z46 := Tryz.sizeOf246
  v46 := Tryz.zeroValue246
  t50 := Tryz.underlying213
  a50 := Tryz.isAgg213
  z50 := Tryz.sizeOf213
  v50 := Tryz.zeroValue213
  t53 := Tryz.underlying132
  a53 := Tryz.isAgg132
  z53 := Tryz.sizeOf132
  v53 := Tryz.zeroValue132
  t55 := Tryz.underlying253
  a55 := Tryz.isAgg253
  z55 := Tryz.sizeOf253
  v55 := Tryz.zeroValue253
  t66 := Tryz.underlying263
  a66 := Tryz.isAgg263
  z66 := Tryz.sizeOf263
  v66 := Tryz.zeroValue263
  t70 := Tryz.underlying267
  a70 := Tryz.isAgg267
  z70 := Tryz.sizeOf267
  v70 := Tryz.zeroValue267
  t76 := Tryz.underlying278
  a76 := Tryz.isAgg278
  z76 := Tryz.sizeOf278
  v76 := Tryz.zeroValue278
  t77 := Tryz.underlying50
  a77 := Tryz.isAgg50
  z77 := Tryz.sizeOf50
  v77 := Tryz.zeroValue50 }
end Go.Proofs

namespace Go.Proofs.YtifnpljmjhnbaaaGreatDoor
open Go Go.Am Go.Sort
set_option maxRecDepth 100000
variable {w0 : World}
noncomputable section


def cfI (x y : Tup intK) : Int := cmpN (i1 y) (i1 x)
def ltI (x y : Tup intK) : Prop := i1 y < i1 x
theorem cfI_lt (x y : Tup intK) : cfI x y < 0 ↔ ltI x y := by
  unfold cfI cmpN ltI
  repeat' split
  all_goals omega
theorem ltOf_iff (x y : Tup intK) : ltOf cfI x y = true ↔ ltI x y := by
  unfold ltOf
  rw [decide_eq_true_iff]
  exact cfI_lt x y
theorem ltOf_false (x y : Tup intK) : ltOf cfI x y = false ↔ ¬ ltI x y := by
  rw [← ltOf_iff, Bool.not_eq_true]
theorem swoI : SWO (ltOf cfI) where
  irrefl x := by rw [ltOf_false]; unfold ltI; omega
  trans x y z a b := by rw [ltOf_iff] at *; unfold ltI at *; omega
  ntrans x y z a b := by rw [ltOf_false] at *; unfold ltI at *; omega
theorem totIc {x y : Tup intK} (a : ¬ ltI x y) (b : ¬ ltI y x) : x = y := by
  have k : i1 x = i1 y := by unfold ltI at *; omega
  obtain ⟨x1, u⟩ := x
  obtain ⟨y1, v⟩ := y
  cases (show x1 = y1 from k)
  rfl
def sortI (l : List (Tup intK)) : List (Tup intK) := l.mergeSort fun a b => !ltOf cfI b a
theorem sortI_perm (l : List (Tup intK)) : (sortI l).Perm l := List.mergeSort_perm ..
theorem sortI_len (l : List (Tup intK)) : (sortI l).length = l.length := (sortI_perm l).length_eq
theorem sortI_sorted (l : List (Tup intK)) : (sortI l).Pairwise fun a b => ¬ ltI b a := by
  have := List.pairwise_mergeSort (le := fun a b => !ltOf cfI b a) (fun a b c h1 h2 => by
    simp only [Bool.not_eq_true'] at *
    exact swoI.ntrans _ _ _ h2 h1) (fun a b => by
    cases h : ltOf cfI b a with
    | false => rfl
    | true =>
      cases h' : ltOf cfI a b with
      | false => rfl
      | true => have := swoI.trans _ _ _ h h'; rw [swoI.irrefl] at this; cases this) l
  refine this.imp fun {a b} h => ?_
  simpa [ltOf_false] using h
theorem sorted_unique : ∀ {l m : List (Tup intK)}, l.Perm m → l.Pairwise (fun a b => ¬ ltI b a) → m.Pairwise (fun a b => ¬ ltI b a) → l = m
  | [], m, hp, _, _ => (List.nil_perm.1 hp).symm ▸ rfl
  | x :: xs, [], hp, _, _ => absurd hp.length_eq (by simp)
  | x :: xs, y :: ys, hp, h1, h2 => by
    rw [List.pairwise_cons] at h1 h2
    have e : x = y := by
      have a1 : x ∈ y :: ys := hp.subset (by simp)
      have a2 : y ∈ x :: xs := hp.symm.subset (by simp)
      rcases List.mem_cons.1 a1 with h | h
      · exact h
      rcases List.mem_cons.1 a2 with h' | h'
      · exact h'.symm
      exact totIc (h2.1 x h) (h1.1 y h')
    subst e
    rw [sorted_unique (List.Perm.cons_inv hp) h1.2 h2.2]

def isFun (g : Nat) : Value → Bool
  | .func (.func f) xs ys => Nat.beq f g && (xs.toList.isEmpty && ys.toList.isEmpty)
  | _ => false
theorem isFun_eq {g : Nat} {v : Value} (h : isFun g v = true) : v = .func (.func g) #[] #[] := by
  unfold isFun at h
  split at h
  · rename_i f xs ys
    simp only [Bool.and_eq_true, Nat.beq_eq, List.isEmpty_iff] at h
    obtain ⟨h1, h2, h3⟩ := h
    obtain ⟨xs⟩ := xs
    obtain ⟨ys⟩ := ys
    cases h1; cases h2; cases h3
    rfl
  · cases h
theorem br_runS {α : Type} {b : Bool} {x : FT α} {d : α} (h : (FT.br b x .bad).run = some d) : b = true ∧ x.run = some d := by
  cases b with
  | true => exact ⟨rfl, h⟩
  | false => cases h
def sortRow (h : Heap) (b o n sz : Nat) : FT (Value × Heap) := match h.at b with
  | .vec ks l true => match recast ks intK l, Nat.beq o 2 with
    | some l, false => .br (Nat.beq n l.length && (Nat.beq sz 1 && (Nat.blt 0 l.length && Nat.ble l.length 100000))) (.leaf (.tuple #[], h.put b (.vec intK (sortI l) true))) .bad
    | _, _ => .bad
  | _ => .bad
def sortC : Nat × (List Value → Heap → FT (Value × Heap)) := (99, fun argv h => match argv with
  | [.slice (some ⟨b, o, some 0⟩) n sz, f] => match isFun 100 f with
    | true => sortRow h b o n sz
    | false => .bad
  | _ => .bad)
theorem sortRow_run {h : Heap} {b o n sz : Nat} {v : Value} {h' : Heap} (hv : (sortRow h b o n sz).run = some (v, h')) :
    ∃ l : List (Tup intK), h.at b = .vec intK l true ∧ o ≠ 2 ∧ n = l.length ∧ sz = 1 ∧ 0 < l.length ∧ l.length ≤ 100000 ∧ v = .tuple #[] ∧ h' = h.put b (.vec intK (sortI l) true) := by
  unfold sortRow at hv
  split at hv
  · rename_i hat
    split at hv
    · rename_i l hr ho
      obtain ⟨hg, hd⟩ := br_runS hv
      obtain ⟨e, hl⟩ := recast_eq hr
      subst e
      cases hd
      simp only [Bool.and_eq_true, Nat.beq_eq, Nat.blt_eq, Nat.ble_eq] at hg
      obtain ⟨g1, g2, g3, g4⟩ := hg
      exact ⟨l, by rw [hat, hl], (fun e => by rw [e] at ho; cases ho), g1, g2, g3, g4, rfl, rfl⟩
    · cases hv
  · cases hv
end
end Go.Proofs.YtifnpljmjhnbaaaGreatDoor

namespace Go.Proofs.YtifnpljmjhnbaaaGreatDoor
open Go Go.Am
set_option maxRecDepth 100000
variable {w0 : World}
noncomputable section


abbrev TL := List (Tup intK)
def gtC (v : Int) (l : TL) : Nat := l.countP fun x => decide (i1 x > v)
def eqC (v : Int) (l : TL) : Nat := l.countP fun x => i1 x == v
def geC (v : Int) (l : TL) : Nat := l.countP fun x => decide (i1 x > v) || i1 x == v
theorem geC_eq (v : Int) : ∀ l : TL, geC v l = gtC v l + eqC v l
  | [] => rfl
  | x :: xs => by
    have ih := geC_eq v xs
    unfold geC gtC eqC at *
    simp only [List.countP_cons]
    rw [ih]
    by_cases h1 : i1 x > v
    · have h2 : (i1 x == v) = false := by simp; omega
      rw [decide_eq_true h1, h2]; simp; omega
    · rw [decide_eq_false h1]
      cases (i1 x == v) <;> simp <;> omega
theorem gt_ge {u v : Int} (h : u > v) (l : TL) : gtC u l + eqC u l ≤ gtC v l := by
  rw [← geC_eq]
  refine List.countP_mono_left fun x _ hx => ?_
  simp only [Bool.or_eq_true, decide_eq_true_eq, beq_iff_eq] at hx ⊢
  omega
theorem rank_unique {u v : Int} {l : TL} {t : Nat} (a1 : gtC u l ≤ t) (a2 : t < gtC u l + eqC u l) (b1 : gtC v l ≤ t) (b2 : t < gtC v l + eqC v l) : u = v := by
  rcases Int.lt_trichotomy u v with h | h | h
  · have := gt_ge h l; omega
  · exact h
  · have := gt_ge h l; omega
theorem exists_rank (v : Int) : ∀ (l : TL) (m : Nat), m < eqC v l → ∃ i, i < l.length ∧ i1 (nth l i) = v ∧ eqC v (l.take i) = m
  | [], m, h => by simp [eqC] at h
  | x :: xs, m, h => by
    by_cases hx : i1 x = v
    · cases m with
      | zero => exact ⟨0, by simp, hx, by simp [eqC]⟩
      | succ m =>
        have h' : m < eqC v xs := by
          unfold eqC at h ⊢
          rw [List.countP_cons, if_pos (by simpa using hx)] at h
          omega
        obtain ⟨i, h1, h2, h3⟩ := exists_rank v xs m h'
        refine ⟨i + 1, by simp; omega, h2, ?_⟩
        unfold eqC at h3 ⊢
        rw [List.take_succ_cons, List.countP_cons, if_pos (by simpa using hx), h3]
    · have h' : m < eqC v xs := by
        unfold eqC at h ⊢
        rw [List.countP_cons, if_neg (by simpa using hx)] at h
        omega
      obtain ⟨i, h1, h2, h3⟩ := exists_rank v xs m h'
      refine ⟨i + 1, by simp; omega, h2, ?_⟩
      unfold eqC at h3 ⊢
      rw [List.take_succ_cons, List.countP_cons, if_neg (by simpa using hx), h3, Nat.add_zero]

theorem drop_take {k : Nat} : ∀ (n : Nat) (l : TL), k + n ≤ l.length → (l.drop k).take n = (List.range' k n).map (nth l) := fun n l h => by
  apply List.ext_getElem?
  intro j
  rw [List.getElem?_take]
  by_cases hj : j < n
  · rw [if_pos hj, List.getElem?_drop, List.getElem?_map, List.getElem?_range' hj]
    simp only [Option.map_some, Nat.one_mul, nth, List.getD_eq_getElem?_getD]
    rw [List.getElem?_eq_getElem (by omega)]
    simp
  · rw [if_neg hj, List.getElem?_eq_none (by simp; omega)]
theorem fold_cnt {α : Type} (p : α → Bool) : ∀ (l : List α) (b : Int), 0 ≤ b → b + l.length ≤ 1000000 → l.foldl (fun b k => bif p k then IntKind.i64.wrap (b + 1) else b) b = b + l.countP p
  | [], b, _, _ => by simp
  | x :: xs, b, h1, h2 => by
    rw [List.length_cons] at h2
    rw [List.foldl_cons, List.countP_cons]
    cases p x with
    | true =>
      rw [cond_true, W_id (by omega) (by omega), fold_cnt p xs (b + 1) (by omega) (by omega)]
      simp; omega
    | false =>
      rw [cond_false, fold_cnt p xs b (by omega) (by omega)]
      simp
theorem cntK_eq {r : TL} (h : r.length ≤ 100000) : cntK r = (keepM r).length := by
  unfold cntK keepM
  rw [fold_cnt (fun x => i1 x != -1) r 0 (by omega) (by omega), Int.zero_add, List.countP_eq_length_filter]
  rfl
theorem befZ_eq {r : TL} (h : r.length ≤ 100000) {i : Nat} (hi : i < r.length) : befZ r i = (gtC (i1 (nth r i)) r + eqC (i1 (nth r i)) (r.take i) : Nat) := by
  unfold befZ
  rw [fold_cnt (befB r i) _ 0 (by omega) (by simp; omega), Int.zero_add]
  congr 1
  have e : List.range' 0 r.length = List.range' 0 i ++ List.range' i (r.length - i) := by
    have := List.range'_append_1 (s := 0) (m := i) (n := r.length - i)
    rw [Nat.zero_add] at this
    rw [this, show i + (r.length - i) = r.length by omega]
  rw [e, List.countP_append]
  have a1 : (List.range' 0 i).countP (befB r i) = geC (i1 (nth r i)) (r.take i) := by
    have hd := drop_take (k := 0) i r (by omega)
    rw [List.drop_zero] at hd
    unfold geC
    rw [hd, List.countP_map]
    refine List.countP_congr fun k hk => ?_
    rw [List.mem_range'_1] at hk
    unfold befB
    rw [decide_eq_true (show k < i by omega), Bool.and_true]
    rfl
  have a2 : (List.range' i (r.length - i)).countP (befB r i) = gtC (i1 (nth r i)) (r.drop i) := by
    have hd := drop_take (k := i) (r.length - i) r (by omega)
    rw [List.take_of_length_le (by simp)] at hd
    unfold gtC
    rw [hd, List.countP_map]
    refine List.countP_congr fun k hk => ?_
    rw [List.mem_range'_1] at hk
    unfold befB
    rw [decide_eq_false (show ¬ k < i by omega), Bool.and_false, Bool.or_false]
    rfl
  rw [a1, a2, geC_eq]
  have : gtC (i1 (nth r i)) r = gtC (i1 (nth r i)) (r.take i) + gtC (i1 (nth r i)) (r.drop i) := by
    unfold gtC
    rw [← List.countP_append, List.take_append_drop]
  omega
theorem nth_el {l : TL} {j : Nat} (h : j < l.length) : nth l j = l[j] := by simp [nth, h]
theorem sorted_rank {s : TL} (hs : s.Pairwise fun a b => ¬ ltI b a) {t : Nat} (ht : t < s.length) : gtC (i1 (nth s t)) s ≤ t ∧ t < gtC (i1 (nth s t)) s + eqC (i1 (nth s t)) s := by
  rw [List.pairwise_iff_getElem] at hs
  have hle : ∀ a b (ha : a < s.length) (hb : b < s.length), a ≤ b → i1 s[b] ≤ i1 s[a] := fun a b ha hb hab => by
    rcases Nat.eq_or_lt_of_le hab with rfl | h
    · omega
    · have := hs a b ha hb h
      unfold ltI at this
      omega
  rw [nth_el ht]
  constructor
  · have e : gtC (i1 s[t]) s = gtC (i1 s[t]) (s.take t) + gtC (i1 s[t]) (s.drop t) := by
      unfold gtC; rw [← List.countP_append, List.take_append_drop]
    have z : gtC (i1 s[t]) (s.drop t) = 0 := by
      unfold gtC
      rw [List.countP_eq_zero]
      intro x hx
      obtain ⟨j, hj, rfl⟩ := List.getElem_of_mem hx
      rw [List.length_drop] at hj
      rw [List.getElem_drop]
      have := hle t (t + j) ht (by omega) (by omega)
      simp; omega
    have y : gtC (i1 s[t]) (s.take t) ≤ (s.take t).length := List.countP_le_length
    rw [List.length_take] at y
    omega
  · rw [← geC_eq]
    have e : geC (i1 s[t]) s = geC (i1 s[t]) (s.take (t + 1)) + geC (i1 s[t]) (s.drop (t + 1)) := by
      unfold geC; rw [← List.countP_append, List.take_append_drop]
    have y : geC (i1 s[t]) (s.take (t + 1)) = (s.take (t + 1)).length := by
      unfold geC
      rw [List.countP_eq_length]
      intro x hx
      obtain ⟨j, hj, rfl⟩ := List.getElem_of_mem hx
      rw [List.length_take] at hj
      rw [List.getElem_take]
      have := hle j t (by omega) ht (by omega)
      simp; omega
    rw [List.length_take] at y
    omega
theorem keepM_gt {r : TL} {v : Int} (hv : -1 ≤ v) : gtC v (keepM r) = gtC v r := by
  unfold gtC keepM
  rw [List.countP_filter]
  refine List.countP_congr fun x _ => ?_
  unfold misB
  simp only [Bool.and_eq_true, decide_eq_true_eq, Bool.not_eq_true', beq_eq_false_iff_ne, ne_eq]
  omega
theorem keepM_eq {r : TL} {v : Int} (hv : v ≠ -1) : eqC v (keepM r) = eqC v r := by
  unfold eqC keepM
  rw [List.countP_filter]
  refine List.countP_congr fun x _ => ?_
  unfold misB
  simp only [Bool.and_eq_true, beq_iff_eq, Bool.not_eq_true', beq_eq_false_iff_ne, ne_eq]
  omega
theorem mem_keep {r : TL} {x : Tup intK} (h : x ∈ keepM r) : x ∈ r ∧ i1 x ≠ -1 := by
  unfold keepM misB at h
  rw [List.mem_filter] at h
  exact ⟨h.1, by simpa using h.2⟩
theorem rank_found {r : TL} (h : r.length ≤ 100000) (hr : ∀ x ∈ r, -1 ≤ i1 x) {t : Nat} (ht : t < (keepM r).length) :
    ∃ q, fnd (isK r t) r.length 0 = some q ∧ i1 (nth r q) = i1 (nth (sortI (keepM r)) t) := by
  have hp := sortI_perm (keepM r)
  have hts : t < (sortI (keepM r)).length := by rw [sortI_len]; exact ht
  obtain ⟨b1, b2⟩ := sorted_rank (sortI_sorted (keepM r)) hts
  have hv : nth (sortI (keepM r)) t ∈ r ∧ i1 (nth (sortI (keepM r)) t) ≠ -1 := mem_keep (hp.subset (by rw [nth_el hts]; exact List.getElem_mem hts))
  generalize hvv : i1 (nth (sortI (keepM r)) t) = v at b1 b2
  have hv1 : -1 ≤ v := by rw [← hvv]; exact hr _ hv.1
  have hv2 : v ≠ -1 := by rw [← hvv]; exact hv.2
  have p1 : gtC v (sortI (keepM r)) = gtC v r := (hp.countP_eq _).trans (keepM_gt hv1)
  have p2 : eqC v (sortI (keepM r)) = eqC v r := (hp.countP_eq _).trans (keepM_eq hv2)
  rw [p1] at b1 b2
  rw [p2] at b2
  obtain ⟨i, i1', i2, i3⟩ := exists_rank v r (t - gtC v r) (by omega)
  have hi : isK r t i = true := by
    unfold isK
    rw [befZ_eq h i1', i2, i3]
    simp only [Bool.and_eq_true, bne_iff_ne, ne_eq, beq_iff_eq]
    exact ⟨hv2, by omega⟩
  cases hf : fnd (isK r t) r.length 0 with
  | none => rw [fnd_none hf i (by omega) (by omega)] at hi; cases hi
  | some q =>
    obtain ⟨_, q1, q2, _⟩ := fnd_some hf
    refine ⟨q, rfl, ?_⟩
    have q1 : q < r.length := by omega
    have q2 : isK r t q = true := q2
    unfold isK at q2
    rw [befZ_eq h q1] at q2
    simp only [Bool.and_eq_true, bne_iff_ne, ne_eq, beq_iff_eq] at q2
    have c1 : eqC (i1 (nth r q)) (r.take q) < eqC (i1 (nth r q)) r := by
      have e : eqC (i1 (nth r q)) r = eqC (i1 (nth r q)) (r.take q) + eqC (i1 (nth r q)) (r.drop q) := by
        unfold eqC; rw [← List.countP_append, List.take_append_drop]
      have z : 0 < eqC (i1 (nth r q)) (r.drop q) := by
        unfold eqC
        rw [List.countP_pos_iff]
        refine ⟨nth r q, ?_, by simp⟩
        rw [nth_el q1]
        exact List.mem_drop_iff_getElem.2 ⟨0, by omega, by simp⟩
      omega
    exact rank_unique (l := r) (t := t) (by omega) (by omega) b1 b2
end
end Go.Proofs.YtifnpljmjhnbaaaGreatDoor
