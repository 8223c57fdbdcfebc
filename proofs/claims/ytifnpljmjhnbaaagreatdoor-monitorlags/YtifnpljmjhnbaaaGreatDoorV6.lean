/-
  A part of the proof of the statement that the claim names: see the last file.
-/
import Derived.Test.YtifnpljmjhnbaaaGreatDoorV5
import Derived.Test.YtifnpljmjhnbaaaGreatDoorL3
namespace Go.Proofs.YtifnpljmjhnbaaaGreatDoor
open Go Go.Am Go.RowKit
set_option maxRecDepth 100000
variable {w0 : World}
noncomputable section


def rel49a : List (Nat × Cv) := [(6, .sv intK), (8, .id), (7, .id), (5, .id)]
def st49a (l : TLi) (p : Int × Int) : List D := [.vec intK l, I p.1, I p.2, .obox [I 0, I 0]]
def rel49b : List (Nat × Cv) := [(6, .sv intK), (10, .id), (7, .id), (9, .id), (5, .id)]
def st49b (l : TLi) (m : Int) (p : Int × Int) : List D := [.vec intK l, I p.1, I m, I p.2, .obox [I 0, I 0]]
theorem round49a (l : TLi) (d a : Int) : rndD ((cfg w0).at [c48]) 40 [] 40 (fnOf Tryz.f49).ntmps rel49a (lpB 0 (fnOf Tryz.f49).body) (st49a l (d, a)) =
    bif decide (d < l.length) then bif inO l d then bif inO l a then bif decide (i1 (nth l d.toNat) > i1 (nth l a.toNat)) then some ([], .normal, st49a l (W (d + 1), d)) else some ([], .normal, st49a l (W (d + 1), a)) else none else none
    else some ([], .exit 0, st49a l (d, a)) := by kernel_rfl
theorem round49b (l : TLi) (m d a : Int) : rndD ((cfg w0).at [c48]) 40 [] 40 (fnOf Tryz.f49).ntmps rel49b (lpB 2 (fnOf Tryz.f49).body) (st49b l m (d, a)) =
    bif decide (d < l.length) then bif d != m then bif inO l d then bif inO l a then bif decide (i1 (nth l d.toNat) > i1 (nth l a.toNat)) then some ([], .normal, st49b l m (W (d + 1), d)) else some ([], .normal, st49b l m (W (d + 1), a)) else none else none
      else some ([], .normal, st49b l m (W (d + 1), a))
    else some ([], .exit 2, st49b l m (d, a)) := by kernel_rfl
def lda (l : TLi) (p : Int × Int) : Ld := ldP 0 (fnOf Tryz.f49).ntmps rel49a .normal (st49a l p)
def ldb (l : TLi) (m : Int) (q : Int × Int) : Ld := ldP 2 (fnOf Tryz.f49).ntmps rel49b .normal (st49b l m q)
def o49 (l : TLi) (p q : Int × Int) (s : Int) : Obs := [(ldb l p.2 q, .loop (lpB 2 (fnOf Tryz.f49).body), st49b l p.2 (0, s)), (lda l p, .loop (lpB 0 (fnOf Tryz.f49).body), st49a l (1, 0))]
def t49 (l : TLi) (p q : Int × Int) (s : Int) : Option (Obs × D) :=
  bif decide (IntKind.i64.wrap (2 * p.2) > l.length) then bif inO l p.2 then bif inO l q.2 then some (o49 l p q s, .tup [I (IntKind.i64.wrap (p.2 - l.length)), .agg [I (i1 (nth l p.2.toNat)), I (i1 (nth l q.2.toNat))]]) else none else none
  else bif inO l p.2 then bif inO l q.2 then some (o49 l p q s, .tup [I p.2, .agg [I (i1 (nth l p.2.toNat)), I (i1 (nth l q.2.toNat))]]) else none else none
theorem body49 (a b : FL) (p q : Int × Int) : bodyT ((cfg w0).at [c48]) 40 [lda (corL (a.map lvE) (b.map lvE)) p, ldb (corL (a.map lvE) (b.map lvE)) p.2 q] 40 (fnOf Tryz.f49) [.vec fsK a, .vec fsK b] =
    bif okW a b then bif eqF a b then bif p.2 == 0 then t49 (corL (a.map lvE) (b.map lvE)) p q 1 else t49 (corL (a.map lvE) (b.map lvE)) p q 0 else none else none := by kernel_rfl
theorem stM_lt {l : TLi} {d a : Nat} (hd : d < l.length) (ha : a < l.length) : stM l d a < l.length := by
  unfold stM
  cases decide (i1 (nth l d) > i1 (nth l a))
  · exact ha
  · exact hd
def stN (l : TLi) (m d a : Nat) : Nat := bif (d : Int) != (m : Int) then stM l d a else a
def nxM (l : TLi) : Nat := (List.range' 0 l.length).foldl (fun a d => stN l (atM l) d a) (bif (atM l : Int) == 0 then 1 else 0)
theorem stN_lt {l : TLi} {m d a : Nat} (hd : d < l.length) (ha : a < l.length) : stN l m d a < l.length := by
  unfold stN
  cases ((d : Int) != (m : Int))
  · exact ha
  · exact stM_lt hd ha
theorem foldl_pres {α : Type} (P : α → Prop) (f : α → Nat → α) : ∀ (L : List Nat) (a : α), P a → (∀ d ∈ L, ∀ a, P a → P (f a d)) → P (L.foldl f a)
  | [], _, h, _ => h
  | d :: L, a, h, hs => foldl_pres P f L (f a d) (hs d (by simp) a h) fun x hx => hs x (by simp [hx])
theorem stN_ne {l : TLi} {m d a : Nat} (ha : a ≠ m) : stN l m d a ≠ m := by
  unfold stN
  cases hx : ((d : Int) != (m : Int)) with
  | false => exact ha
  | true =>
    unfold stM
    have : d ≠ m := by
      intro h
      rw [h] at hx
      simp at hx
    cases decide (i1 (nth l d) > i1 (nth l a))
    · exact ha
    · exact this
theorem nx0_ok {l : TLi} (h2 : 2 ≤ l.length) : (bif (atM l : Int) == 0 then 1 else 0) < l.length ∧ (bif (atM l : Int) == 0 then 1 else 0) ≠ atM l := by
  cases hx : ((atM l : Int) == 0) with
  | true =>
    have : atM l = 0 := by simpa using hx
    exact ⟨by simp; omega, by simp [this]⟩
  | false =>
    have : atM l ≠ 0 := by simpa using hx
    exact ⟨by simp; omega, by simp; omega⟩
theorem nxM_ok {l : TLi} (h2 : 2 ≤ l.length) : nxM l < l.length ∧ nxM l ≠ atM l :=
  foldl_pres (fun a => a < l.length ∧ a ≠ atM l) _ _ _ (nx0_ok h2) fun d hd a ⟨h1, h3⟩ => ⟨stN_lt (by have := List.mem_range'_1.1 hd; omega) h1, stN_ne h3⟩
theorem foldN_ge (l : TLi) (m : Nat) : ∀ (L : List Nat) (a : Nat), i1 (nth l a) ≤ i1 (nth l (L.foldl (fun a d => stN l m d a) a)) ∧ ∀ d ∈ L, d ≠ m → i1 (nth l d) ≤ i1 (nth l (L.foldl (fun a d => stN l m d a) a))
  | [], a => ⟨Int.le_refl _, fun d hd => by cases hd⟩
  | x :: L, a => by
    obtain ⟨h1, h2⟩ := foldN_ge l m L (stN l m x a)
    rw [List.foldl_cons]
    have h3 : i1 (nth l a) ≤ i1 (nth l (stN l m x a)) ∧ (x ≠ m → i1 (nth l x) ≤ i1 (nth l (stN l m x a))) := by
      unfold stN
      cases hx : ((x : Int) != (m : Int)) with
      | false =>
        have : x = m := by
          have : (x : Int) = m := by simpa using hx
          omega
        exact ⟨Int.le_refl _, fun h => absurd this h⟩
      | true =>
        rw [cond_true]
        unfold stM
        by_cases h : i1 (nth l x) > i1 (nth l a)
        · rw [decide_eq_true h, cond_true]; exact ⟨by omega, fun _ => by omega⟩
        · rw [decide_eq_false h, cond_false]; exact ⟨by omega, fun _ => by omega⟩
    refine ⟨Int.le_trans h3.1 h1, fun d hd hne => ?_⟩
    rcases List.mem_cons.1 hd with rfl | hd
    · exact Int.le_trans (h3.2 hne) h1
    · exact h2 d hd hne
theorem nxM_ge {l : TLi} {d : Nat} (hd : d < l.length) (hne : d ≠ atM l) : i1 (nth l d) ≤ i1 (nth l (nxM l)) := (foldN_ge l _ _ _).2 d (List.mem_range'_1.2 ⟨Nat.zero_le _, by omega⟩) hne
theorem foldX_gev (l : TLi) : ∀ (L : List Nat) (m : Int), m ≤ L.foldl (fun m (i : Nat) => mxx (i1 (nth l i)) m) m ∧ (∀ i ∈ L, i1 (nth l i) ≤ L.foldl (fun m (i : Nat) => mxx (i1 (nth l i)) m) m) ∧ ∀ c : Int, m ≤ c → (∀ i ∈ L, i1 (nth l i) ≤ c) → L.foldl (fun m (i : Nat) => mxx (i1 (nth l i)) m) m ≤ c
  | [], m => ⟨Int.le_refl _, fun d hd => (by cases hd), fun c h _ => h⟩
  | x :: L, m => by
    obtain ⟨h1, h2, h3⟩ := foldX_gev l L (mxx (i1 (nth l x)) m)
    rw [List.foldl_cons]
    have h4 : m ≤ mxx (i1 (nth l x)) m ∧ i1 (nth l x) ≤ mxx (i1 (nth l x)) m := by unfold mxx; split <;> omega
    refine ⟨Int.le_trans h4.1 h1, fun d hd => ?_, fun c hc hL => h3 c ?_ fun i hi => hL i (by simp [hi])⟩
    · rcases List.mem_cons.1 hd with rfl | hd
      · exact Int.le_trans h4.2 h1
      · exact h2 d hd
    · have := hL x (by simp)
      unfold mxx; split <;> omega
theorem nth_othv {l : TLi} {a i : Nat} (ha : a < l.length) : nth (oth l a) i = if i < a then nth l i else nth l (i + 1) := by
  unfold oth nth
  rw [List.getD_eq_getElem?_getD, List.getElem?_append, List.length_take, Nat.min_eq_left (by omega)]
  by_cases h : i < a
  · rw [if_pos h, if_pos h, List.getElem?_take, if_pos h, List.getD_eq_getElem?_getD]
  · rw [if_neg h, if_neg h, List.getElem?_drop, List.getD_eq_getElem?_getD, show a + 1 + (i - a) = i + 1 by omega]
theorem oth_lenv {l : TLi} {a : Nat} (ha : a < l.length) : (oth l a).length = l.length - 1 := by
  unfold oth
  rw [List.length_append, List.length_take, List.length_drop]
  omega
theorem mxL_nx {l : TLi} (h2 : 2 ≤ l.length) : mxL (oth l (atM l)) = i1 (nth l (nxM l)) := by
  have ha := atM_lt (l := l) (by omega)
  obtain ⟨n1, n2⟩ := nxM_ok h2
  have hlen := oth_lenv ha
  have key : ∀ i, i < (oth l (atM l)).length → i1 (nth (oth l (atM l)) i) ≤ i1 (nth l (nxM l)) := fun i hi => by
    rw [hlen] at hi
    rw [nth_othv ha]
    split
    · exact nxM_ge (by omega) (by omega)
    · exact nxM_ge (by omega) (by omega)
  obtain ⟨f1, f2, f3⟩ := foldX_gev (oth l (atM l)) (List.range' 1 ((oth l (atM l)).length - 1)) (i1 (nth (oth l (atM l)) 0))
  refine Int.le_antisymm (f3 _ (key 0 (by omega)) fun i hi => key i (by have := List.mem_range'_1.1 hi; omega)) ?_
  have hge : ∀ i, i < (oth l (atM l)).length → i1 (nth (oth l (atM l)) i) ≤ mxL (oth l (atM l)) := fun i hi => by
    cases i with
    | zero => exact f1
    | succ i => exact f2 _ (List.mem_range'_1.2 ⟨by omega, by omega⟩)
  rcases Nat.lt_or_gt_of_ne n2 with h | h
  · have := hge (nxM l) (by omega)
    rwa [nth_othv ha, if_pos h] at this
  · have := hge (nxM l - 1) (by omega)
    rwa [nth_othv ha, if_neg (by omega), show nxM l - 1 + 1 = nxM l by omega] at this
def lagR (x : L4) : D := .tup [I x.1, .agg [I x.2.1, I x.2.2.1]]
theorem t49_eq {l : TLi} (h2 : 2 ≤ l.length) (h16 : l.length ≤ 16) (s i j : Int) : t49 l (i, (atM l : Int)) (j, (nxM l : Int)) s = some (o49 l (i, (atM l : Int)) (j, (nxM l : Int)) s, lagR (lagL l)) := by
  have ha := atM_lt (l := l) (by omega)
  obtain ⟨n1, _⟩ := nxM_ok h2
  unfold t49 lagR lagL
  simp only
  rw [inO_nat ha, inO_nat n1, W_id (n := 2 * (atM l : Int)) (by omega) (by omega), W_id (n := (atM l : Int) - l.length) (by omega) (by omega), Int.toNat_natCast, Int.toNat_natCast, mxL_nx h2]
  cases decide (2 * (atM l : Int) > l.length) <;> rfl
theorem la49 (h0 : Lib0 w0) (l : TLi) (h2 : 2 ≤ l.length) (h16 : l.length ≤ 16) : LdT ((cfg w0).at [c48]) (lda l (((1 + (l.length - 1) : Nat) : Int), (atM l : Int))) (.loop (lpB 0 (fnOf Tryz.f49).body)) (st49a l (1, 0)) := by
  have hx : rgRun 0 (fun (d : Nat) (a : Nat) => (X.normal, stM l d a)) (l.length - 1) 1 0 = (.exit 0, (((1 + (l.length - 1) : Nat) : Int), atM l)) := by
    rw [rgRun_fold (h := fun (d : Nat) a => stM l d a) 0 (l.length - 1) 1 _ (fun _ _ _ _ => rfl)]
    have e : atM l = (List.range' 1 (l.length - 1)).foldl (fun a d => stM l d a) 0 := by
      unfold atM
      rw [show l.length = (l.length - 1) + 1 by omega, List.range'_succ, List.foldl_cons]
      have : stM l 0 0 = 0 := by unfold stM; cases decide (i1 (nth l 0) > i1 (nth l 0)) <;> rfl
      rw [this]
      rfl
    rw [← e]
  exact ldT_rgs (at_ok (cfg_ok w0) [c48]) (at_sp h0 (cs := [c48]) ⟨gd48 h0, trivial⟩) (N := (fnOf Tryz.f49).ntmps) (rel := rel49a) (B := lpB 0 (fnOf Tryz.f49).body) (id := 0) (k := l.length) (by omega) (fun p : Int × Nat => st49a l (p.1, (p.2 : Int))) _ (fun _ a => a < l.length)
    (fun d a hd ha => .leaf (by
      refine (round49a l (d : Int) (a : Int)).trans ?_
      rw [lt_t hd, inO_nat hd, inO_nat ha, Int.toNat_natCast, Int.toNat_natCast]
      unfold stM
      cases decide (i1 (nth l d) > i1 (nth l a)) <;> rfl)) (fun d a a' hd ha h => by cases h; exact stM_lt hd ha)
    (fun a _ => .leaf ((round49a l _ (a : Int)).trans (by rw [ge_f]; rfl))) (i0 := 1) (by omega) (a0 := 0) (by omega) hx
theorem lb49 (h0 : Lib0 w0) (l : TLi) (h2 : 2 ≤ l.length) (h16 : l.length ≤ 16) : LdT ((cfg w0).at [c48]) (ldb l (atM l : Int) (((0 + l.length : Nat) : Int), (nxM l : Int))) (.loop (lpB 2 (fnOf Tryz.f49).body)) (st49b l (atM l : Int) (0, ((bif (atM l : Int) == 0 then 1 else 0 : Nat) : Int))) := by
  have hx : rgRun 2 (fun (d : Nat) (a : Nat) => (X.normal, stN l (atM l) d a)) l.length 0 (bif (atM l : Int) == 0 then 1 else 0) = (.exit 2, (((0 + l.length : Nat) : Int), nxM l)) :=
    rgRun_fold (h := fun (d : Nat) a => stN l (atM l) d a) 2 l.length 0 _ (fun _ _ _ _ => rfl)
  exact ldT_rg (at_ok (cfg_ok w0) [c48]) (at_sp h0 (cs := [c48]) ⟨gd48 h0, trivial⟩) (N := (fnOf Tryz.f49).ntmps) (rel := rel49b) (B := lpB 2 (fnOf Tryz.f49).body) (id := 2) (k := l.length) (by omega) (fun p : Int × Nat => st49b l (atM l : Int) (p.1, (p.2 : Int))) _ (fun _ a => a < l.length)
    (fun d a hd ha => .leaf (by
      refine (round49b l _ (d : Int) (a : Int)).trans ?_
      rw [lt_t hd, inO_nat hd, inO_nat ha, Int.toNat_natCast, Int.toNat_natCast]
      unfold stN stM
      cases ((d : Int) != (atM l : Int)) <;> cases decide (i1 (nth l d) > i1 (nth l a)) <;> rfl)) (fun d a a' hd ha h => by cases h; exact stN_lt hd ha)
    (fun a _ => .leaf ((round49b l _ _ (a : Int)).trans (by rw [ge_f]; rfl))) (a0 := bif (atM l : Int) == 0 then 1 else 0) (nx0_ok h2).1 hx
theorem fn49 (h0 : Lib0 w0) (a b : FL) (hg : okW a b = true) (h2 : 2 ≤ a.length) (h16 : a.length ≤ 16) (hl : a.length = b.length) : FnD (cfg w0) 49 [.vec fsK a, .vec fsK b] (lagR (lagL (corL (a.map lvE) (b.map lvE)))) := by
  have hlen : (corL (a.map lvE) (b.map lvE)).length = a.length := by rw [corL_len, List.length_map]
  have hb := fun i j : Int => body49 (w0 := w0) a b (i, (atM (corL (a.map lvE) (b.map lvE)) : Int)) (j, (nxM (corL (a.map lvE) (b.map lvE)) : Int))
  generalize corL (a.map lvE) (b.map lvE) = l at hlen hb
  have hla := la49 h0 l (by omega) (by omega)
  have hlb := lb49 h0 l (by omega) (by omega)
  have hb := hb ((1 + (l.length - 1) : Nat) : Int) ((0 + l.length : Nat) : Int)
  rw [hg, eqF_of hl, t49_eq (by omega) (by omega), t49_eq (by omega) (by omega)] at hb
  cases hx : ((atM l : Int) == 0) with
  | true =>
    rw [hx] at hlb hb
    exact fnD_t (cfg_ok w0) h0 (cs := [c48]) ⟨gd48 h0, trivial⟩ (g := 49) (fd := fnOf Tryz.f49) rfl hb ⟨hlb, hla, trivial⟩
  | false =>
    rw [hx] at hlb hb
    exact fnD_t (cfg_ok w0) h0 (cs := [c48]) ⟨gd48 h0, trivial⟩ (g := 49) (fd := fnOf Tryz.f49) rfl hb ⟨hlb, hla, trivial⟩
def g49 (a b : FL) : Bool := Nat.ble 2 a.length && (Nat.ble a.length 16 && eqF a b)
def c49 : Ct := ct 49 [.v fsK, .v fsK] fun a => .br (okW a.1 a.2.1) (.br (g49 a.1 a.2.1) (.leaf (lagR (lagL (corL ((a.1 : FL).map lvE) ((a.2.1 : FL).map lvE))))) .bad) .bad
theorem gd49 (h0 : Lib0 w0) : Gd (cfg w0) c49 := gd_sig fun a d hd => by
  obtain ⟨a, b, u⟩ := a
  obtain ⟨hg, hd⟩ := br_run hd
  obtain ⟨hl, hd⟩ := br_run hd
  cases hd
  have hl : g49 a b = true := hl
  unfold g49 at hl
  rw [Bool.and_eq_true, Bool.and_eq_true, Nat.ble_eq, Nat.ble_eq] at hl
  exact fn49 h0 a b hg hl.1 hl.2.1 (Nat.eq_of_beq_eq_true hl.2.2)
end
end Go.Proofs.YtifnpljmjhnbaaaGreatDoor

namespace Go.Proofs.YtifnpljmjhnbaaaGreatDoor
open Go Go.Am Go.RowKit
set_option maxRecDepth 100000
variable {w0 : World}
noncomputable section


def mA (x : Int) : Int := if IntKind.i64.wrap (0 - x) > x then IntKind.i64.wrap (0 - x) else x
section
variable {α : Type} (mk : Int → Int → α)
def rf5 (x : Int) : α := bif decide (x < 0) then mk 5 0 else mk 7 0
def rf3 (x y : Int) : α := bif decide (x < 0) then bif decide (y > 0) then mk 3 0 else rf5 mk x else rf5 mk x
def rf1 (x y : Int) : α := bif decide (x > 0) then bif decide (y > 0) then mk 1 0 else rf3 mk x y else rf3 mk x y
def rf2 (x y : Int) : α := bif decide (IntKind.i64.wrap (2 * mA x) < mA y) then bif decide (y > 0) then mk 2 0 else mk 6 0 else rf1 mk x y
def rf0 (x y : Int) : α := bif decide (IntKind.i64.wrap (2 * mA y) < mA x) then bif decide (x > 0) then mk 0 0 else mk 4 0 else rf2 mk x y
def rfT (x y : Int) : α := bif x == 0 then bif y == 0 then mk 0 6 else rf0 mk x y else rf0 mk x y
variable {β : Type} (f : α → β)
theorem rf5_nat (x : Int) : f (rf5 mk x) = rf5 (fun a b => f (mk a b)) x := by
  unfold rf5; cases decide (x < 0) <;> rfl
theorem rf3_nat (x y : Int) : f (rf3 mk x y) = rf3 (fun a b => f (mk a b)) x y := by
  unfold rf3; rw [← rf5_nat]; cases decide (x < 0) <;> cases decide (y > 0) <;> rfl
theorem rf1_nat (x y : Int) : f (rf1 mk x y) = rf1 (fun a b => f (mk a b)) x y := by
  unfold rf1; rw [← rf3_nat]; cases decide (x > 0) <;> cases decide (y > 0) <;> rfl
theorem rf2_nat (x y : Int) : f (rf2 mk x y) = rf2 (fun a b => f (mk a b)) x y := by
  unfold rf2; rw [← rf1_nat]; cases decide (IntKind.i64.wrap (2 * mA x) < mA y) <;> cases decide (y > 0) <;> rfl
theorem rf0_nat (x y : Int) : f (rf0 mk x y) = rf0 (fun a b => f (mk a b)) x y := by
  unfold rf0; rw [← rf2_nat]; cases decide (IntKind.i64.wrap (2 * mA y) < mA x) <;> cases decide (x > 0) <;> rfl
theorem rfT_nat (x y : Int) : f (rfT mk x y) = rfT (fun a b => f (mk a b)) x y := by
  unfold rfT; rw [← rf0_nat]; cases (x == 0) <;> cases (y == 0) <;> rfl
end
def rfP (x y : Int) : Int × Int := rfT Prod.mk x y
theorem run50 (x y : Int) : bodyK ((cfg w0).at []) 60 (fnOf Tryz.f50) [I x, I y] = rfT (fun a b => some (.tup [I a, I b])) x y := by kernel_rfl
theorem run50' (x y : Int) : bodyK ((cfg w0).at []) 60 (fnOf Tryz.f50) [I x, I y] = some (brD (rfP x y)) := by
  rw [run50]
  exact (rfT_nat Prod.mk (fun p => some (brD p)) x y).symm
def c50 : Ct := ct 50 [.c ik, .c ik] fun a => .leaf (brD (rfP a.1 a.2.1))
theorem gd50 (h0 : Lib0 w0) : Gd (cfg w0) c50 := gd_sig fun a d hd => by
  obtain ⟨x, y, u⟩ := a
  cases hd
  exact fnD_k (cfg_ok w0) h0 (cs := []) trivial (fd := fnOf Tryz.f50) rfl (n := 60) (run50' x y)
theorem rfAll : ((List.range 17).all fun i => (List.range 17).all fun j => (brP ((i : Int) - 8) ((j : Int) - 8)).1 == (rfP ((i : Int) - 8) ((j : Int) - 8)).1 && (brP ((i : Int) - 8) ((j : Int) - 8)).2 == (rfP ((i : Int) - 8) ((j : Int) - 8)).2) = true := by kernel_rfl
def ckL (x y : Int) : Int := firstZ [withinZ x (-8) 8, withinZ y (-8) 8]
theorem withinZ_zero {n lo hi : Int} (h : withinZ n lo hi = 0) : lo ≤ n ∧ n ≤ hi := by
  unfold withinZ whenZ at h
  cases hx : (decide (n < lo) || decide (n > hi)) with
  | true => rw [hx] at h; cases h
  | false =>
    rw [Bool.or_eq_false_iff, decide_eq_false_iff_not, decide_eq_false_iff_not] at hx
    omega
theorem br_rf {x y : Int} : brP x y = bif ckL x y == 0 then rfP x y else (0, ckL x y) := by
  cases hc : (ckL x y == 0) with
  | true =>
    have hz : ckL x y = 0 := by simpa using hc
    unfold ckL firstZ firstZ at hz
    obtain ⟨h1, hz⟩ := first_zero hz
    obtain ⟨h2, _⟩ := first_zero hz
    obtain ⟨x1, x2⟩ := withinZ_zero h1
    obtain ⟨y1, y2⟩ := withinZ_zero h2
    have h := List.all_eq_true.1 rfAll (x + 8).toNat (List.mem_range.2 (by omega))
    have h := List.all_eq_true.1 h (y + 8).toNat (List.mem_range.2 (by omega))
    rw [show (((x + 8).toNat : Nat) : Int) - 8 = x by omega, show (((y + 8).toNat : Nat) : Int) - 8 = y by omega, Bool.and_eq_true, beq_iff_eq, beq_iff_eq] at h
    exact Prod.ext h.1 h.2
  | false =>
    have hne : ckL x y ≠ 0 := by simpa using hc
    have e : brE x y = ckL x y := by
      unfold brE ckL firstZ firstZ firstZ firstZ
      unfold ckL firstZ firstZ firstZ at hne
      cases h1 : (withinZ x (-8) 8 != 0) with
      | true => rfl
      | false =>
        rw [h1, cond_false] at hne
        cases h2 : (withinZ y (-8) 8 != 0) with
        | true => rfl
        | false => rw [h2] at hne; exact absurd rfl hne
    unfold brP bT
    rw [e, show (ckL x y != 0) = true by simpa using hne]
    rfl
def shortW (l : FL) : Bool := bif decide ((l.length : Int) ≤ 8) then true else ((l.length : Int) == 17)
theorem run41 (l : FL) : bodyK ((cfg w0).at []) 40 (fnOf Tryz.f41) [.vec fsK l] = bif decide ((l.length : Int) ≤ 8) then some (Bo true) else some (Bo ((l.length : Int) == 17)) := by kernel_rfl
def c41 : Ct := ct 41 [.v fsK] fun a => .leaf (Bo (shortW a.1))
theorem gd41 (h0 : Lib0 w0) : Gd (cfg w0) c41 := gd_k h0 (cs := []) trivial (fd := fnOf Tryz.f41) rfl (n := 40) fun a d hd => by
  obtain ⟨l, u⟩ := a
  cases hd
  refine (run41 l).trans ?_
  unfold shortW
  cases decide ((l.length : Int) ≤ 8) <;> rfl
theorem shortW_spec {l : FL} (h : shortW l = true) : smF l = true := by
  unfold shortW at h
  unfold smF
  rw [Nat.ble_eq]
  cases hd : decide ((l.length : Int) ≤ 8) with
  | true => have := of_decide_eq_true hd; omega
  | false =>
    rw [hd] at h
    have h : (l.length : Int) = 17 := by simpa using h
    omega
end
end Go.Proofs.YtifnpljmjhnbaaaGreatDoor

namespace Go.Proofs.YtifnpljmjhnbaaaGreatDoor
open Go Go.Am Go.RowKit
set_option maxRecDepth 100000
variable {w0 : World}
noncomputable section


def cs6 : List Ct := [c23, c41, c43, d42, d44, c45, c46, rangeC 47 (-8) 8, firstC 17, c48, c49, c50, c51]
def tail6 (T : LIx) (g : L4) (c : Int) (all : TLi) (m : L4) (p r : Int × Int) : Option D :=
  bif Nat.ble T.1.length 100000 then bif sameI T.1 all then bif T.2 == c then bif g.1 == m.1 then bif (g.2.1 == m.2.1 && (g.2.2.1 == m.2.2.1 && true)) then bif g.2.2.2 == c then bif p.1 == r.1 then bif p.2 == r.2 then some (Bo true)
    else some (Bo false) else some (Bo false) else some (Bo false) else some (Bo false) else some (Bo false) else some (Bo false) else some (Bo false) else none
def law6 (a b : FL) (x y : Int) : Option D :=
  bif !shortW a then some (Bo true) else bif !shortW b then some (Bo true) else bif smF a then bif smF b then bif smW a b then bif smF a then bif smF b then bif smW a b then bif smW a b then
    bif ckW2 a b == 0 then bif okW a b then bif eqF a b then bif okW a b then bif g49 a b then
      bif ckL x y == 0 then tail6 (cor42v a b) (lag44v a b) (ckW2 a b) (corL (a.map lvE) (b.map lvE)) (lagL (corL (a.map lvE) (b.map lvE))) (brP x y) (rfP x y) else tail6 (cor42v a b) (lag44v a b) (ckW2 a b) (corL (a.map lvE) (b.map lvE)) (lagL (corL (a.map lvE) (b.map lvE))) (brP x y) (0, ckL x y)
    else none else none else none else none
    else bif ckL x y == 0 then tail6 (cor42v a b) (lag44v a b) (ckW2 a b) [] (0, 0, 0, 0) (brP x y) (rfP x y) else tail6 (cor42v a b) (lag44v a b) (ckW2 a b) [] (0, 0, 0, 0) (brP x y) (0, ckL x y)
  else none else none else none else none else none else none else none
theorem run6 (a b : FL) (x y : Int) : bodyK ((cfg w0).at cs6) 60 (fnOf Tryz.f6) [.vec fsK a, .vec fsK b, .agg [I x, I y]] = law6 a b x y := by kernel_rfl
theorem sameI_refl (l : TLi) : sameI l l = true := decide_eq_true rfl
theorem tail6_ok {T : LIx} {g : L4} {c : Int} {m : L4} {p : Int × Int} (h : T.1.length ≤ 100000) (h2 : T.2 = c) (h3 : g.1 = m.1) (h4 : g.2.1 = m.2.1) (h5 : g.2.2.1 = m.2.2.1) (h6 : g.2.2.2 = c) : tail6 T g c T.1 m p p = some (Bo true) := by
  unfold tail6
  rw [(Nat.ble_eq ..).mpr h, sameI_refl, h2, h3, h4, h5, h6]
  simp only [beq_self_eq_true, Bool.and_self, cond_true]
theorem law6_true (a b : FL) (x y : Int) : law6 a b x y = some (Bo true) := by
  unfold law6
  cases ha : shortW a with
  | false => rfl
  | true =>
    cases hb : shortW b with
    | false => rfl
    | true =>
      have sa := shortW_spec ha
      have sb := shortW_spec hb
      have sab : smW a b = true := by unfold smW; rw [sa, sb]; rfl
      have key : ∀ {T : LIx} {g : L4} {c : Int} {m : L4}, T.1.length ≤ 100000 → T.2 = c → g.1 = m.1 → g.2.1 = m.2.1 → g.2.2.1 = m.2.2.1 → g.2.2.2 = c → (bif ckL x y == 0 then tail6 T g c T.1 m (brP x y) (rfP x y) else tail6 T g c T.1 m (brP x y) (0, ckL x y)) = some (Bo true) := fun h1 h2 h3 h4 h5 h6 => by
        have e := br_rf (x := x) (y := y)
        cases hl : (ckL x y == 0) with
        | true => rw [hl] at e; rw [e]; exact tail6_ok h1 h2 h3 h4 h5 h6
        | false => rw [hl] at e; rw [e]; exact tail6_ok h1 h2 h3 h4 h5 h6
      rw [sa, sb, sab]
      simp only [Bool.not_true, cond_false, cond_true]
      cases hc : (ckW2 a b == 0) with
      | false =>
        have hne : (ckW2 a b != 0) = true := by unfold bne; rw [hc]; rfl
        have e1 : cor42v a b = ([], ckW2 a b) := by unfold cor42v; rw [hne]; rfl
        have e2 : lag44v a b = (0, 0, 0, ckW2 a b) := by unfold lag44v; rw [hne]; rfl
        rw [cond_false, e1, e2]
        exact key (T := ([], ckW2 a b)) (by simp) rfl rfl rfl rfl rfl
      | true =>
        have hz : ckW2 a b = 0 := by simpa using hc
        have hne : (ckW2 a b != 0) = false := by unfold bne; rw [hc]; rfl
        obtain ⟨h1, h2, h16, h3⟩ := ckW2_ok hz
        have e1 : cor42v a b = (corL (a.map lvE) (b.map lvE), 0) := by unfold cor42v; rw [hne]; rfl
        have e2 : lag44v a b = lagL (corL (a.map lvE) (b.map lvE)) := by unfold lag44v; rw [hne]; rfl
        have eg : g49 a b = true := by unfold g49; rw [eqF_of h3, (Nat.ble_eq ..).mpr h2, (Nat.ble_eq ..).mpr h16]; rfl
        rw [cond_true, h1, eqF_of h3, eg, e1, e2, hz]
        exact key (T := (corL (a.map lvE) (b.map lvE), 0)) (by show (corL _ _).length ≤ _; rw [corL_len, List.length_map]; omega) rfl rfl rfl rfl rfl
theorem cs6_gd (h0 : Lib0 w0) : Gds (cfg w0) cs6 := ⟨gd23 h0, gd41 h0, gd43 h0, dd42 h0, dd44 h0, gd45 h0, gd46 h0, gd47 h0, gd17 h0, gd48 h0, gd49 h0, gd50 h0, gd51 h0, trivial⟩
theorem law6_fn (h0 : Lib0 w0) (a b : FL) (x y : Int) : FnD (cfg w0) 6 [.vec fsK a, .vec fsK b, .agg [I x, I y]] (Bo true) :=
  fnD_k (cfg_ok w0) h0 (cs := cs6) (cs6_gd h0) (fd := fnOf Tryz.f6) rfl (n := 60) ((run6 a b x y).trans (law6_true a b x y))
end
end Go.Proofs.YtifnpljmjhnbaaaGreatDoor
