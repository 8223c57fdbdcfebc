/-
  A part of the proof of the statement that the claim names: see the last file.
-/
import Derived.Test.YtifnpljmjhnbaaaGreatDoorL2
namespace Go.Proofs.YtifnpljmjhnbaaaGreatDoor
open Go Go.Am
set_option maxRecDepth 100000
variable {w0 : World}
noncomputable section


def rel113 : List (Nat × Cv) := [(0, .id), (4, .id), (3, .id)]
def st113 (l : TLi) (a : Int × Int) : List D := [.vec intK l, I a.1, I a.2]

theorem run43 (a : FL) : bodyK ((cfg w0).at []) 40 (fnOf Tryz.f43) [.vec fsK a] = bif (Nat.ble (([] ++ a).length * 4) 1000000000000 && Nat.ble ([] ++ a).length 1000000000000) then some (.vec fsK ([] ++ a)) else none := by kernel_rfl
theorem run43' (a : FL) (h : smF a = true) : bodyK ((cfg w0).at []) 40 (fnOf Tryz.f43) [.vec fsK a] = some (.vec fsK a) := by
  have := Nat.le_of_ble_eq_true h
  rw [run43, List.nil_append, (Nat.ble_eq ..).mpr (show a.length * 4 ≤ 1000000000000 by omega), (Nat.ble_eq ..).mpr (show a.length ≤ 1000000000000 by omega)]
  rfl
def c43 : Ct := ct 43 [.v fsK] fun a => .br (smF a.1) (.leaf (.vec fsK a.1)) .bad
theorem gd43 (h0 : Lib0 w0) : Gd (cfg w0) c43 := gd_sig fun a d hd => by
  obtain ⟨l, u⟩ := a
  obtain ⟨hg, hd⟩ := br_run hd
  cases hd
  exact fnD_k (cfg_ok w0) h0 (cs := []) trivial (fd := fnOf Tryz.f43) rfl (n := 40) (run43' l hg)
theorem run42 (a b : FL) : bodyK ((cfg w0).at [c111, c112]) 40 (fnOf Tryz.f42) [.vec fsK a, .vec fsK b] =
    bif okW a b then bif chkW2 a b != 0 then some (.tup [.val (.slice none 0 0), I (chkW2 a b)]) else bif okW a b then bif eqF a b then some (.tup [.vec intK (corL (a.map lvE) (b.map lvE)), I 0]) else none else none else none := by kernel_rfl
abbrev LIx := TLi × Int
def lixD (x : LIx) : D := .tup [.vec intK x.1, I x.2]
def cor42 (a b : FL) : LIx := bif chkW2 a b != 0 then ([], chkW2 a b) else (corL (a.map lvE) (b.map lvE), 0)
theorem chkW2_zero {a b : FL} (h : (chkW2 a b != 0) = false) : 2 ≤ a.length ∧ a.length ≤ 16 ∧ a.length = b.length := by
  have h : chkW2 a b = 0 := by simpa using h
  unfold chkW2 firstZ firstZ firstZ firstZ at h
  obtain ⟨h1, h⟩ := first_zero h
  obtain ⟨h2, h⟩ := first_zero h
  obtain ⟨h3, _⟩ := first_zero h
  unfold chkW firstZ firstZ firstZ at h1
  obtain ⟨k1, k⟩ := first_zero h1
  obtain ⟨k2, _⟩ := first_zero k
  have w : ∀ {b : Bool} {e : Int}, e ≠ 0 → whenZ b e = 0 → b = false := fun {b e} he hb => by cases b; rfl; exact absurd hb he
  have e1 := of_decide_eq_false (w (by decide) k1)
  have e2 := of_decide_eq_false (w (by decide) k2)
  have e3 := w (by decide) h3
  exact ⟨by omega, by omega, Int.ofNat.inj (by simpa using e3)⟩
theorem eqF_of {a b : FL} (h : a.length = b.length) : eqF a b = true := by unfold eqF; rw [Nat.beq_eq]; exact h
theorem fn42 (h0 : Lib0 w0) (a b : FL) (hg : okW a b = true) : FnD (cfg w0) 42 [.vec fsK a, .vec fsK b] (lixD (cor42 a b)) := by
  have hr := fun d h => fnD_k (d := d) (cfg_ok w0) h0 (cs := [c111, c112]) ⟨gd111 h0, gd112 h0, trivial⟩ (g := 42) (fd := fnOf Tryz.f42) rfl ((run42 a b).trans h)
  rw [hg] at hr
  unfold cor42
  cases hc : (chkW2 a b != 0) with
  | true => rw [hc] at hr; exact FnD.nil_vec (ks := intK) (vs := [iv (chkW2 a b)]) rfl (by decide) (hr _ rfl)
  | false =>
    obtain ⟨_, _, h3⟩ := chkW2_zero hc
    rw [hc, eqF_of h3] at hr
    exact hr _ rfl
def c42 : Ct := ct 42 [.v fsK, .v fsK] fun a => .br (okW a.1 a.2.1) (.leaf (lixD (cor42 a.1 a.2.1))) .bad
theorem gd42 (h0 : Lib0 w0) : Gd (cfg w0) c42 := gd_sig fun a d hd => by
  obtain ⟨a, b, u⟩ := a
  obtain ⟨hg, hd⟩ := br_run hd
  cases hd
  exact fn42 h0 a b hg


def mxx (x m : Int) : Int := if x > m then x else m
theorem round113 (l : TLi) (i m : Int) : rndD ((cfg w0).at []) 40 [] 40 (fnOf Tryz.f113).ntmps rel113 (lpB 0 (fnOf Tryz.f113).body) (st113 l (i, m)) =
    bif decide (i < l.length) then bif inO l i then some ([], .normal, st113 l (W (i + 1), mxx (i1 (nth l i.toNat)) m)) else none else some ([], .exit 0, st113 l (i, m)) := by kernel_rfl
theorem body113 (l : TLi) (p : Int × Int) : bodyT ((cfg w0).at []) 40 [ldP 0 (fnOf Tryz.f113).ntmps rel113 .normal (st113 l p)] 40 (fnOf Tryz.f113) [.vec intK l] =
    bif decide ((l.length : Int) < 1) then none else bif inO l 0 then some ([(ldP 0 (fnOf Tryz.f113).ntmps rel113 .normal (st113 l p), .loop (lpB 0 (fnOf Tryz.f113).body), st113 l (1, i1 (nth l (Int.toNat 0))))], I p.2) else none := by kernel_rfl
def mxL (l : TLi) : Int := (List.range' 1 (l.length - 1)).foldl (fun m (i : Nat) => mxx (i1 (nth l i)) m) (i1 (nth l 0))
def g113 (l : TLi) : Bool := Nat.ble 1 l.length && Nat.ble l.length 100000
theorem fn113 (h0 : Lib0 w0) (l : TLi) (hg : g113 l = true) : FnD (cfg w0) 113 [.vec intK l] (I (mxL l)) := by
  unfold g113 at hg
  rw [Bool.and_eq_true, Nat.ble_eq, Nat.ble_eq] at hg
  obtain ⟨h1, h2⟩ := hg
  have hx : rgRun 0 (fun (i : Nat) (m : Int) => (X.normal, mxx (i1 (nth l i)) m)) (l.length - 1) 1 (i1 (nth l 0)) = (.exit 0, (((1 + (l.length - 1) : Nat) : Int), mxL l)) :=
    rgRun_fold (h := fun (i : Nat) m => mxx (i1 (nth l i)) m) 0 (l.length - 1) 1 _ (fun _ _ _ _ => rfl)
  have hld := ldT_rgs (at_ok (cfg_ok w0) []) (at_sp h0 (cs := []) trivial) (N := (fnOf Tryz.f113).ntmps) (rel := rel113) (B := lpB 0 (fnOf Tryz.f113).body) (id := 0) (k := l.length) (by omega) (st113 l) _ (fun _ _ => True)
    (fun i m hi _ => .leaf (by rw [round113, lt_t hi, inO_nat hi, Int.toNat_natCast]; rfl)) (fun _ _ _ _ _ _ => trivial)
    (fun m _ => .leaf (by rw [round113, ge_f]; rfl)) (i0 := 1) h1 (a0 := i1 (nth l 0)) trivial hx
  have hb := body113 (w0 := w0) l (((1 + (l.length - 1) : Nat) : Int), mxL l)
  rw [decide_eq_false (show ¬ (l.length : Int) < 1 by omega), show inO l 0 = true from inO_nat (j := 0) (by omega)] at hb
  exact fnD_lp (cfg_ok w0) h0 (cs := []) trivial (g := 113) (fd := fnOf Tryz.f113) rfl hb hld
def c113 : Ct := ct 113 [.v intK] fun a => .br (g113 a.1) (.leaf (I (mxL a.1))) .bad
theorem gd113 (h0 : Lib0 w0) : Gd (cfg w0) c113 := gd_sig fun a d hd => by
  obtain ⟨l, u⟩ := a
  obtain ⟨hg, hd⟩ := br_run hd
  cases hd
  exact fn113 h0 l hg


def cs44 : List Ct := [c111, c112, c113, c114]
def rel44 : List (Nat × Cv) := [(8, .sv intK), (23, .sv intK), (24, .id), (25, .id), (9, .id), (5, .id)]
def st44 (l : TLi) (a : Int × Int) : List D := [.vec intK l, .vec intK l, I l.length, I a.1, I a.2, .obox [I 0, I 0]]
def P1 (l : TLi) (p : Int) : TLi := List.take (p.toNat - Int.toNat 0) (List.drop (0 + Int.toNat 0) l)
def P2 (l : TLi) (p : Int) : TLi := List.take (((l.length : Nat) : Int).toNat - (IntKind.i64.wrap (p + 1)).toNat) (List.drop (0 + (IntKind.i64.wrap (p + 1)).toNat) l)
theorem round44 (l : TLi) (d a : Int) : rndD ((cfg w0).at cs44) 40 [] 40 (fnOf Tryz.f44).ntmps rel44 (lpB 0 (fnOf Tryz.f44).body) (st44 l (d, a)) =
    bif decide (d < l.length) then bif inO l d then bif inO l a then bif decide (i1 (nth l d.toNat) > i1 (nth l a.toNat)) then some ([], .normal, st44 l (W (d + 1), d)) else some ([], .normal, st44 l (W (d + 1), a)) else none else none
    else some ([], .exit 0, st44 l (d, a)) := by kernel_rfl
def o44 (l : TLi) (p : Int × Int) : Obs := [(ldP 0 (fnOf Tryz.f44).ntmps rel44 .normal (st44 l p), .loop (lpB 0 (fnOf Tryz.f44).body), st44 l (0, 0))]
def t44 (l : TLi) (p : Int × Int) : Option (Obs × D) :=
  bif inO l p.2 then bif (decide ((0 : Int) ≤ 0) && (decide (0 ≤ p.2) && decide (p.2 ≤ l.length))) then
    bif (decide (0 ≤ IntKind.i64.wrap (p.2 + 1)) && (decide (IntKind.i64.wrap (p.2 + 1) ≤ l.length) && decide ((l.length : Int) ≤ l.length))) then
      bif Nat.ble ((P1 l p.2).length + (P2 l p.2).length) 100000 then bif g113 (P1 l p.2 ++ P2 l p.2) then
        bif decide (IntKind.i64.wrap (2 * p.2) > l.length) then some (o44 l p, .tup [I (IntKind.i64.wrap (p.2 - l.length)), .agg [I (i1 (nth l p.2.toNat)), I (mxL (P1 l p.2 ++ P2 l p.2))], I 0])
        else some (o44 l p, .tup [I p.2, .agg [I (i1 (nth l p.2.toNat)), I (mxL (P1 l p.2 ++ P2 l p.2))], I 0])
      else none else none
    else none else none else none
theorem body44 (a b : FL) (p : Int × Int) : bodyT ((cfg w0).at cs44) 40 [ldP 0 (fnOf Tryz.f44).ntmps rel44 .normal (st44 (corL (a.map lvE) (b.map lvE)) p)] 40 (fnOf Tryz.f44) [.vec fsK a, .vec fsK b] =
    bif okW a b then bif chkW2 a b != 0 then some ([], .tup [I 0, .agg [I 0, I 0], I (chkW2 a b)]) else bif okW a b then bif eqF a b then t44 (corL (a.map lvE) (b.map lvE)) p else none else none else none := by kernel_rfl
def stM (l : TLi) (d a : Nat) : Nat := bif decide (i1 (nth l d) > i1 (nth l a)) then d else a
def atM (l : TLi) : Nat := (List.range' 0 l.length).foldl (fun a d => stM l d a) 0
theorem atM_lt {l : TLi} (h : 0 < l.length) : atM l < l.length := by
  unfold atM
  have : ∀ (L : List Nat) (a : Nat), a < l.length → (∀ d ∈ L, d < l.length) → L.foldl (fun a d => stM l d a) a < l.length := fun L => by
    induction L with
    | nil => intro a ha _; exact ha
    | cons d L ih =>
      intro a ha hL
      rw [List.foldl_cons]
      refine ih _ ?_ fun x hx => hL x (by simp [hx])
      unfold stM
      cases decide (i1 (nth l d) > i1 (nth l a))
      · exact ha
      · exact hL d (by simp)
  exact this _ 0 h fun d hd => by rw [List.mem_range'_1] at hd; omega
def oth (l : TLi) (a : Nat) : TLi := l.take a ++ l.drop (a + 1)
abbrev L4 := Int × Int × Int × Int
def lagD (x : L4) : D := .tup [I x.1, .agg [I x.2.1, I x.2.2.1], I x.2.2.2]
def lagL (l : TLi) : L4 := (bif decide (2 * (atM l : Int) > l.length) then (atM l : Int) - l.length else atM l, i1 (nth l (atM l)), mxL (oth l (atM l)), 0)
def lag44 (a b : FL) : L4 := bif chkW2 a b != 0 then (0, 0, 0, chkW2 a b) else lagL (corL (a.map lvE) (b.map lvE))
theorem corL_len (x y : TLi) : (corL x y).length = x.length := by unfold corL; rw [List.length_map, List.length_range']
theorem t44_eq {l : TLi} (h1 : 2 ≤ l.length) (h2 : l.length ≤ 16) (d : Int) : t44 l (d, (atM l : Int)) = some (o44 l (d, (atM l : Int)), lagD (lagL l)) := by
  have ha := atM_lt (l := l) (by omega)
  have e1 : P1 l (atM l : Int) = l.take (atM l) := by unfold P1; simp
  have e2 : P2 l (atM l : Int) = l.drop (atM l + 1) := by
    unfold P2
    rw [W_id (by omega) (by omega), show ((atM l : Int) + 1).toNat = atM l + 1 by omega, Int.toNat_natCast, Nat.zero_add]
    exact List.take_of_length_le (by rw [List.length_drop]; omega)
  unfold t44 lagD lagL
  simp only
  rw [inO_nat ha, e1, e2, W_id (n := (atM l : Int) + 1) (by omega) (by omega), W_id (n := 2 * (atM l : Int)) (by omega) (by omega), W_id (n := (atM l : Int) - l.length) (by omega) (by omega), Int.toNat_natCast,
    decide_eq_true (show (0 : Int) ≤ 0 by omega), decide_eq_true (show 0 ≤ (atM l : Int) by omega), decide_eq_true (show (atM l : Int) ≤ l.length by omega), decide_eq_true (show 0 ≤ (atM l : Int) + 1 by omega), decide_eq_true (show (atM l : Int) + 1 ≤ l.length by omega), decide_eq_true (show (l.length : Int) ≤ l.length by omega)]
  have hg : g113 (l.take (atM l) ++ l.drop (atM l + 1)) = true := by
    unfold g113
    rw [Bool.and_eq_true, Nat.ble_eq, Nat.ble_eq, List.length_append, List.length_take, List.length_drop]
    omega
  have hs : Nat.ble ((l.take (atM l)).length + (l.drop (atM l + 1)).length) 100000 = true := by
    rw [Nat.ble_eq, List.length_take, List.length_drop]
    omega
  rw [hg, hs]
  unfold oth
  cases decide (2 * (atM l : Int) > l.length) <;> rfl
theorem fn44 (h0 : Lib0 w0) (a b : FL) (hg : okW a b = true) : FnD (cfg w0) 44 [.vec fsK a, .vec fsK b] (lagD (lag44 a b)) := by
  have hcs : Gds (cfg w0) cs44 := ⟨gd111 h0, gd112 h0, gd113 h0, gd114 h0, trivial⟩
  unfold lag44
  cases hc : (chkW2 a b != 0) with
  | true =>
    have hb := body44 (w0 := w0) a b (0, 0)
    rw [hg, hc] at hb
    exact fnD_t (cfg_ok w0) h0 hcs (fd := fnOf Tryz.f44) rfl hb trivial
  | false =>
    obtain ⟨h2, h16, he⟩ := chkW2_zero hc
    have hlen : (corL (a.map lvE) (b.map lvE)).length = a.length := by rw [corL_len, List.length_map]
    have hb := fun d : Int => body44 (w0 := w0) a b (d, (atM (corL (a.map lvE) (b.map lvE)) : Int))
    generalize corL (a.map lvE) (b.map lvE) = l at hlen hb
    have hx : rgRun 0 (fun (d : Nat) (a : Nat) => (X.normal, stM l d a)) l.length 0 0 = (.exit 0, (((0 + l.length : Nat) : Int), atM l)) :=
      rgRun_fold (h := fun (d : Nat) a => stM l d a) 0 l.length 0 _ (fun _ _ _ _ => rfl)
    have hld := ldT_rg (at_ok (cfg_ok w0) cs44) (at_sp h0 hcs) (N := (fnOf Tryz.f44).ntmps) (rel := rel44) (B := lpB 0 (fnOf Tryz.f44).body) (id := 0) (k := l.length) (by omega) (fun p : Int × Nat => st44 l (p.1, (p.2 : Int))) _ (fun _ a => a < l.length)
      (fun d a hd ha => .leaf (by
        refine (round44 l (d : Int) (a : Int)).trans ?_
        rw [lt_t hd, inO_nat hd, inO_nat ha, Int.toNat_natCast, Int.toNat_natCast]
        unfold stM
        cases decide (i1 (nth l d) > i1 (nth l a)) <;> rfl)) (fun d a a' hd ha h => by
        cases h
        unfold stM
        cases decide (i1 (nth l d) > i1 (nth l a))
        · exact ha
        · exact hd)
      (fun a _ => .leaf ((round44 l _ (a : Int)).trans (by rw [ge_f]; rfl))) (a0 := 0) (by omega) hx
    have hb := hb (((0 + l.length : Nat) : Int))
    rw [hg, hc, eqF_of he, t44_eq (by omega) (by omega)] at hb
    exact fnD_lp (cfg_ok w0) h0 hcs (g := 44) (fd := fnOf Tryz.f44) rfl hb hld
def c44 : Ct := ct 44 [.v fsK, .v fsK] fun a => .br (okW a.1 a.2.1) (.leaf (lagD (lag44 a.1 a.2.1))) .bad
theorem gd44 (h0 : Lib0 w0) : Gd (cfg w0) c44 := gd_sig fun a d hd => by
  obtain ⟨a, b, u⟩ := a
  obtain ⟨hg, hd⟩ := br_run hd
  cases hd
  exact fn44 h0 a b hg
end
end Go.Proofs.YtifnpljmjhnbaaaGreatDoor

namespace Go.Proofs.YtifnpljmjhnbaaaGreatDoor
open Go Go.Am
set_option maxRecDepth 100000
variable {w0 : World}
noncomputable section


def brE (x y : Int) : Int := firstZ [withinZ x (-8) 8, withinZ y (-8) 8, whenZ (x == 0 && (y == 0 && true)) 6]
section
variable {α : Type} (mk : Int → Int → α)
def bS (x y t : Int) (r : α) : α := bif decide (x > 0) then bif decide (y > 0) then bif decide (IntKind.i64.wrap (2 * x) ≥ y) then mk (IntKind.i64.wrap (t + 1)) 0 else r else r else r
def bR (x y t : Int) (r : α) : α := bif decide (x > 0) then bif decide (IntKind.i64.wrap (2 * (if IntKind.i64.wrap (0 - y) > y then IntKind.i64.wrap (0 - y) else y)) < x) then mk t 0 else bS mk x y t r else bS mk x y t r
def tn (x : Int) : Int := IntKind.i64.wrap (0 - x)
def t2 (t : Int) : Int := IntKind.i64.wrap (t + 2)
def bT (x y : Int) : α := bif brE x y != 0 then mk 0 (brE x y) else
  bR mk x y 0 (bR mk y (tn x) (t2 0) (bR mk (tn x) (tn y) (t2 (t2 0)) (bR mk (tn y) (tn (tn x)) (t2 (t2 (t2 0))) (mk 0 6))))
variable {β : Type} (f : α → β)
theorem bS_nat (x y t : Int) (r : α) : f (bS mk x y t r) = bS (fun a b => f (mk a b)) x y t (f r) := by
  unfold bS
  cases decide (x > 0) <;> cases decide (y > 0) <;> cases decide (IntKind.i64.wrap (2 * x) ≥ y) <;> rfl
theorem bR_nat (x y t : Int) (r : α) : f (bR mk x y t r) = bR (fun a b => f (mk a b)) x y t (f r) := by
  unfold bR
  rw [← bS_nat]
  cases decide (x > 0) <;> cases decide (IntKind.i64.wrap (2 * (if IntKind.i64.wrap (0 - y) > y then IntKind.i64.wrap (0 - y) else y)) < x) <;> rfl
theorem bT_nat (x y : Int) : f (bT mk x y) = bT (fun a b => f (mk a b)) x y := by
  unfold bT
  rw [← bR_nat, ← bR_nat, ← bR_nat, ← bR_nat]
  cases (brE x y != 0) <;> rfl
end
def brD (p : Int × Int) : D := .tup [I p.1, I p.2]
def brP (x y : Int) : Int × Int := bT Prod.mk x y
theorem run45 (x y : Int) : bodyK ((cfg w0).at [whenC 104, firstC 84, withinC 85]) 60 (fnOf Tryz.f45) [I x, I y] = bT (fun a b => some (.tup [I a, I b])) x y := by kernel_rfl
theorem run45' (x y : Int) : bodyK ((cfg w0).at [whenC 104, firstC 84, withinC 85]) 60 (fnOf Tryz.f45) [I x, I y] = some (brD (brP x y)) := by
  rw [run45]
  exact (bT_nat Prod.mk (fun p => some (brD p)) x y).symm
def c45 : Ct := ct 45 [.c ik, .c ik] fun a => .leaf (brD (brP a.1 a.2.1))
theorem gd45 (h0 : Lib0 w0) : Gd (cfg w0) c45 := gd_sig fun a d hd => by
  obtain ⟨x, y, u⟩ := a
  cases hd
  exact fnD_k (cfg_ok w0) h0 (cs := [whenC 104, firstC 84, withinC 85]) ⟨gd104 h0, gd84 h0, gd85 h0, trivial⟩ (fd := fnOf Tryz.f45) rfl (n := 60) (run45' x y)
def brOk (x y : Int) : Bool :=
  bif x == 0 && y == 0 then (brP x y).2 == 6 && ((brP (-x) (-y)).2 == 6 && (brP (-y) x).2 == 6)
  else (brP x y).2 == 0 && ((brP (-x) (-y)).2 == 0 && ((brP (-y) x).2 == 0 && (decide (0 ≤ (brP x y).1) && (decide ((brP x y).1 < 8) && ((brP (-x) (-y)).1 == ((brP x y).1 + 4).tmod 8 && (brP (-y) x).1 == ((brP x y).1 + 2).tmod 8)))))
theorem brAll : ((List.range 17).all fun i => (List.range 17).all fun j => brOk ((i : Int) - 8) ((j : Int) - 8)) = true := by kernel_rfl
theorem brOk_all {x y : Int} (x1 : -8 ≤ x) (x2 : x ≤ 8) (y1 : -8 ≤ y) (y2 : y ≤ 8) : brOk x y = true := by
  have h := List.all_eq_true.1 brAll (x + 8).toNat (List.mem_range.2 (by omega))
  have h := List.all_eq_true.1 h (y + 8).toNat (List.mem_range.2 (by omega))
  rwa [show (((x + 8).toNat : Nat) : Int) - 8 = x by omega, show (((y + 8).toNat : Nat) : Int) - 8 = y by omega] at h
end
end Go.Proofs.YtifnpljmjhnbaaaGreatDoor
