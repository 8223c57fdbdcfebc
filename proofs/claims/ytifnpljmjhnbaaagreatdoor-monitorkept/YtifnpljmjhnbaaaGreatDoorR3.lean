/-
  A part of the proof of the statement that the claim names: see the last file.
-/
import Derived.Test.YtifnpljmjhnbaaaGreatDoorR2
namespace Go.Proofs.YtifnpljmjhnbaaaGreatDoor
open Go Go.Am
set_option maxRecDepth 100000
variable {w0 : World}
noncomputable section


def rel32a : List (Nat × Cv) := [(0, .id), (1, .id), (7, .id), (6, .id), (4, .id), (5, .id)]
def st32a (l : List (Tup intK)) (pc : Int) (p : Int × Int) : List D := [.vec intK l, I pc, I p.1, I p.2, I 0, I 0]
def rel32c : List (Nat × Cv) := [(0, .id), (1, .id), (6, .id), (8, .id), (10, .id), (9, .id), (4, .id), (5, .id)]
def st32c (l : List (Tup intK)) (pc n i : Int) (r : Int × Int) (p : Int × Int) : List D := [.vec intK l, I pc, I n, I i, I p.1, I p.2, I r.1, I r.2]
def rel32b : List (Nat × Cv) := [(0, .id), (1, .id), (6, .id), (8, .id), (4, .id), (5, .id)]
def st32b (l : List (Tup intK)) (pc n : Int) (p : Int × Int × Int) : List D := [.vec intK l, I pc, I n, I p.1, I p.2.1, I p.2.2]
def ld32a (l : List (Tup intK)) (pc : Int) (p : Int × Int) : Ld := ldP 0 (fnOf Tryz.f32).ntmps rel32a .normal (st32a l pc p)
def ld32c (l : List (Tup intK)) (pc n i : Int) (r : Int × Int) (p : Int × Int) : Ld := ldP 4 (fnOf Tryz.f32).ntmps rel32c .normal (st32c l pc n i r p)
def ld32b (l : List (Tup intK)) (pc n : Int) (x : X) (p : Int × Int × Int) : Ld := ldP 2 (fnOf Tryz.f32).ntmps rel32b x (st32b l pc n p)
def tgt (n pc : Int) : Int := IntKind.i64.wrap (IntKind.i64.wrap ((IntKind.i64.wrap (IntKind.i64.wrap (n * pc) + 99)).tdiv 100) - 1)
theorem round32a (l : List (Tup intK)) (pc j n : Int) : rndD ((cfg w0).at []) 40 [] 40 (fnOf Tryz.f32).ntmps rel32a (lpB 0 (fnOf Tryz.f32).body) (st32a l pc (j, n)) =
    bif decide (j < l.length) then bif inO l j then
      bif i1 (nth l j.toNat) != -1 then some ([], .normal, st32a l pc (W (j + 1), IntKind.i64.wrap (n + 1))) else some ([], .normal, st32a l pc (W (j + 1), n))
    else none else some ([], .exit 0, st32a l pc (j, n)) := by kernel_rfl
theorem round32c (l : List (Tup intK)) (pc n i k b : Int) (r : Int × Int) : rndD ((cfg w0).at []) 40 [] 40 (fnOf Tryz.f32).ntmps rel32c (lpB 4 (fnOf Tryz.f32).body) (st32c l pc n i r (k, b)) =
    bif decide (k < l.length) then bif inO l k then bif inO l i then
      bif decide (i1 (nth l k.toNat) > i1 (nth l (i.toNat + 0))) then some ([], .normal, st32c l pc n i r (W (k + 1), IntKind.i64.wrap (b + 1))) else
      bif inO l k then bif inO l i then
        bif i1 (nth l k.toNat) == i1 (nth l (i.toNat + 0)) then bif decide (k < i) then some ([], .normal, st32c l pc n i r (W (k + 1), IntKind.i64.wrap (b + 1))) else some ([], .normal, st32c l pc n i r (W (k + 1), b))
        else some ([], .normal, st32c l pc n i r (W (k + 1), b))
      else none else none
    else none else none else some ([], .exit 4, st32c l pc n i r (k, b)) := by kernel_rfl
theorem round32b (l : List (Tup intK)) (pc n i k b : Int) (r : Int × Int) : rndD ((cfg w0).at []) 40 [ld32c l pc n i r (k, b)] 40 (fnOf Tryz.f32).ntmps rel32b (lpB 2 (fnOf Tryz.f32).body) (st32b l pc n (i, r)) =
    bif decide (i < l.length) then bif inO l i then
      bif i1 (nth l i.toNat) != -1 then
        bif b == tgt n pc then bif inO l i then some ([(ld32c l pc n i r (k, b), .loop (lpB 4 (fnOf Tryz.f32).body), st32c l pc n i r (0, 0))], .ret, st32b l pc n (i, i1 (nth l i.toNat), 0)) else none
        else some ([(ld32c l pc n i r (k, b), .loop (lpB 4 (fnOf Tryz.f32).body), st32c l pc n i r (0, 0))], .normal, st32b l pc n (W (i + 1), r))
      else some ([(ld32c l pc n i r (k, b), .loop (lpB 4 (fnOf Tryz.f32).body), st32c l pc n i r (0, 0))], .normal, st32b l pc n (W (i + 1), r))
    else none else some ([], .exit 2, st32b l pc n (i, r)) := by kernel_rfl
theorem body32 (l : List (Tup intK)) (pc k n : Int) (x : X) (p : Int × Int × Int) (hx : x = .ret ∨ x = .normal) : bodyT ((cfg w0).at []) 40 [ld32a l pc (k, n), ld32b l pc n x p] 40 (fnOf Tryz.f32) [.vec intK l, I pc] =
    bif n == 0 then some ([(ld32a l pc (k, n), .loop (lpB 0 (fnOf Tryz.f32).body), st32a l pc (0, 0))], .tup [I 0, I 7]) else
      some ([(ld32b l pc n x p, .loop (lpB 2 (fnOf Tryz.f32).body), st32b l pc n (0, 0, 0)), (ld32a l pc (k, n), .loop (lpB 0 (fnOf Tryz.f32).body), st32a l pc (0, 0))], onX x (.tup [I p.2.1, I p.2.2]) (.tup [I 0, I 0])) := by
  rcases hx with rfl | rfl <;> kernel_rfl

def cntK (l : List (Tup intK)) : Int := l.foldl (fun n x => bif i1 x != -1 then IntKind.i64.wrap (n + 1) else n) 0
def befB (l : List (Tup intK)) (i k : Nat) : Bool := decide (i1 (nth l k) > i1 (nth l i)) || (i1 (nth l k) == i1 (nth l i) && decide (k < i))
def befZ (l : List (Tup intK)) (i : Nat) : Int := (List.range' 0 l.length).foldl (fun b k => bif befB l i k then IntKind.i64.wrap (b + 1) else b) 0
def isK (l : List (Tup intK)) (t : Int) (i : Nat) : Bool := i1 (nth l i) != -1 && befZ l i == t
def bg32 (l : List (Tup intK)) (pc : Int) : Int × Int := bif cntK l == 0 then (0, 7) else
  match fnd (isK l (tgt (cntK l) pc)) l.length 0 with
  | some q => (i1 (nth l q), 0)
  | none => (0, 0)
theorem rgRun_fndv {β : Type} {id : Nat} {p : Nat → Bool} {v : Nat → β} : ∀ (f i : Nat) (a : β), rgRun id (fun j (a : β) => bif p j then (X.ret, v j) else (.normal, a)) f i a = match fnd p f i with
    | some q => (.ret, ((q : Int), v q))
    | none => (.exit id, (((i + f : Nat) : Int), a))
  | 0, i, a => rfl
  | f + 1, i, a => by
    unfold rgRun fnd
    cases hp : p i with
    | true => rfl
    | false =>
      simp only [cond_false]
      rw [rgRun_fndv f (i + 1) a, show i + 1 + f = i + (f + 1) by omega]
theorem fn32 (h0 : Lib0 w0) (l : List (Tup intK)) (pc : Int) (hl : l.length ≤ 100000) : FnD (cfg w0) 32 [.vec intK l, I pc] (.tup [I (bg32 l pc).1, I (bg32 l pc).2]) := by
  have ok := at_ok (cfg_ok w0) []
  have sp := at_sp h0 (cs := []) trivial
  have la : LdT ((cfg w0).at []) (ld32a l pc (l.length, cntK l)) (.loop (lpB 0 (fnOf Tryz.f32).body)) (st32a l pc (0, 0)) := by
    have hx : lsRun 0 (fun (x : Tup intK) n => (X.normal, bif i1 x != -1 then IntKind.i64.wrap (n + 1) else n)) l 0 (0 : Int) = (.exit 0, (((0 + l.length : Nat) : Int), cntK l)) :=
      lsRun_fold (h := fun x n => bif i1 x != -1 then IntKind.i64.wrap (n + 1) else n) 0 l 0 0 (fun _ _ _ => rfl)
    rw [Nat.zero_add] at hx
    exact ldT_ls ok sp (N := (fnOf Tryz.f32).ntmps) (rel := rel32a) (B := lpB 0 (fnOf Tryz.f32).body) (id := 0) l (by omega) (st32a l pc) _ (fun _ _ => True)
      (fun j a hj _ => .leaf (by
        rw [round32a, inO_nat hj, lt_t hj, Int.toNat_natCast]
        cases (i1 (nth l j) != -1) <;> rfl)) (fun _ _ _ _ _ _ => trivial)
      (fun a _ => .leaf (by rw [round32a, ge_f]; rfl)) trivial hx
  have lc : ∀ (n : Int) (i : Nat) (r : Int × Int), i < l.length → LdT ((cfg w0).at []) (ld32c l pc n i r (l.length, befZ l i)) (.loop (lpB 4 (fnOf Tryz.f32).body)) (st32c l pc n i r (0, 0)) := fun n i r hi => by
    have hx : rgRun 4 (fun (k : Nat) b => (X.normal, bif befB l i k then IntKind.i64.wrap (b + 1) else b)) l.length 0 (0 : Int) = (.exit 4, (((0 + l.length : Nat) : Int), befZ l i)) := rgRun_fold 4 (h := fun (k : Nat) b => bif befB l i k then IntKind.i64.wrap (b + 1) else b) _ _ _ (fun _ _ _ _ => rfl)
    rw [Nat.zero_add] at hx
    exact ldT_rg ok sp (N := (fnOf Tryz.f32).ntmps) (rel := rel32c) (B := lpB 4 (fnOf Tryz.f32).body) (id := 4) (k := l.length) (by omega) (st32c l pc n i r) _ (fun _ _ => True)
      (fun k b hk _ => .leaf (by
        rw [round32c, inO_nat hk, inO_nat hi, lt_t hk, Int.toNat_natCast, Int.toNat_natCast, Nat.add_zero]
        unfold befB
        have e : decide ((k : Int) < (i : Int)) = decide (k < i) := by simp
        rw [e]
        cases decide (i1 (nth l k) > i1 (nth l i))
        · cases (i1 (nth l k) == i1 (nth l i))
          · rfl
          · cases decide (k < i) <;> rfl
        · rfl)) (fun _ _ _ _ _ _ => trivial)
      (fun b _ => .leaf (by rw [round32c, ge_f]; rfl)) (a0 := 0) trivial hx
  have lb : ∀ (n : Int) (x : X) (p : Int × Int × Int), rgRun 2 (fun (i : Nat) (a : Int × Int) => bif isK l (tgt n pc) i then (X.ret, (i1 (nth l i), (0 : Int))) else (.normal, a)) l.length 0 (0, 0) = (x, p) →
      LdT ((cfg w0).at []) (ld32b l pc n (outX 2 x) p) (.loop (lpB 2 (fnOf Tryz.f32).body)) (st32b l pc n (0, 0, 0)) := fun n x p hx =>
    ldT_rg ok sp (N := (fnOf Tryz.f32).ntmps) (rel := rel32b) (B := lpB 2 (fnOf Tryz.f32).body) (id := 2) (k := l.length) (by omega) (st32b l pc n) _ (fun _ _ => True)
      (fun i r hi _ => by
        have hrd := round32b (w0 := w0) l pc n i l.length (befZ l i) r
        rw [inO_nat hi, lt_t hi, Int.toNat_natCast] at hrd
        unfold isK
        cases h1 : (i1 (nth l i) != -1) with
        | false => rw [h1] at hrd; exact .one hrd (lc n i r hi)
        | true =>
          rw [h1] at hrd
          cases h2 : (befZ l i == tgt n pc) with
          | false => rw [h2] at hrd; exact .one hrd (lc n i r hi)
          | true => rw [h2] at hrd; exact .one hrd (lc n i r hi)) (fun _ _ _ _ _ _ => trivial)
      (fun b _ => by
        have hrd := round32b (w0 := w0) l pc n l.length 0 0 b
        rw [ge_f] at hrd
        exact .leaf hrd) (a0 := (0, 0)) trivial hx
  unfold bg32
  cases hn : (cntK l == 0) with
  | true =>
    have hb := body32 (w0 := w0) l pc l.length (cntK l) .normal (0, 0, 0) (.inr rfl)
    rw [hn, cond_true] at hb
    exact fnD_t (cfg_ok w0) h0 (cs := []) trivial (fd := fnOf Tryz.f32) rfl hb (by exact ⟨la, trivial⟩)
  | false =>
    have hx := rgRun_fndv (id := 2) (p := isK l (tgt (cntK l) pc)) (v := fun i => (i1 (nth l i), (0 : Int))) l.length 0 (0, 0)
    simp only [cond_false]
    cases hf : fnd (isK l (tgt (cntK l) pc)) l.length 0 with
    | none =>
      rw [hf] at hx
      have hb := body32 (w0 := w0) l pc l.length (cntK l) .normal (((0 + l.length : Nat) : Int), 0, 0) (.inr rfl)
      rw [hn, cond_false] at hb
      exact fnD_t (cfg_ok w0) h0 (cs := []) trivial (fd := fnOf Tryz.f32) rfl hb (by exact ⟨lb (cntK l) _ _ hx, la, trivial⟩)
    | some q =>
      rw [hf] at hx
      have hb := body32 (w0 := w0) l pc l.length (cntK l) .ret ((q : Int), i1 (nth l q), 0) (.inl rfl)
      rw [hn, cond_false] at hb
      exact fnD_t (cfg_ok w0) h0 (cs := []) trivial (fd := fnOf Tryz.f32) rfl hb (by exact ⟨lb (cntK l) _ _ hx, la, trivial⟩)
def c32 : Ct := ct 32 [.v intK, .c ik] fun a => .br (sm a.1) (.leaf (.tup [I (bg32 a.1 a.2.1).1, I (bg32 a.1 a.2.1).2])) .bad
theorem gd32 (h0 : Lib0 w0) : Gd (cfg w0) c32 := gd_sig fun a d hd => by
  obtain ⟨hg, hd⟩ := br_run hd
  cases hd
  exact fn32 h0 a.1 a.2.1 (sm_le hg)
end
end Go.Proofs.YtifnpljmjhnbaaaGreatDoor

namespace Go.Proofs.YtifnpljmjhnbaaaGreatDoor
open Go Go.Am
set_option maxRecDepth 100000
variable {w0 : World}
noncomputable section


def q2 (x : Tup IvK) : Int × Int := (v1 x, v2 x)
theorem q2_inj {x y : Tup IvK} (h : q2 x = q2 y) : x = y := by
  obtain ⟨a, b, u⟩ := x
  obtain ⟨c, d, v⟩ := y
  cases h; rfl
def sameV (a b : List (Tup IvK)) : Bool := decide (a.map q2 = b.map q2)
def neV (x y : Tup IvK) : Bool := !((v1 x == v1 y) && ((v2 x == v2 y) && true))
theorem neV_iff (x y : Tup IvK) : neV x y = true ↔ q2 x ≠ q2 y := by
  unfold neV q2
  simp only [Bool.and_true, Bool.not_eq_true', Bool.and_eq_false_iff, beq_eq_false_iff_ne, ne_eq, Prod.mk.injEq]
  by_cases h : v1 x = v1 y <;> simp [h]
theorem sameV_any {a b : List (Tup IvK)} (h : a.length = b.length) : (List.range' 0 a.length).any (fun j => neV (nth a j) (nth b j)) = !sameV a b := by
  unfold sameV
  rw [Bool.eq_iff_iff, List.any_eq_true]
  simp only [List.mem_range'_1, neV_iff, Bool.not_eq_true', decide_eq_false_iff_not]
  constructor
  · rintro ⟨j, ⟨_, hj⟩, hne⟩ he
    have := congrArg (fun l => l[j]?) he
    simp only [List.getElem?_map] at this
    rw [List.getElem?_eq_getElem (by omega), List.getElem?_eq_getElem (by omega)] at this
    simp only [Option.map_some, Option.some.injEq] at this
    apply hne
    simp only [nth, List.getD_eq_getElem?_getD, List.getElem?_eq_getElem (show j < a.length by omega), List.getElem?_eq_getElem (show j < b.length by omega), Option.getD_some]
    exact this
  · intro hne
    apply Classical.byContradiction
    intro hno
    apply hne
    apply List.ext_getElem?
    intro j
    simp only [List.getElem?_map]
    rcases Nat.lt_or_ge j a.length with hj | hj
    · rw [List.getElem?_eq_getElem hj, List.getElem?_eq_getElem (by omega)]
      simp only [Option.map_some, Option.some.injEq]
      apply Classical.byContradiction
      intro hx
      refine hno ⟨j, ⟨by omega, by omega⟩, fun hy => hx ?_⟩
      simpa only [nth, List.getD_eq_getElem?_getD, List.getElem?_eq_getElem (show j < a.length by omega), List.getElem?_eq_getElem (show j < b.length by omega), Option.getD_some] using hy
    · rw [List.getElem?_eq_none hj, List.getElem?_eq_none (by omega)]
def rel35 : List (Nat × Cv) := [(0, .id), (1, .id), (5, .id), (4, .id)]
def st35 (a b : List (Tup IvK)) (s : Int × Bool) : List D := [.vec IvK a, .vec IvK b, I s.1, Bo s.2]
theorem round35 (a b : List (Tup IvK)) (j : Int) (r : Bool) : rndD ((cfg w0).at []) 40 [] 40 (fnOf Tryz.f35).ntmps rel35 (lpB 0 (fnOf Tryz.f35).body) (st35 a b (j, r)) =
    bif decide (j < a.length) then
      bif (Nat.beq 2 2 && (decide (0 ≤ j) && decide (j < a.length))) then
        bif (Nat.beq 2 2 && (decide (0 ≤ j) && decide (j < b.length))) then
          bif neV (nth a j.toNat) (nth b j.toNat) then some ([], .ret, st35 a b (j, false)) else some ([], .normal, st35 a b (W (j + 1), r))
        else none
      else none
    else some ([], .exit 0, st35 a b (j, r)) := by kernel_rfl
theorem body35 (a b : List (Tup IvK)) (x : X) (p : Int × Bool) (hx : x = .ret ∨ x = .normal) : bodyT ((cfg w0).at []) 40 [ldP 0 (fnOf Tryz.f35).ntmps rel35 x (st35 a b p)] 40 (fnOf Tryz.f35) [.vec IvK a, .vec IvK b] =
    bif (a.length : Int) != b.length then some ([], Bo false) else
    some ([(ldP 0 (fnOf Tryz.f35).ntmps rel35 x (st35 a b p), .loop (lpB 0 (fnOf Tryz.f35).body), st35 a b (0, false))], onX x (Bo p.2) (Bo true)) := by
  rcases hx with rfl | rfl <;> kernel_rfl
theorem fn35 (h0 : Lib0 w0) (a b : List (Tup IvK)) (hl : a.length ≤ 100000) : FnD (cfg w0) 35 [.vec IvK a, .vec IvK b] (Bo (sameV a b)) := by
  cases hne : ((a.length : Int) != b.length) with
  | true =>
    have : sameV a b = false := by
      unfold sameV
      rw [decide_eq_false_iff_not]
      intro h
      have := congrArg List.length h
      simp only [List.length_map] at this
      rw [this] at hne
      simp at hne
    rw [this]
    refine fnD_t (cfg_ok w0) h0 (cs := []) trivial (fd := fnOf Tryz.f35) rfl (L := [ldP 0 (fnOf Tryz.f35).ntmps rel35 .normal (st35 a b (0, true))]) (o := []) ((body35 a b .normal (0, true) (.inr rfl)).trans ?_) trivial
    rw [hne]; rfl
  | false =>
    have hab : a.length = b.length := Int.ofNat.inj (by simpa using hne)
    refine fn_rg h0 (cs := []) trivial (fd := fnOf Tryz.f35) rfl rel35 a.length (by omega) (st35 a b) (fun j r => bif neV (nth a j) (nth b j) then (X.ret, false) else (.normal, r)) (fun _ _ => True) (a0 := false) trivial
      (fun j r hj _ => .leaf (by
        rw [round35, inb 2 hj, ← hab, inb 2 hj, lt_t hj, Int.toNat_natCast]
        cases neV (nth a j) (nth b j) <;> rfl)) (fun _ _ _ _ _ _ => trivial)
      (fun r _ => .leaf (by rw [round35, ge_f]; rfl)) fun x p hx => ?_
    obtain ⟨q, hq⟩ := rgRun_any (id := 0) (p := fun j => neV (nth a j) (nth b j)) (c := false) a.length 0 false
    rw [hq, sameV_any hab] at hx
    cases hs : sameV a b <;> rw [hs] at hx <;> cases hx
    · exact (body35 a b _ _ (.inl rfl)).trans (by rw [hne]; rfl)
    · exact (body35 a b _ _ (.inr rfl)).trans (by rw [hne]; rfl)
def c35 : Ct := ct 35 [.v IvK, .v IvK] fun a => .br (Nat.ble (a.1 : List (Tup IvK)).length 100000) (.leaf (Bo (sameV a.1 a.2.1))) .bad
theorem gd35 (h0 : Lib0 w0) : Gd (cfg w0) c35 := gd_sig fun a d hd => by
  obtain ⟨hg, hd⟩ := br_run hd
  cases hd
  exact fn35 h0 a.1 a.2.1 (Nat.le_of_ble_eq_true hg)
end
end Go.Proofs.YtifnpljmjhnbaaaGreatDoor
