/-
  A part of the proof of the statement that the claim names: see the last file.
-/
import Derived.Test.YtifnpljmjhnbaaaGreatDoorU3
namespace Go.Proofs.YtifnpljmjhnbaaaGreatDoor
open Go Go.Am
set_option maxRecDepth 100000
variable {w0 : World}
noncomputable section


theorem cs10_gd (h0 : Lib0 w0) : Gds (cfg w0) cs10 := ⟨gd23 h0, gd26 h0, gd36 h0, gd15 h0, gd25 h0, trivial⟩
def rE (x : Tup uK) : Tup intK := t1 (bif (u1 x).tmod 7 == 3 then -1 else IntKind.i64.wrap ((u1 x).tmod 1000001))
theorem la10 (h0 : Lib0 w0) (l : UL) (n : Tup hK) (hl : l.length ≤ 100000) : LdT ((cfg w0).at cs10) (ld10a l n (((0 + l.length : Nat) : Int), l.map rE)) (.loop (lpB 0 (fnOf Tryz.f10).body)) (st10a l n (0, [])) := by
  have hx : lsRun 0 (fun (x : Tup uK) (o : TL) => (X.normal, o ++ [rE x])) l 0 [] = (.exit 0, (((0 + l.length : Nat) : Int), l.map rE)) := by
    rw [lsRun_fold (h := fun x o => o ++ [rE x]) 0 l 0 [] (fun _ _ _ => rfl), foldl_snoc rE]
    rfl
  exact ldT_ls (at_ok (cfg_ok w0) cs10) (at_sp h0 (cs10_gd h0)) (N := N10) (rel := rel10a) (B := lpB 0 (fnOf Tryz.f10).body) (id := 0) l (by omega) (st10a l n) _ (fun j o => o.length = j)
    (fun j o hj ho => .leaf (by
      have ho : o.length = j := ho
      rw [round10a, inU_nat hj, lt_t hj, Int.toNat_natCast]
      unfold rm10 rE
      cases ((u1 (nth l j)).tmod 7 == 3)
      · simp only [cond_true, cond_false]; rw [room (by omega) (by omega)]; rfl
      · simp only [cond_true, cond_false]; rw [room (by omega) (by omega)]; rfl)) (fun j o o' _ ho h => by cases h; simp [ho])
    (fun o _ => .leaf (by rw [round10a, ge_f]; rfl)) (a0 := []) rfl hx
def stL (t x : Int) (a : Int × Int × Int) : Int × Int × Int := bif x == -1 then (a.1, IntKind.i64.wrap (a.2.1 + 1), a.2.2) else (IntKind.i64.wrap (a.1 + x), a.2.1, bif decide (x ≥ t) then IntKind.i64.wrap (a.2.2 + 1) else a.2.2)
def cnt4 (r : TL) (t : Int) (f n : Nat) : Int × Int × Int := (List.range' f n).foldl (fun a (j : Nat) => stL t (i1 (nth r j)) a) (0, 0, 0)
def inR (b : BL) (f n : Nat) : BL := (List.range' f n).foldl (fun b (j : Nat) => setB b j) b
theorem setB_len (b : BL) (j : Int) : (setB b j).length = b.length := List.length_set ..
theorem inR_len : ∀ (n f : Nat) (b : BL), (inR b f n).length = b.length
  | 0, f, b => rfl
  | n + 1, f, b => by
    unfold inR
    rw [List.range'_succ, List.foldl_cons]
    exact (inR_len n (f + 1) (setB b f)).trans (setB_len b f)
theorem fold4 (r : TL) (t : Int) : ∀ (n f : Nat) (b : BL) (a : Int × Int × Int), (List.range' f n).foldl (fun (x : S4) (j : Nat) => (setB x.1 j, stL t (i1 (nth r j)) x.2)) (b, a) = ((List.range' f n).foldl (fun b (j : Nat) => setB b j) b, (List.range' f n).foldl (fun a (j : Nat) => stL t (i1 (nth r j)) a) a)
  | 0, f, b, a => rfl
  | n + 1, f, b, a => by
    rw [List.range'_succ, List.foldl_cons, List.foldl_cons, List.foldl_cons]
    exact fold4 r t n (f + 1) _ _
def Sec (r : TL) (e : Tup evK) (f t : Nat) : Prop := ∀ j, f ≤ j → j < t → i1 (nth r j) ≠ -1 → i1 (nth r j) ≤ ep e ∧ (i1 (nth r j) = ep e → ea e ≤ (j : Int))
theorem lc10 (h0 : Lib0 w0) (k : Kx) (i : Int) (e : Tup evK) (f t : Nat) (hf : ef e = f) (ht : et e = t) (h1 : f ≤ t) (h2 : t ≤ k.r.length) (hr : k.r.length ≤ 100000) (hs : Sec k.r e f t) (b : BL) (hb : b.length = k.r.length) :
    LdT ((cfg w0).at cs10) (ld10c k i e .normal (((f + (t - f) : Nat) : Int), inR b f (t - f), cnt4 k.r k.t f (t - f))) (.loop (lpB 4 (fnOf Tryz.f10).body)) (st10c k i e (ef e, b, 0, 0, 0)) := by
  have hx : rgRun 4 (fun (j : Nat) (x : S4) => (X.normal, (setB x.1 j, stL k.t (i1 (nth k.r j)) x.2))) (t - f) f (b, 0, 0, 0) = (.exit 4, (((f + (t - f) : Nat) : Int), inR b f (t - f), cnt4 k.r k.t f (t - f))) := by
    rw [rgRun_fold (h := fun (j : Nat) (x : S4) => (setB x.1 j, stL k.t (i1 (nth k.r j)) x.2)) 4 (t - f) f _ (fun _ _ _ _ => rfl), fold4]
    rfl
  rw [hf]
  exact ldT_rgs (at_ok (cfg_ok w0) cs10) (at_sp h0 (cs10_gd h0)) (N := N10) (rel := rel10c) (B := lpB 4 (fnOf Tryz.f10).body) (id := 4) (k := t) (by omega) (st10c k i e) _ (fun j x => f ≤ j ∧ x.1.length = k.r.length)
    (fun j x hj hi => .leaf (by
      obtain ⟨b, s, m, u⟩ := x
      obtain ⟨hj1, hj2⟩ := hi
      have hj2 : b.length = k.r.length := hj2
      rw [round10c, ht, lt_t hj, inB_nat (by omega), inO_nat (by omega)]
      unfold tl10c
      rw [inO_nat (by omega), Int.toNat_natCast]
      unfold stL
      cases hm : (i1 (nth k.r j) == -1) with
      | true => rfl
      | false =>
        obtain ⟨p1, p2⟩ := hs j hj1 hj (by simpa using hm)
        rw [decide_eq_false (show ¬ i1 (nth k.r j) > ep e by omega)]
        cases hp : (i1 (nth k.r j) == ep e) with
        | true =>
          have := p2 (by simpa using hp)
          rw [decide_eq_false (show ¬ ((j : Nat) : Int) < ea e by omega)]
          cases decide (i1 (nth k.r j) ≥ k.t) <;> rfl
        | false => cases decide (i1 (nth k.r j) ≥ k.t) <;> rfl)) (fun j x x' hj hi h => by
      cases h
      exact ⟨by omega, (setB_len _ _).trans hi.2⟩)
    (fun x _ => .leaf (by obtain ⟨b, s, m, u⟩ := x; rw [round10c, ht, ge_f]; rfl)) h1 (a0 := (b, 0, 0, 0)) ⟨Nat.le_refl _, hb⟩ hx
theorem foldl_orB {α : Type} (f : α → Bool) : ∀ (l : List α) (b : Bool), l.foldl (fun b x => b || f x) b = (b || l.any f)
  | [], b => by simp
  | x :: xs, b => by rw [List.foldl_cons, foldl_orB f xs, List.any_cons, Bool.or_assoc]
def keptB (c : List (Tup evK)) (e : Tup evK) : Bool := c.any fun q => sameEv q e
theorem ldd10 (h0 : Lib0 w0) (k : Kx) (i : Int) (e : Tup evK) (y : S4) (hc : k.c.length ≤ 100000) :
    LdT ((cfg w0).at cs10) (ld10d k i e y (((0 + k.c.length : Nat) : Int), keptB k.c e)) (.loop (lpB 6 (fnOf Tryz.f10).body)) (st10d k i e y (0, false)) := by
  have hx : lsRun 6 (fun (q : Tup evK) b => (X.normal, b || sameEv q e)) k.c 0 false = (.exit 6, (((0 + k.c.length : Nat) : Int), keptB k.c e)) := by
    rw [lsRun_fold (h := fun q b => b || sameEv q e) 6 k.c 0 false (fun _ _ _ => rfl), foldl_orB]
    rfl
  exact ldT_ls (at_ok (cfg_ok w0) cs10) (at_sp h0 (cs10_gd h0)) (N := N10) (rel := rel10d) (B := lpB 6 (fnOf Tryz.f10).body) (id := 6) k.c (by omega) (st10d k i e y) _ (fun _ _ => True)
    (fun j b hj _ => .leaf (by
      rw [round10d, inE_nat hj, lt_t hj, Int.toNat_natCast]
      cases b <;> rfl)) (fun _ _ _ _ _ _ => trivial)
    (fun b _ => .leaf (by rw [round10d, ge_f]; rfl)) (a0 := false) trivial hx
structure EvOk (k : Kx) (i : Nat) (f t a : Nat) : Prop where
  ef : ef (nth k.a i) = f
  et : et (nth k.a i) = t
  ea : ea (nth k.a i) = a
  lt : f < t
  le : t ≤ k.r.length
  gap : ∀ j, i = j + 1 → (f : Int) - Go.Proofs.YtifnpljmjhnbaaaGreatDoor.et (nth k.a j) > k.g ∧ 0 ≤ Go.Proofs.YtifnpljmjhnbaaaGreatDoor.et (nth k.a j) ∧ Go.Proofs.YtifnpljmjhnbaaaGreatDoor.et (nth k.a j) ≤ 100000
  first : i1 (nth k.r f) ≥ k.t
  last : i1 (nth k.r (t - 1)) ≥ k.t
  at1 : f ≤ a
  at2 : a < t
  peak : i1 (nth k.r a) = ep (nth k.a i)
  sec : Sec k.r (nth k.a i) f t
  sum : (cnt4 k.r k.t f (t - f)).1 = ee (nth k.a i)
  mis : (cnt4 k.r k.t f (t - f)).2.1 = em (nth k.a i)
  kept : keptB k.c (nth k.a i) = decide ((cnt4 k.r k.t f (t - f)).2.2 ≥ k.le)
def inE10 (k : Kx) (i : Nat) (b : BL) : BL := inR b (ef (nth k.a i)).toNat ((et (nth k.a i)).toNat - (ef (nth k.a i)).toNat)
theorem rd10b (h0 : Lib0 w0) (k : Kx) (i : Nat) (hi : i < k.a.length) (ha : k.a.length ≤ 100000) (hc : k.c.length ≤ 100000) (hr : k.r.length ≤ 100000) {f t a : Nat} (E : EvOk k i f t a) (b : BL) (hb : b.length = k.r.length) :
    RdOK ((cfg w0).at cs10) N10 rel10b (lpB 2 (fnOf Tryz.f10).body) (st10b k ((i : Int), b)) .normal (st10b k (W ((i : Int) + 1), inE10 k i b)) := by
  have h4 := lc10 h0 k i (nth k.a i) f t E.ef E.et (by have := E.lt; omega) E.le hr E.sec b hb
  have h6 := ldd10 h0 k i (nth k.a i) (inR b f (t - f), cnt4 k.r k.t f (t - f)) hc
  have hrd := round10b (w0 := w0) k (i : Int) b (((f + (t - f) : Nat) : Int), inR b f (t - f), cnt4 k.r k.t f (t - f)) (((0 + k.c.length : Nat) : Int), keptB k.c (nth k.a i))
  rw [Int.toNat_natCast, lt_t hi, inE_nat hi] at hrd
  have e1 := E.lt
  have e2 := E.le
  have e3 := E.at1
  have e4 := E.at2
  have ht : tl10b k (i : Int) (nth k.a i) b (((f + (t - f) : Nat) : Int), inR b f (t - f), cnt4 k.r k.t f (t - f)) (((0 + k.c.length : Nat) : Int), keptB k.c (nth k.a i)) =
      some (O10 k i (nth k.a i) b (((f + (t - f) : Nat) : Int), inR b f (t - f), cnt4 k.r k.t f (t - f)) (((0 + k.c.length : Nat) : Int), keptB k.c (nth k.a i)), .normal, st10b k (W ((i : Int) + 1), inR b f (t - f))) := by
    unfold tl10b
    have a1 : IntKind.i64.wrap (et (nth k.a i) - 1) = ((t - 1 : Nat) : Int) := by rw [E.et, W_id (by omega) (by omega)]; omega
    rw [a1, E.ef, E.et, E.ea, inO_nat (show f < k.r.length by omega), inO_nat (show t - 1 < k.r.length by omega), inO_nat (show a < k.r.length by omega), Int.toNat_natCast, Int.toNat_natCast, Int.toNat_natCast,
      decide_eq_false (show ¬ i1 (nth k.r f) < k.t by have := E.first; omega), decide_eq_false (show ¬ i1 (nth k.r (t - 1)) < k.t by have := E.last; omega),
      decide_eq_false (show ¬ ((a : Nat) : Int) < f by omega), decide_eq_false (show ¬ ((a : Nat) : Int) ≥ t by omega), E.peak]
    show (bif true then bif false then _ else bif true then bif false then _ else bif false then _ else bif false then _ else bif true then bif ep (nth k.a i) != ep (nth k.a i) then _ else bif (cnt4 k.r k.t f (t - f)).1 != ee (nth k.a i) then _ else bif (cnt4 k.r k.t f (t - f)).2.1 != em (nth k.a i) then _ else bif !(keptB k.c (nth k.a i) == decide ((cnt4 k.r k.t f (t - f)).2.2 ≥ k.le)) then _ else _ else _ else _ else _) = _
    rw [E.sum, E.mis, E.kept]
    simp
  have hh : hd10b k (i : Int) (nth k.a i) b (tl10b k (i : Int) (nth k.a i) b (((f + (t - f) : Nat) : Int), inR b f (t - f), cnt4 k.r k.t f (t - f)) (((0 + k.c.length : Nat) : Int), keptB k.c (nth k.a i))) =
      tl10b k (i : Int) (nth k.a i) b (((f + (t - f) : Nat) : Int), inR b f (t - f), cnt4 k.r k.t f (t - f)) (((0 + k.c.length : Nat) : Int), keptB k.c (nth k.a i)) := by
    generalize tl10b k (i : Int) (nth k.a i) b (((f + (t - f) : Nat) : Int), inR b f (t - f), cnt4 k.r k.t f (t - f)) (((0 + k.c.length : Nat) : Int), keptB k.c (nth k.a i)) = tl
    unfold hd10b
    rw [E.ef, E.et, decide_eq_false (show ¬ ((f : Nat) : Int) < 0 by omega), decide_eq_false (show ¬ ((f : Nat) : Int) ≥ t by omega), decide_eq_false (show ¬ ((t : Nat) : Int) > k.r.length by omega)]
    cases i with
    | zero => rfl
    | succ j =>
      obtain ⟨g1, g2, g3⟩ := E.gap j rfl
      have a2 : IntKind.i64.wrap (((j + 1 : Nat) : Int) - 1) = ((j : Nat) : Int) := by rw [W_id (by omega) (by omega)]; omega
      rw [decide_eq_true (show ((j + 1 : Nat) : Int) > 0 by omega), a2, inE_nat (show j < k.a.length by omega), Int.toNat_natCast, W_id (by omega) (by omega), decide_eq_false (show ¬ ((f : Nat) : Int) - et (nth k.a j) ≤ k.g by omega)]
      rfl
  rw [hh, ht] at hrd
  have hres : inE10 k i b = inR b f (t - f) := by unfold inE10; rw [E.ef, E.et, Int.toNat_natCast, Int.toNat_natCast]
  rw [hres]
  exact ⟨_, _, _, _, hrd, h6, h4, trivial⟩
end
end Go.Proofs.YtifnpljmjhnbaaaGreatDoor

namespace Go.Proofs.YtifnpljmjhnbaaaGreatDoor
open Go Go.Am
set_option maxRecDepth 100000
variable {w0 : World}
noncomputable section


def bAll (k : Kx) (m : Nat) : BL := (List.range' 0 m).foldl (fun b i => inE10 k i b) (b0 k.r)
theorem b0_len (r : TL) : (b0 r).length = r.length := List.length_replicate
theorem inE10_len (k : Kx) (i : Nat) (b : BL) : (inE10 k i b).length = b.length := inR_len _ _ _
theorem bAll_succ (k : Kx) (m : Nat) : bAll k (m + 1) = inE10 k m (bAll k m) := by
  unfold bAll
  rw [List.range'_concat, List.foldl_append]
  simp
theorem bAll_len (k : Kx) : ∀ m, (bAll k m).length = k.r.length
  | 0 => b0_len k.r
  | m + 1 => by rw [bAll_succ, inE10_len, bAll_len k m]
theorem getD_set {α : Type} (l : List α) (d x : α) (j m : Nat) (hm : m < l.length) : (l.set j x).getD m d = if j = m then x else l.getD m d := by
  rw [List.getD_eq_getElem?_getD, List.getD_eq_getElem?_getD, List.getElem?_set]
  by_cases h : j = m
  · subst h; rw [if_pos rfl, if_pos hm, if_pos rfl]; rfl
  · rw [if_neg h, if_neg h]
theorem b1_set (b : BL) (j m : Nat) (hm : m < b.length) : b1 (nth (setB b j) m) = (decide (j = m) || b1 (nth b m)) := by
  have e : nth (setB b j) m = if j = m then (show Tup [Kd.bool] from ((show El Kd.bool from true), ())) else nth b m := getD_set b _ _ j m hm
  rw [e]
  by_cases h : j = m
  · rw [if_pos h, decide_eq_true h]; rfl
  · rw [if_neg h, decide_eq_false h, Bool.false_or]
theorem inR_true : ∀ (n f : Nat) (b : BL) (m : Nat), m < b.length → ((f ≤ m ∧ m < f + n) ∨ b1 (nth b m) = true) → b1 (nth (inR b f n) m) = true
  | 0, f, b, m, hm, h => by
    rcases h with h | h
    · omega
    · exact h
  | n + 1, f, b, m, hm, h => by
    unfold inR
    rw [List.range'_succ, List.foldl_cons]
    refine inR_true n (f + 1) (setB b f) m (by rw [setB_len]; exact hm) ?_
    rw [b1_set b f m hm]
    by_cases e : f = m
    · right; rw [decide_eq_true e, Bool.true_or]
    · rcases h with h | h
      · left; omega
      · right; rw [h, Bool.or_true]
theorem bAll_true (k : Kx) (j : Nat) (hj : j < k.r.length) : ∀ m, (∃ i, i < m ∧ (ef (nth k.a i)).toNat ≤ j ∧ j < (et (nth k.a i)).toNat) → b1 (nth (bAll k m) j) = true
  | 0, ⟨i, h, _⟩ => by omega
  | m + 1, ⟨i, h, h1, h2⟩ => by
    rw [bAll_succ]
    refine inR_true _ _ _ j (by rw [bAll_len]; exact hj) ?_
    by_cases e : i = m
    · subst e; left; omega
    · right; exact bAll_true k j hj m ⟨i, by omega, h1, h2⟩
structure Good10 (R : TL) (n : Tup hK) : Prop where
  len : R.length ≤ 40
  eA : (evA10 R n).2 = 0
  eB : (evB10 R n).2 = 0
  eC : (evC10 R n).2 = 0
  lA : (evA10 R n).1.length ≤ 100000
  lB : (evB10 R n).1.length ≤ (evA10 R n).1.length
  lC : (evC10 R n).1.length ≤ (evA10 R n).1.length
  ev : ∀ i, i < (evA10 R n).1.length → ∃ f t a, EvOk (kx10 R n) i f t a
  cov : ∀ j, j < R.length → i1 (nth R j) ≥ thr10 n → ∃ i, i < (evA10 R n).1.length ∧ (ef (nth (evA10 R n).1 i)).toNat ≤ j ∧ j < (et (nth (evA10 R n).1 i)).toNat
  fac : fac10 n ≠ 0
  ms : is0 (ms10 n) = false
  ms1 : is0 (IntKind.i64.wrap (ms10 n + 1)) = false
  cE : (cal10 n).2.2 = 0
  cL : (cal10 n).1 ≤ fac10 n
  cH : fac10 n ≤ (cal10 n).2.1
  vE : (cor10 R n).2 = 0
  vL : (cor10 R n).1.length = R.length
  vM : ∀ j, j < R.length → i1 (nth R j) = -1 → v1 (nth (cor10 R n).1 j) = -1 ∧ v2 (nth (cor10 R n).1 j) = -1
  vI : ∀ j, j < R.length → i1 (nth R j) ≠ -1 → IntKind.i64.wrap (1000 * v1 (nth (cor10 R n).1 j)) ≤ IntKind.i64.wrap (i1 (nth R j) * fac10 n) ∧ IntKind.i64.wrap (i1 (nth R j) * fac10 n) ≤ IntKind.i64.wrap (1000 * v2 (nth (cor10 R n).1 j))
theorem inI_nat {l : List (Tup IvK)} {j : Nat} (h : j < l.length) : inI l (j : Int) = true := inb 2 h
theorem law10_good (h0 : Lib0 w0) (l : UL) (n : Tup hK) (h1 : 1 ≤ l.length) (h40 : l.length ≤ 40) (G : Good10 (l.map rE) n) : FnD (cfg w0) 10 [.vec uK l, .agg [U16 n.1, U16 n.2.1, U16 n.2.2.1, U16 n.2.2.2.1]] (Bo true) := by
  have ok := at_ok (cfg_ok w0) cs10
  have sp := at_sp h0 (cs10_gd h0)
  have la := la10 h0 l n (by omega)
  generalize hR : l.map rE = R at G la
  have lb : LdT ((cfg w0).at cs10) (ld10b (kx10 R n) (((0 + (kx10 R n).a.length : Nat) : Int), bAll (kx10 R n) (kx10 R n).a.length)) (.loop (lpB 2 (fnOf Tryz.f10).body)) (st10b (kx10 R n) (0, b0 R)) := by
    have hx : rgRun 2 (fun (i : Nat) (b : BL) => (X.normal, inE10 (kx10 R n) i b)) (kx10 R n).a.length 0 (b0 R) = (.exit 2, (((0 + (kx10 R n).a.length : Nat) : Int), bAll (kx10 R n) (kx10 R n).a.length)) :=
      rgRun_fold (h := fun i b => inE10 (kx10 R n) i b) 2 _ _ _ (fun _ _ _ _ => rfl)
    have la' := G.lA
    have lc' := G.lC
    have hlen := G.len
    exact ldT_rg ok sp (N := N10) (rel := rel10b) (B := lpB 2 (fnOf Tryz.f10).body) (id := 2) (k := (kx10 R n).a.length) (by show (evA10 R n).1.length < _; omega) (st10b (kx10 R n)) _ (fun i b => b.length = R.length)
      (fun i b hi hb => by
        obtain ⟨f, t, a, E⟩ := G.ev i hi
        exact rd10b h0 (kx10 R n) i hi la' (by show (evC10 R n).1.length ≤ _; omega) (by show R.length ≤ _; omega) E b hb) (fun i b b' _ hb h => by cases h; exact (inE10_len _ _ _).trans hb)
      (fun b _ => .leaf ((round10b (kx10 R n) _ b (0, b, 0, 0, 0) (0, false)).trans (by rw [ge_f]; rfl))) (a0 := b0 R) (b0_len R) hx
  have le : LdT ((cfg w0).at cs10) (ld10e (kx10 R n) (bAll (kx10 R n) (kx10 R n).a.length) ((0 + R.length : Nat) : Int)) (.loop (lpB 8 (fnOf Tryz.f10).body)) (st10e (kx10 R n) (bAll (kx10 R n) (kx10 R n).a.length) 0) := by
    have hx : rgRun 8 (fun (_ : Nat) (u : Unit) => (X.normal, u)) R.length 0 () = (.exit 8, (((0 + R.length : Nat) : Int), ())) := by
      rw [rgRun_fold (h := fun _ u => u) 8 _ _ _ (fun _ _ _ _ => rfl)]
    have hlen := G.len
    exact ldT_rg ok sp (N := N10) (rel := rel10e) (B := lpB 8 (fnOf Tryz.f10).body) (id := 8) (k := R.length) (by omega) (fun p => st10e (kx10 R n) (bAll (kx10 R n) (kx10 R n).a.length) p.1) _ (fun _ _ => True)
      (fun j u hj _ => .leaf (by
        refine (round10e (kx10 R n) _ (j : Int)).trans ?_
        rw [show decide (((j : Nat) : Int) < (kx10 R n).r.length) = true from lt_t hj, show inO (kx10 R n).r (j : Int) = true from inO_nat hj, Int.toNat_natCast]
        show (bif true then bif true then bif decide (i1 (nth R j) ≥ thr10 n) then _ else _ else _ else _) = _
        cases hc : decide (i1 (nth R j) ≥ thr10 n) with
        | false => rfl
        | true =>
          obtain ⟨i, hi, c1, c2⟩ := G.cov j hj (of_decide_eq_true hc)
          rw [inB_nat (show j < (bAll (kx10 R n) (kx10 R n).a.length).length by rw [bAll_len]; exact hj), bAll_true (kx10 R n) j hj (kx10 R n).a.length ⟨i, hi, c1, c2⟩]
          rfl)) (fun _ _ _ _ _ _ => trivial)
      (fun u _ => .leaf ((round10e (kx10 R n) _ _).trans (by rw [show decide (((R.length : Nat) : Int) < (kx10 R n).r.length) = false from ge_f _]; rfl))) (a0 := ()) trivial hx
  have lf : LdT ((cfg w0).at cs10) (ld10f R (cor10 R n).1 (fac10 n) ((0 + (cor10 R n).1.length : Nat) : Int)) (.loop (lpB 10 (fnOf Tryz.f10).body)) (st10f R (cor10 R n).1 (fac10 n) 0) := by
    have hx : rgRun 10 (fun (_ : Nat) (u : Unit) => (X.normal, u)) (cor10 R n).1.length 0 () = (.exit 10, (((0 + (cor10 R n).1.length : Nat) : Int), ())) := by
      rw [rgRun_fold (h := fun _ u => u) 10 _ _ _ (fun _ _ _ _ => rfl)]
    have hlen := G.len
    have hv := G.vL
    exact ldT_rg ok sp (N := N10) (rel := rel10f) (B := lpB 10 (fnOf Tryz.f10).body) (id := 10) (k := (cor10 R n).1.length) (by omega) (fun p => st10f R (cor10 R n).1 (fac10 n) p.1) _ (fun _ _ => True)
      (fun j u hj _ => .leaf (by
        refine (round10f R _ _ (j : Int)).trans ?_
        rw [lt_t hj, inI_nat hj, inO_nat (show j < R.length by omega), Int.toNat_natCast]
        cases hm : (i1 (nth R j) == -1) with
        | true =>
          obtain ⟨m1, m2⟩ := G.vM j (by omega) (by simpa using hm)
          rw [m1, m2]
          rfl
        | false =>
          obtain ⟨m1, m2⟩ := G.vI j (by omega) (by simpa using hm)
          rw [decide_eq_false (show ¬ IntKind.i64.wrap (i1 (nth R j) * fac10 n) < IntKind.i64.wrap (1000 * v1 (nth (cor10 R n).1 j)) by omega), decide_eq_false (show ¬ IntKind.i64.wrap (i1 (nth R j) * fac10 n) > IntKind.i64.wrap (1000 * v2 (nth (cor10 R n).1 j)) by omega)]
          rfl)) (fun _ _ _ _ _ _ => trivial)
      (fun u _ => .leaf ((round10f R _ _ _).trans (by rw [ge_f]; rfl))) (a0 := ()) trivial hx
  have hb := body10 (w0 := w0) l n (((0 + l.length : Nat) : Int), R) (((0 + (kx10 R n).a.length : Nat) : Int), bAll (kx10 R n) (kx10 R n).a.length) ((0 + R.length : Nat) : Int) ((0 + (cor10 R n).1.length : Nat) : Int)
  have hlen := G.len
  have s1 : sm R = true := (Nat.ble_eq ..).mpr (by omega)
  have hmk : mk10 R = true := by
    unfold mk10
    rw [decide_eq_true (show 0 ≤ (R.length : Int) by omega), decide_eq_true (show (R.length : Int) = R.length from rfl), decide_eq_true (show (R.length : Int) ≤ 10000000 by omega), Int.toNat_natCast, (Nat.ble_eq ..).mpr (show R.length * 1 ≤ 10000000 by omega), (Nat.ble_eq ..).mpr (show R.length * 1 ≤ 1000000000000 by omega)]
    rfl
  have ht : t10 l n (((0 + l.length : Nat) : Int), R) (((0 + (kx10 R n).a.length : Nat) : Int), bAll (kx10 R n) (kx10 R n).a.length) ((0 + R.length : Nat) : Int) ((0 + (cor10 R n).1.length : Nat) : Int) =
      some (oF10 l n (((0 + l.length : Nat) : Int), R) (((0 + (kx10 R n).a.length : Nat) : Int), bAll (kx10 R n) (kx10 R n).a.length) ((0 + R.length : Nat) : Int) ((0 + (cor10 R n).1.length : Nat) : Int), Bo true) := by
    unfold t10 t10f fl gb
    simp only
    rw [decide_eq_false (show ¬ (l.length : Int) < 1 by omega), decide_eq_false (show ¬ (l.length : Int) > 40 by omega), s1, hmk, G.eA, G.eB, G.eC,
      decide_eq_false (show ¬ ((evB10 R n).1.length : Int) > (evA10 R n).1.length by have := G.lB; omega), decide_eq_false (show ¬ ((evC10 R n).1.length : Int) > (evA10 R n).1.length by have := G.lC; omega),
      decide_eq_false G.fac, G.ms, G.ms1, G.cE, decide_eq_false (show ¬ (cal10 n).1 > fac10 n by have := G.cL; omega), decide_eq_false (show ¬ (cal10 n).2.1 < fac10 n by have := G.cH; omega), G.vE, G.vL]
    simp
  rw [ht] at hb
  exact fnD_t (cfg_ok w0) h0 (cs10_gd h0) (fd := fnOf Tryz.f10) rfl hb (by exact ⟨lf, le, lb, la, trivial⟩)
end
end Go.Proofs.YtifnpljmjhnbaaaGreatDoor
