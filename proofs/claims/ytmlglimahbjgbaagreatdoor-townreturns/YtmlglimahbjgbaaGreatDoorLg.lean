/-
  A part of the proof of the statement that the claim names: see the last file.
-/
import Derived.Test.YtmlglimahbjgbaaGreatDoorLd
import Derived.Test.YtmlglimahbjgbaaGreatDoorLe
import Derived.Test.YtmlglimahbjgbaaGreatDoorLf
import Derived.Test.YtmlglimahbjgbaaGreatDoorAm4
namespace Go.Proofs.YtmlglimahbjgbaaGreatDoor
open Go Go.Am Go.Town
set_option maxRecDepth 100000
variable {w0 : World}

theorem law8_run (l : List (Tup wallK)) (t : List (Tup stpK)) (s r : Tup v3K) (d en e : Int) : bd8 w0 l t s r d en e = law8T l t s r d en e := by kernel_rfl
end Go.Proofs.YtmlglimahbjgbaaGreatDoor

namespace Go.Proofs.YtmlglimahbjgbaaGreatDoor
open Go Go.Am Go.Town
set_option maxRecDepth 100000
variable {w0 : World}

/-! # TownReturns: the law holds -/

theorem no8_f {n k : Rw} {b : Bool} (h : b = false) : no8 b n k = k := by rw [h]; rfl
theorem an8_t {n k : Rw} {b : Bool} (h : b = true) : an8 b n k = k := by rw [h]; rfl
theorem nO8_f {o : Obs} {b : Bool} {k : Ro} (h : b = false) : nO8 o b k = k := by rw [h]; rfl
theorem gO8_t {b : Bool} {k : Ro} (h : b = true) : gO8 b k = k := by rw [h]; rfl
theorem noW_f {b : Bool} {n k : Rw} (h : b = false) : noW b n k = k := by rw [h]; rfl
theorem gW_t {b : Bool} {k : Rw} (h : b = true) : gW b k = k := by rw [h]; rfl
theorem neE_f {a b : Int} (h : a = b) : neE a b = false := by subst h; simp [neE]
theorem eqE_t {a b : Int} (h : a = b) : eqE a b = true := by subst h; simp [eqE]
theorem xE2_t {a b c d : Int} (h1 : a = b) (h2 : c = d) : (!xE2 a b c d) = false := by
  unfold xE2
  rw [eqE_t h1, eqE_t h2]; rfl

/-! ## One wall -/

/-- Lowest terms of what is above 0 are above 0. -/
theorem lo_pos {a b : Int} (hb : 0 < b) (ha : a > 0) : 0 < lnZ a b ∧ 0 < ldZ a b ∧ True ∧ True := by
  obtain ⟨n, d, h1, h2, h3, h4, h5, h6⟩ := low_facts (a := a) hb
  have e1 : lnZ a b = n := h1
  have e2 : ldZ a b = d := h2
  rw [e1, e2]
  refine ⟨?_, h3, trivial, trivial⟩
  have h7 : 0 < a * d := Int.mul_pos ha h3
  rw [← h5] at h7
  exact Int.pos_of_mul_pos_left h7 (by omega)

theorem okE_of {w : Tup wallK} {s r : Tup v3K} (hw : wChk w = 0) (hs : pChk s = 0) (hr : pChk r = 0) : wErr w s r = 0 := by
  unfold wErr errZ
  unfold wChk at hw
  unfold pChk at hs hr
  rw [hw, hs, hr]; rfl

theorem rnd8_ok {w : Tup wallK} {s r : Tup v3K} {n k : Rw} (hw : wChk w = 0) (hs : pChk s = 0) (hr : pChk r = 0) : rnd8 w s r n k = k := by
  have e1 := okE_of hw hs hr
  have e2 := okE_of hw hr hs
  have k1 : okE w s r = true := by unfold okE; rw [e1]; rfl
  have k2 : okE w r s = true := by unfold okE; rw [e2]; rfl
  have S := errZ_small e1
  have hc : cutW w r s = cutW w s r := cut_sym S
  have hE : exE w r s = exE w s r := by unfold exE; rw [hc]
  have hn : exNum w.2.1 w.2.2.1 w.2.2.2.1 w.2.2.2.2.1 w.2.2.2.2.2.1 r.1 r.2.1 r.2.2.1 s.1 s.2.1 s.2.2.1 = exNum w.2.1 w.2.2.1 w.2.2.2.1 w.2.2.2.2.1 w.2.2.2.2.2.1 s.1 s.2.1 s.2.2.1 r.1 r.2.1 r.2.2.1 := by
    unfold exNum
    rw [num_sym S, den_sym S]
  have hd : exDen w.2.1 w.2.2.1 w.2.2.2.1 w.2.2.2.2.1 w.2.2.2.2.2.1 r.1 r.2.1 r.2.2.1 s.1 s.2.1 s.2.2.1 = exDen w.2.1 w.2.2.1 w.2.2.2.1 w.2.2.2.2.1 w.2.2.2.2.2.1 s.1 s.2.1 s.2.2.1 r.1 r.2.1 r.2.2.1 := by
    unfold exDen
    rw [num_sym S, den_sym S]
  have hN : exN w r s = exN w s r := by unfold exN; rw [hc, hn]
  have hD : exDn w r s = exDn w s r := by unfold exDn; rw [hc, hd]
  have hp : wDep w r s = wDep w s r := dep_sym S
  have c1 : (cutW w s r != eqE (exE w s r) 0) = false := by
    unfold exE
    cases cutW w s r <;> rfl
  have c2 : (cutW w s r != decide (wDep w s r > 0)) = false := by
    have : wDep w s r = bif cutW w s r then maxI 1 (minI (minI (ceilZ (numP w.2.1 w.2.2.1 w.2.2.2.1 w.2.2.2.2.1 w.2.2.2.2.2.1 s.1 s.2.1 s.2.2.1 r.1 r.2.1 r.2.2.1) (denP w.2.1 w.2.2.1 w.2.2.2.1 w.2.2.2.2.1 s.1 s.2.1 r.1 r.2.1)) (cornerL w.2.1 w.2.2.1 s.1 s.2.1 s.2.2.1 r.1 r.2.1 r.2.2.1)) (cornerL w.2.2.2.1 w.2.2.2.2.1 s.1 s.2.1 s.2.2.1 r.1 r.2.1 r.2.2.1)) else 0 := rfl
    rw [this]
    cases cutW w s r with
    | false => rfl
    | true =>
      have hm : ∀ x : Int, maxI 1 x > 0 := fun x => by unfold maxI; split <;> omega
      rw [cond_true, decide_eq_true (hm _)]; rfl
  unfold rnd8
  rw [gW_t k1, gW_t k2, gW_t k1, gW_t k2, gW_t k1, gW_t k2, noW_f (neE_f hE.symm), noW_f (by rw [hc]; simp), noW_f (xE2_t hN.symm hD.symm), noW_f (neE_f hp.symm), noW_f c1, noW_f c2]
  cases hcut : cutW w s r with
  | false => rfl
  | true =>
    have hcut' : cutP w.2.1 w.2.2.1 w.2.2.2.1 w.2.2.2.2.1 w.2.2.2.2.2.1 s.1 s.2.1 s.2.2.1 r.1 r.2.1 r.2.2.1 = true := hcut
    unfold cutP at hcut'
    rw [Bool.and_eq_true, decide_eq_true_eq] at hcut'
    have hq := quoG_iff.1 (cut_facts e1 hcut'.1)
    obtain ⟨x1, x2, x3, x4⟩ := lo_pos (a := numP w.2.1 w.2.2.1 w.2.2.2.1 w.2.2.2.2.1 w.2.2.2.2.2.1 s.1 s.2.1 s.2.2.1 r.1 r.2.1 r.2.2.1) hq.2.1 hcut'.2
    have hx : exN w s r = lnZ (numP w.2.1 w.2.2.1 w.2.2.2.1 w.2.2.2.2.1 w.2.2.2.2.2.1 s.1 s.2.1 s.2.2.1 r.1 r.2.1 r.2.2.1) (denP w.2.1 w.2.2.1 w.2.2.2.1 w.2.2.2.2.1 s.1 s.2.1 r.1 r.2.1) := by unfold exN; rw [hcut]; rfl
    have hy : exDn w s r = ldZ (numP w.2.1 w.2.2.1 w.2.2.2.1 w.2.2.2.2.1 w.2.2.2.2.2.1 s.1 s.2.1 s.2.2.1 r.1 r.2.1 r.2.2.1) (denP w.2.1 w.2.2.1 w.2.2.2.1 w.2.2.2.2.1 s.1 s.2.1 r.1 r.2.1) := by unfold exDn; rw [hcut]; rfl
    rw [cond_true, noW_f (by rw [decide_eq_false_iff_not, hx]; omega), noW_f (by rw [decide_eq_false_iff_not, hy]; omega)]

theorem ld8_ok (h0 : Lib0 w0) (ha : Good w0 ⟨13, awakeF⟩) {l : List (Tup wallK)} {t : List (Tup stpK)} {s r : Tup v3K} {d en : Int} (O : OkH l t s r en) : LdT ((cfg w0).at law8) (ld8 l t s r d en) (.loop (lpB 0 (fnOf Tryz.f8).body)) (st8 l t s r d en 0) := by
  have hll := O.ll
  have key := ldT_ls (at_ok (cfg_ok w0) law8) (at_sp h0 (law8_gd h0 ha)) (N := (fnOf Tryz.f8).ntmps) (rel := rel8) (B := lpB 0 (fnOf Tryz.f8).body) (id := 0) l (by omega) (fun a : Int × Unit => st8 l t s r d en a.1)
    (fun _ a => (X.normal, a)) (fun _ _ => True)
    (fun j a hj _ => .leaf (by
      rw [round8, inb 7 hj, lt_t hj, Int.toNat_natCast, rnd8_ok ((chkAll_all O.cl).2 _ (nth_mem hj)) O.hs O.hr]
      rfl)) (fun _ _ _ _ _ _ => trivial)
    (fun a _ => .leaf (by rw [round8, ge_f]; rfl)) (a0 := ()) trivial (x := .exit 0) (p := (((0 + l.length : Nat) : Int), ())) (by
      rw [lsRun_fold (h := fun _ b => b) 0 l 0 () (fun _ _ _ => rfl)])
  rw [Nat.zero_add] at key
  exact key

/-! ## The mirrors -/

theorem rnd21_ok {l : List (Tup wallK)} {s r : Tup v3K} {n y : Rw} (hl : chkAllW l = 0) (hs : pChk s = 0) (hr : pChk r = 0) {j : Nat} (hj : j ∈ idxM l s r) :
    rnd21 l (mirW (nth l j) j s r) (mirW (nth l j) j r s) true n y = y := by
  obtain ⟨hlt, _⟩ := idx_mem hj
  obtain ⟨hp, hq⟩ := mirW_sym hl hs hr hj
  have k1 : mW (mirW (nth l j) j s r) = (j : Int) := rfl
  have k2 : mW (mirW (nth l j) j r s) = (j : Int) := rfl
  have hX : (!xE2 (mXn8 (mirW (nth l j) j s r)) (mXn8 (mirW (nth l j) j r s)) (mXd8 (mirW (nth l j) j s r)) (mXd8 (mirW (nth l j) j r s))) = false := by
    show (!xE2 (lnZ (lX (plW (nth l j) s r)) (lD (plW (nth l j) s r))) (lnZ (lX (plW (nth l j) r s)) (lD (plW (nth l j) r s))) (ldZ (lX (plW (nth l j) s r)) (lD (plW (nth l j) s r))) (ldZ (lX (plW (nth l j) r s)) (lD (plW (nth l j) r s)))) = false
    rw [hp]; exact xE2_t rfl rfl
  have hY : (!xE2 (mYn8 (mirW (nth l j) j s r)) (mYn8 (mirW (nth l j) j r s)) (mYd8 (mirW (nth l j) j s r)) (mYd8 (mirW (nth l j) j r s))) = false := by
    show (!xE2 (lnZ (lY (plW (nth l j) s r)) (lD (plW (nth l j) s r))) (lnZ (lY (plW (nth l j) r s)) (lD (plW (nth l j) r s))) (ldZ (lY (plW (nth l j) s r)) (lD (plW (nth l j) s r))) (ldZ (lY (plW (nth l j) r s)) (lD (plW (nth l j) r s)))) = false
    rw [hp]; exact xE2_t rfl rfl
  have hZ : (!xE2 (mZn8 (mirW (nth l j) j s r)) (mZn8 (mirW (nth l j) j r s)) (mZd8 (mirW (nth l j) j s r)) (mZd8 (mirW (nth l j) j r s))) = false := by
    show (!xE2 (lnZ (lZ (plW (nth l j) s r)) (lD (plW (nth l j) s r))) (lnZ (lZ (plW (nth l j) r s)) (lD (plW (nth l j) r s))) (ldZ (lZ (plW (nth l j) s r)) (lD (plW (nth l j) s r))) (ldZ (lZ (plW (nth l j) r s)) (lD (plW (nth l j) r s)))) = false
    rw [hp]; exact xE2_t rfl rfl
  have hS : neE (mSq8 (mirW (nth l j) j s r)) (mSq8 (mirW (nth l j) j r s)) = false := neE_f (show sqW (imW (nth l j) s) r = sqW (imW (nth l j) r) s from hq.symm)
  have hI : inW8 l (mirW (nth l j) j s r) = true := inb 7 hlt
  unfold rnd21
  rw [noW_f (by rw [decide_eq_false_iff_not, k1]; omega), noW_f (by rw [decide_eq_false_iff_not, k1]; omega), gW_t rfl, noW_f (neE_f (k1.trans k2.symm)), gW_t rfl, noW_f hX, gW_t rfl, noW_f hY, gW_t rfl, noW_f hZ, gW_t rfl, noW_f hS, gW_t hI]

theorem sumW : ∀ (es : List Int) (e : Int), (∀ x ∈ es, 0 ≤ x ∧ x ≤ 1000) → es.length ≤ 100 → 0 ≤ e ∧ e ≤ 1000000 - es.length * 1000 → es.foldl (fun b x => W (b + x)) e = e + es.sum
  | [], e, _, _, _ => by simp
  | x :: xs, e, h, hl, he => by
    have hx := h x (by simp)
    rw [List.length_cons] at hl he
    rw [List.foldl_cons, W_in (n := e + x) (by omega) (by omega), sumW xs (e + x) (fun y hy => h y (by simp [hy])) (by omega) (by omega), List.sum_cons]
    omega

theorem sum_le : ∀ (es : List Int), (∀ x ∈ es, 0 ≤ x ∧ x ≤ 1000) → 0 ≤ es.sum ∧ es.sum ≤ es.length * 1000
  | [], _ => by simp
  | x :: xs, h => by
    have hx := h x (by simp)
    have := sum_le xs fun y hy => h y (by simp [hy])
    rw [List.sum_cons, List.length_cons]
    omega

/-! ## What is heard -/

theorem orx {e : Int} {x : Tup iv2} (h : e = 0) : xL (or2e e x) = xL x ∧ xH (or2e e x) = xH x := by subst h; exact ⟨rfl, rfl⟩

theorem hr_zero {l : List (Tup wallK)} {t : List (Tup stpK)} {s r : Tup v3K} {en : Int} (he : eH l t s r en = 0) (h : xH (hear0 l t s r en) ≤ 10000000000000) : hrE l t s r en = 0 := by
  unfold hrE bigB
  rw [he, decide_eq_false (by omega)]; rfl

theorem hear8_ok {n y : Rw} {l : List (Tup wallK)} {t : List (Tup stpK)} {s r : Tup v3K} {en : Int} (he : eH l t s r en = 0) (hl : l.length ≤ 5) (hen : 0 ≤ en ∧ en ≤ 1000000000000) :
    hear8 n y l t s r en (mirsL l s r).length (esL l s r).sum = y := by
  have hv : vH l t s r en = true := by unfold vH; rw [he]; rfl
  have O := vH_ok hv
  have L := loud_of O hen
  have eS := eH_sym l t s r en he
  have eR := eH_rev l t s r en he
  have hm := mirs_len l s r
  have d0 := L.d0; have d1 := L.d1; have d2 := L.d2; have a1 := L.a1; have a2 := L.a2; have a3 := L.a3; have a4 := L.a4
  have hnl : (mirsL l s r).length ≤ 5 := by omega
  have hb : ((mirsL l s r).length : Int) * en ≤ 5 * 1000000000000 := Int.mul_le_mul (by omega) hen.2 hen.1 (by omega)
  have z1 : hrE l t s r en = 0 := hr_zero he (by omega)
  have z2 : hrE l t r s en = 0 := hr_zero eS (by rw [hear_sym O]; omega)
  have z3 : hrE l.reverse t s r en = 0 := hr_zero eR (by rw [hear_rev]; omega)
  obtain ⟨xa, ya⟩ := orx (x := hear0 l t s r en) z1
  obtain ⟨xb, yb⟩ := orx (x := hear0 l t r s en) z2
  obtain ⟨xc, yc⟩ := orx (x := hear0 l.reverse t s r en) z3
  obtain ⟨xd, yd⟩ := orx (x := scr l t s r en) he
  replace xb := xb.trans (congrArg xL (hear_sym O))
  replace yb := yb.trans (congrArg xH (hear_sym O))
  replace xc := xc.trans (congrArg xL (hear_rev ..))
  replace yc := yc.trans (congrArg xH (hear_rev ..))
  have hg1 : g44 l t s r en = true := by unfold g44; rw [Nat.ble_eq_true_of_le hl]; simp
  have hg2 : g44 l t r s en = true := by unfold g44; rw [Nat.ble_eq_true_of_le hl]; simp
  have hg3 : g44 l.reverse t s r en = true := by unfold g44; rw [List.length_reverse, Nat.ble_eq_true_of_le hl]; simp
  have hll : llE l = true := by unfold llE; rw [Nat.ble_eq]; omega
  have hlr : llE l.reverse = true := by unfold llE; rw [List.length_reverse, Nat.ble_eq]; omega
  have htl : tlE t = true := by unfold tlE; rw [Nat.ble_eq]; have := O.tl; omega
  obtain ⟨s1, s2⟩ := sum_le (esL l s r) (es_mem O.cl)
  have hes : (esL l s r).length = (mirsL l s r).length := es_len l s r
  have m1 : 0 ≤ en * (esL l s r).sum := Int.mul_nonneg hen.1 s1
  have m2 : en * (esL l s r).sum ≤ 1000000000000 * 5000 := Int.mul_le_mul hen.2 (by omega) s1 (by omega)
  unfold hear8
  rw [gW_t hll, gW_t htl, gW_t hg1, gW_t hll, gW_t htl, gW_t hg2, gW_t hll, gW_t hlr, gW_t htl, gW_t hg3, gW_t hll, gW_t htl]
  unfold fin8
  rw [xa, ya, xb, yb, xc, yc, xd, yd, no8_f (neE_f z1), no8_f (neE_f z2), no8_f (neE_f z3), no8_f (neE_f he), no8_f (xE2_t rfl rfl), no8_f (xE2_t rfl rfl), no8_f (by rw [decide_eq_false_iff_not]; omega), no8_f (by rw [decide_eq_false_iff_not]; omega), no8_f (by rw [decide_eq_false_iff_not]; omega),
    an8_t (by rw [decide_eq_true_eq]; omega), an8_t (by rw [decide_eq_true_eq]; omega), an8_t (by
      rw [decide_eq_true_eq]
      show W (W (W (xH (hear0 l t s r en) - en) - ((mirsL l s r).length : Int)) * 1000) ≤ W (en * (esL l s r).sum)
      rw [W_in (n := xH (hear0 l t s r en) - en) (by omega) (by omega), W_in (n := xH (hear0 l t s r en) - en - ((mirsL l s r).length : Int)) (by omega) (by omega), W_in (n := (xH (hear0 l t s r en) - en - ((mirsL l s r).length : Int)) * 1000) (by omega) (by omega), W_in (n := en * (esL l s r).sum) (by omega) (by omega)]
      exact a4)]

/-! ## The law -/

theorem ms8_of {l : List (Tup wallK)} {s r : Tup v3K} (h : e53 l s r = 0) : ms8 l s r = mirsL l s r := by unfold ms8 orM; rw [h]; rfl

theorem nth_mapN {ks : List Kd} (f : Nat → Tup ks) (l : List Nat) {j : Nat} (h : j < l.length) : nth (l.map f) j = f (l[j]) := by
  simp [nth, List.getD_eq_getElem?_getD, h]

theorem ld21_ok (h0 : Lib0 w0) (ha : Good w0 ⟨13, awakeF⟩) {l : List (Tup wallK)} {t : List (Tup stpK)} {s r : Tup v3K} {d en : Int} (O : OkH l t s r en) (hl : l.length ≤ 5) (h2 : e53 l r s = 0) :
    LdT ((cfg w0).at law8) (ld21 l t s r d en (esL l s r).sum) (.loop (lpB 2 (fnOf Tryz.f8).body)) (st21 l t s r d en (ms8 l s r) (ms8 l r s) (0, 0)) := by
  have hm := mirs_len l s r
  have eB : ms8 l r s = (idxM l s r).map fun j => mirW (nth l j) j r s := by rw [ms8_of h2, mirs_idx, idx_sym O.cl O.hs O.hr]
  have eA : ms8 l s r = (idxM l s r).map fun j => mirW (nth l j) j s r := by rw [ms8_of (e53_of O), mirs_idx]
  have hn : (ms8 l s r).length ≤ 5 := by rw [ms8_of (e53_of O)]; omega
  have hab : (ms8 l r s).length = (ms8 l s r).length := by rw [eA, eB, List.length_map, List.length_map]
  have hid : (ms8 l s r).length = (idxM l s r).length := by rw [eA, List.length_map]
  have hsum : (ms8 l s r).foldl (fun b x => W (b + ecW l x)) 0 = (esL l s r).sum := by
    have := sumW (esL l s r) 0 (es_mem O.cl) (by rw [es_len]; omega) (by rw [es_len]; omega)
    rw [Int.zero_add] at this
    rw [eA, List.foldl_map, ← this]
    unfold esL
    rw [List.foldl_map]
    rfl
  have key := ldT_ls (at_ok (cfg_ok w0) law8) (at_sp h0 (law8_gd h0 ha)) (N := (fnOf Tryz.f8).ntmps) (rel := rel21) (B := lpB 2 (fnOf Tryz.f8).body) (id := 2) (ms8 l s r) (by omega) (fun a : Int × Int => st21 l t s r d en (ms8 l s r) (ms8 l r s) a)
    (fun x a => (X.normal, W (a + ecW l x))) (fun _ _ => True)
    (fun j a hj _ => .leaf (by
      have h1 : in11 (ms8 l s r) j = true := inb 11 hj
      have h2 : in11 (ms8 l r s) j = true := inb 11 (by rw [hab]; exact hj)
      have hji : j < (idxM l s r).length := by rw [← hid]; exact hj
      have e1 : nth (ms8 l s r) j = mirW (nth l (idxM l s r)[j]) (idxM l s r)[j] s r := by
        rw [eA]; exact nth_mapN (fun j => mirW (nth l j) j s r) (idxM l s r) hji
      have e2 : nth (ms8 l r s) j = mirW (nth l (idxM l s r)[j]) (idxM l s r)[j] r s := by
        rw [eB]; exact nth_mapN (fun j => mirW (nth l j) j r s) (idxM l s r) hji
      rw [round21, lt_t hj, cond_true, gW_t h1, h2, Int.toNat_natCast, e1, e2, rnd21_ok O.cl O.hs O.hr (List.getElem_mem hji)]
      rfl)) (fun _ _ _ _ _ _ => trivial)
    (fun a _ => .leaf (by rw [round21, ge_f]; rfl)) (a0 := 0) trivial (x := .exit 2) (p := (((0 + (ms8 l s r).length : Nat) : Int), (esL l s r).sum)) (by
      rw [lsRun_fold (h := fun x b => W (b + ecW l x)) 2 (ms8 l s r) 0 0 (fun _ _ _ => rfl), hsum])
  rw [Nat.zero_add] at key
  exact key

theorem ld28_ok (h0 : Lib0 w0) (ha : Good w0 ⟨13, awakeF⟩) {l : List (Tup wallK)} {t : List (Tup stpK)} {s r : Tup v3K} {d en : Int} (he : eH l t s r en = 0) (hl : l.length ≤ 5) (hen : 0 ≤ en ∧ en ≤ 1000000000000) (hz : e53 l s r = 0) :
    LdT ((cfg w0).at law8) (ld28 l t s r d en (esL l s r).sum) (sqC 200028 (fnOf Tryz.f8).body) (st28 l t s r d en (ms8 l s r) (esL l s r).sum false) := by
  refine ldT_if (at_ok (cfg_ok w0) law8) (at_sp h0 (law8_gd h0 ha)) (.leaf (n := 60) (m := 60) (L := []) ((un28_run l t s r d en (ms8 l s r) (esL l s r).sum).trans ?_))
  unfold un28T
  rw [ms8_of hz]
  exact hear8_ok he hl hen

theorem law8_fn (h0 : Lib0 w0) (ha : Good w0 ⟨13, awakeF⟩) (l : List (Tup wallK)) (t : List (Tup stpK)) (s r : Tup v3K) (d en : Int) :
    FnD (cfg w0) 8 [.vec wallK l, .vec stpK t, .agg [I s.1, I s.2.1, I s.2.2.1, I r.1, I r.2.1, I r.2.2.1, I d, I en]] (Bo true) := by
  have fin : ∀ (o : Obs), law8T l t s r d en (esL l s r).sum = some (o, Bo true) → Owed ((cfg w0).at law8) o → FnD (cfg w0) 8 [.vec wallK l, .vec stpK t, .agg [I s.1, I s.2.1, I s.2.2.1, I r.1, I r.2.1, I r.2.2.1, I d, I en]] (Bo true) := fun o h ho =>
    fnD_t (cfg_ok w0) h0 (law8_gd h0 ha) (fd := fnOf Tryz.f8) rfl ((law8_run l t s r d en (esL l s r).sum).trans h) ho
  cases hf : fewB l with
  | false => exact fin [] (by unfold law8T; rw [hf]; rfl) trivial
  | true =>
    by_cases ht : chkTab t = 0
    case neg =>
      have : neE (chkTab t) 0 = true := by simpa [neE] using ht
      exact fin [] (by unfold law8T; rw [hf, this]; rfl) trivial
    by_cases hp : firstZ [pChk s, pChk r] = 0
    case neg =>
      have : neE (firstZ [pChk s, pChk r]) 0 = true := by simpa [neE] using hp
      exact fin [] (by unfold law8T; rw [hf, neE_f ht, this]; rfl) trivial
    by_cases hw : withinZ en 0 1000000000000 = 0
    case neg =>
      have : neE (withinZ en 0 1000000000000) 0 = true := by simpa [neE] using hw
      exact fin [] (by unfold law8T; rw [hf, neE_f ht, neE_f hp, this]; rfl) trivial
    have hp' := hp
    rw [firstZ_nil] at hp'
    have hs := hp' (pChk s) (by simp)
    have hr := hp' (pChk r) (by simp)
    have hen := withinZ_nil.1 hw
    have hfl : l.length ≤ 5 ∧ chkAllW l = 0 := by
      unfold fewB at hf
      cases h5 : le5 l with
      | false => rw [h5] at hf; cases hf
      | true =>
        rw [h5] at hf
        unfold le5 at h5
        rw [decide_eq_true_eq] at h5
        exact ⟨by omega, by simpa using hf⟩
    have he : eH l t s r en = 0 := by
      unfold eH
      rw [hfl.2, ht, hs, hr, withinZ_nil.2 (show 0 ≤ en ∧ en ≤ 10000000000000 by omega)]; rfl
    have hv : vH l t s r en = true := by unfold vH; rw [he]; rfl
    have O := vH_ok hv
    have hm := mirs_len l s r
    have h53 : e53 l s r = 0 := e53_of O
    have h53' : e53 l r s = 0 := by unfold e53; rw [hfl.2, hs, hr]; rfl
    have hfew : fewL l = true := by unfold fewL; rw [Nat.ble_eq_true_of_le hfl.1]; rfl
    have hll : llE l = true := by unfold llE; rw [Nat.ble_eq]; omega
    have hlen : (ms8 l s r).length = (ms8 l r s).length := by rw [ms8_of h53, ms8_of h53', mirs_idx, mirs_idx, idx_sym hfl.2 hs hr, List.length_map, List.length_map]
    have hle : (ms8 l s r).length ≤ l.length := by rw [ms8_of h53]; exact hm
    refine fin (obF l t s r d en (esL l s r).sum) ?_ ⟨ld28_ok h0 ha he hfl.1 hen h53, ld21_ok h0 ha O hfl.1 h53', ld8_ok h0 ha O, trivial⟩
    unfold law8T
    rw [hf, neE_f ht, neE_f hp, neE_f hw, gO8_t hll, gO8_t hfew, gO8_t hll, gO8_t hfew, nO8_f (neE_f h53), nO8_f (neE_f h53'), nO8_f (neE_f (by rw [hlen])), nO8_f (by rw [decide_eq_false_iff_not]; omega)]
    rfl

def sh8 : List Sh := [.v wallK, .v stpK, .b [ik, ik, ik, ik, ik, ik, ik, ik]]

theorem law8_all (h0 : Lib0 w0) (ha : Good w0 ⟨13, awakeF⟩) (a : ArgT sh8) (_ : WfA sh8 a) : FnD (cfg w0) 8 (toShs sh8 a) (Bo true) :=
  law8_fn h0 ha a.1 a.2.1 (t3 a.2.2.1.1 a.2.2.1.2.1 a.2.2.1.2.2.1) (t3 a.2.2.1.2.2.2.1 a.2.2.1.2.2.2.2.1 a.2.2.1.2.2.2.2.2.1) a.2.2.1.2.2.2.2.2.2.1 a.2.2.1.2.2.2.2.2.2.2.1
end Go.Proofs.YtmlglimahbjgbaaGreatDoor
