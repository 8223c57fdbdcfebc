/-
  A part of the proof of the statement that the claim names: see the last file.
-/
import Derived.Test.YthcpfignhalffaaGreatDoorP3
namespace Go.Proofs.YthcpfignhalffaaGreatDoor
open Go Go.Am
set_option maxRecDepth 100000
variable {w0 : World}
noncomputable section


theorem mkI_ok {n : Nat} (h : n ≤ 100000) : mkI n = true := by
  unfold mkI
  simp only [Int.toNat_natCast, Bool.and_eq_true, decide_eq_true_eq, Nat.ble_eq]
  exact ⟨by omega, trivial, by omega, by omega, by omega⟩
theorem inO_nat {o : List (Tup intK)} {j : Nat} (h : j < o.length) : inO o (j : Int) = true := inb 1 h
theorem inK_nat {g : Gr} {j : Nat} (h : j < g.l.length) : inK g (j : Int) = true := inb 1 h
theorem GI_eq {j : Int} {k : Rn} : ∀ {gs : List Gr}, inAll gs j = true → GI j k gs = k
  | [], _ => rfl
  | g :: gs, h => by
    unfold inAll at h
    rw [List.all_cons, Bool.and_eq_true] at h
    unfold GI
    rw [h.1, GI_eq (gs := gs) h.2]; rfl
theorem rgRun_set {id : Nat} {p : Nat → Bool} {f : Nat → List (Tup intK) → List (Tup intK)} {c : Int} : ∀ (k i : Nat) (o : List (Tup intK)) (e : Int), ∃ (q : Nat) (o' : List (Tup intK)), rgRun id (fun j (a : List (Tup intK) × Int) => bif p j then (X.ret, (f j a.1, c)) else (.normal, (f j a.1, a.2))) k i (o, e) =
    bif (List.range' i k).any p then (.ret, ((q : Int), (o', c))) else (.exit id, (((i + k : Nat) : Int), ((List.range' i k).foldl (fun o j => f j o) o, e)))
  | 0, i, o, e => ⟨0, [], rfl⟩
  | k + 1, i, o, e => by
    obtain ⟨q, o', hq⟩ := rgRun_set (id := id) (p := p) (f := f) (c := c) k (i + 1) (f i o) e
    unfold rgRun
    rw [List.range'_succ, List.any_cons, List.foldl_cons]
    cases hp : p i with
    | true => exact ⟨i, f i o, by simp⟩
    | false =>
      refine ⟨q, o', ?_⟩
      simp only [cond_false, Bool.false_or]
      rw [hq, show i + 1 + k = i + (k + 1) by omega]
theorem updL_map (f : Nat → Tup intK) (z : Tup intK) (n : Nat) : updL (fun j _ => f j) 0 (List.replicate n z) = (List.range' 0 n).map f := by
  apply List.ext_getElem?
  intro j
  rw [updL_get, List.getElem?_map]
  rcases Nat.lt_or_ge j n with h | h
  · rw [List.getElem?_replicate, if_pos h, List.getElem?_range' h]
    simp
  · rw [List.getElem?_eq_none (by simpa using h), List.getElem?_eq_none (by simpa using h)]; rfl
theorem nth_set {o : List (Tup intK)} {j : Nat} {v : Tup intK} (h : j < o.length) : nth (o.set j v) j = v := by
  simp [nth, h]

def large (gs : List Gr) : Bool := (List.range' 0 (hdL gs)).any fun j => decide (sumI gs j > maxE)
def sumL (gs : List Gr) : List (Tup intK) := (List.range' 0 (hdL gs)).map fun j => t1 (sumI gs j)
def eqLn (gs : List Gr) : Bool := gs.all fun g => Nat.beq g.l.length (hdL gs)
def g128 (gs : List Gr) : Bool := len4 gs && (Nat.blt 0 gs.length && (eqLn gs && Nat.ble (hdL gs) 100000))
theorem inAll_nat {gs : List Gr} (h : eqLn gs = true) {j : Nat} (hj : j < hdL gs) : inAll gs (j : Int) = true := by
  unfold inAll
  unfold eqLn at h
  rw [List.all_eq_true] at h ⊢
  exact fun g hg => inK_nat (by rw [Nat.eq_of_beq_eq_true (h g hg)]; exact hj)

def sumD (gs : List Gr) : D := bif large gs then .tup [nilD, I 4] else .tup [.vec intK (sumL gs), I 0]
theorem fn128 (h0 : Lib0 w0) {gs : List Gr} (he : eqLn gs = true) (hl : hdL gs ≤ 100000)
    (hr : ∀ n j e o, rndD ((cfg w0).at []) 60 [] 60 (fnOf Tryz.f128).ntmps rel128 (lpB 0 (fnOf Tryz.f128).body) (st128 gs n (j, o, e)) = tree128 gs n j o e)
    (hn : ∀ p, bodyT ((cfg w0).at []) 40 [ldP 0 (fnOf Tryz.f128).ntmps rel128 .normal (st128 gs (hdL gs) p)] 40 (fnOf Tryz.f128) [slG gs] = tb128 gs .normal p)
    (ht : ∀ p, bodyT ((cfg w0).at []) 40 [ldP 0 (fnOf Tryz.f128).ntmps rel128 .ret (st128 gs (hdL gs) p)] 40 (fnOf Tryz.f128) [slG gs] = tb128 gs .ret p) : FnD (cfg w0) 128 [slG gs] (sumD gs) := by
  refine fn_rg h0 (cs := []) trivial (fd := fnOf Tryz.f128) rfl rel128 (hdL gs) (by omega) (st128 gs (hdL gs)) (fun j a => bif decide (sumI gs j > maxE) then (X.ret, (set128 gs j a.1, 4)) else (.normal, (set128 gs j a.1, a.2)))
    (fun _ a => a.1.length = hdL gs) (a0 := (zerI (hdL gs), 0)) (by simp [zerI])
    (fun j a hj hi => .leaf (by
      have hi : a.1.length = hdL gs := hi
      obtain ⟨o, e⟩ := a
      refine (hr _ _ _ _).trans ?_
      unfold tree128
      rw [lt_t hj, GI_eq (inAll_nat he hj), inO_nat (by simp only at hi; omega), Int.toNat_natCast]
      simp only [cond_true]
      unfold set128
      rw [nth_set (by simp only at hi; omega)]
      show (bif decide (sumI gs j > maxE) then _ else _) = _
      cases decide (sumI gs j > maxE) <;> rfl))
    (fun j a a' hj hi h => by
      have hi : a.1.length = hdL gs := hi
      cases hc : decide (sumI gs j > maxE) with
      | true => simp only [hc, cond_true] at h; cases h
      | false => simp only [hc, cond_false] at h; cases h; simpa [set128] using hi)
    (fun a _ => .leaf ((hr _ _ _ _).trans (by unfold tree128; rw [ge_f]; rfl))) fun x p hx => ?_
  obtain ⟨q, o', hq⟩ := rgRun_set (id := 0) (p := fun j => decide (sumI gs j > maxE)) (f := set128 gs) (c := 4) (hdL gs) 0 (zerI (hdL gs)) 0
  rw [hq] at hx
  have hL : (List.range' 0 (hdL gs)).any (fun j => decide (sumI gs j > maxE)) = large gs := rfl
  rw [hL] at hx
  unfold sumD
  cases hc : large gs with
  | true =>
    rw [hc] at hx
    cases hx
    refine (ht _).trans ?_
    unfold tb128
    rw [mkI_ok hl]; rfl
  | false =>
    rw [hc] at hx
    cases hx
    refine (hn _).trans ?_
    unfold tb128
    rw [mkI_ok hl]
    have := fold_upd (fun j _ => t1 (sumI gs j)) (zerI (hdL gs)) [] 0 rfl
    rw [List.nil_append, List.nil_append] at this
    simp only [zerI, Int.toNat_natCast, List.length_replicate, updL_map] at this
    have e : (List.range' 0 (hdL gs)).foldl (fun o j => set128 gs j o) (zerI (hdL gs)) = sumL gs := by
      simp only [zerI, Int.toNat_natCast]
      exact this
    simp only [cond_true, e]
    rfl

def c128 : Ct := gsK 128 [] fun gs _ => .br (g128 gs) (.br (large gs) (.leaf (.tup [nilD, I 4])) (.leaf (.tup [.vec intK (sumL gs), I 0]))) .bad
theorem gd128 (h0 : Lib0 w0) : Gd (cfg w0) c128 := gd_gs (fun _ _ h => by cases h) (fun _ _ h => by cases h) fun gs hne a d hd => by
  obtain ⟨hg, hd⟩ := br_run hd
  unfold g128 at hg
  simp only [Bool.and_eq_true, Nat.ble_eq] at hg
  obtain ⟨h4, _, he, hl⟩ := hg
  have key : ∀ {x}, FnD (cfg w0) 128 [slG gs] (sumD gs) → x = sumD gs → FnD (cfg w0) 128 [slG gs] x := fun h e => e ▸ h
  have hd' : d = sumD gs := by
    unfold sumD
    cases hL : large gs with
    | true => rw [hL] at hd; cases hd; rfl
    | false => rw [hL] at hd; cases hd; rfl
  refine key ?_ hd'
  rcases four h4 hne with ⟨a, rfl⟩ | ⟨a, b, rfl⟩ | ⟨a, b, c, rfl⟩ | ⟨a, b, c, e, rfl⟩
  · exact fn128 h0 he hl (fun n j e o => round128_1 ..) (fun p => body128_1n ..) (fun p => body128_1r ..)
  · exact fn128 h0 he hl (fun n j e o => round128_2 ..) (fun p => body128_2n ..) (fun p => body128_2r ..)
  · exact fn128 h0 he hl (fun n j e o => round128_3 ..) (fun p => body128_3n ..) (fun p => body128_3r ..)
  · exact fn128 h0 he hl (fun n j e o => round128_4 ..) (fun p => body128_4n ..) (fun p => body128_4r ..)


def loudP (i : Nat) : Int → Int → Int → List Gr → Int
  | _, b, _, [] => b
  | k, b, m, g :: gs => bif decide (i1 (nth g.l i) > m) then loudP i (W (k + 1)) k (i1 (nth g.l i)) gs else loudP i (W (k + 1)) b m gs
def loudQ (i : Nat) : Int → Option (Int × Gr) → List Gr → Int
  | _, b, [] => match b with | none => -1 | some p => p.1
  | k, b, g :: gs =>
      bif decide (i1 (nth g.l i) > 0) then
        match b with
        | none => loudQ i (W (k + 1)) (some (k, g)) gs
        | some p => bif decide (i1 (nth g.l i) > i1 (nth p.2.l i)) then loudQ i (W (k + 1)) (some (k, g)) gs else loudQ i (W (k + 1)) b gs
      else loudQ i (W (k + 1)) b gs
theorem loud_some (i : Nat) : ∀ (gs : List Gr) (k : Int) (p : Int × Gr), 0 < i1 (nth p.2.l i) → loudQ i k (some p) gs = loudP i k p.1 (i1 (nth p.2.l i)) gs
  | [], _, _, _ => rfl
  | g :: gs, k, p, hp => by
    unfold loudQ loudP
    by_cases h1 : i1 (nth g.l i) > i1 (nth p.2.l i)
    · simp only [decide_eq_true h1, decide_eq_true (show i1 (nth g.l i) > 0 by omega), cond_true]
      exact loud_some i gs _ (k, g) (show 0 < i1 (nth g.l i) by omega)
    · simp only [decide_eq_false h1, cond_false, loud_some i gs _ p hp]
      cases decide (i1 (nth g.l i) > 0) <;> rfl
theorem loud_none (i : Nat) : ∀ (gs : List Gr) (k : Int), loudQ i k none gs = loudP i k (-1) 0 gs
  | [], _ => rfl
  | g :: gs, k => by
    unfold loudQ loudP
    by_cases h1 : i1 (nth g.l i) > 0
    · rw [decide_eq_true h1]
      simp only [cond_true]
      exact loud_some i gs _ (k, g) h1
    · rw [decide_eq_false h1]
      simp only [cond_false]
      exact loud_none i gs _
def loudL (gs : List Gr) : List (Tup intK) := (List.range' 0 (hdL gs)).map fun i => t1 (loudP i 0 (-1) 0 gs)
theorem roomI_ok {o : List (Tup intK)} {x : Tup intK} (h : o.length ≤ 1000000) : roomI (o ++ [x]) = true := room h (by omega)
theorem G46_eq {all : List Gr} {n : Int} {j : Nat} {o : List (Tup intK)} (ho : o.length ≤ 1000000) : ∀ {gs : List Gr} (k b m : Int), inAll gs (j : Int) = true → G46 all n j o k b m gs = some ([], .normal, st46 all n (W (j + 1), o ++ [t1 (loudP j k b m gs)]))
  | [], k, b, m, _ => by
    unfold G46 loudP
    rw [roomI_ok ho]; rfl
  | g :: gs, k, b, m, h => by
    unfold inAll at h
    rw [List.all_cons, Bool.and_eq_true] at h
    unfold G46 loudP
    rw [h.1, G46_eq ho (gs := gs) _ _ _ h.2, G46_eq ho (gs := gs) _ _ _ h.2, Int.toNat_natCast]
    cases decide (i1 (nth g.l j) > m) <;> rfl
theorem G52_eq {all : List Gr} {j : Nat} {o : List (Tup intK)} (ho : o.length ≤ 1000000) : ∀ {gs : List Gr} (k : Int) (b : Option (Int × Gr)), (∀ p, b = some p → inK p.2 (j : Int) = true) → inAll gs (j : Int) = true → G52 all j o k b gs = some ([], .normal, st52 all (W (j + 1), o ++ [t1 (loudQ j k b gs)]))
  | [], k, b, _, _ => by
    unfold G52 loudQ
    rw [roomI_ok ho]; rfl
  | g :: gs, k, b, hb, h => by
    unfold inAll at h
    rw [List.all_cons, Bool.and_eq_true] at h
    unfold G52 loudQ
    have hg : ∀ p, some (k, g) = some p → inK p.2 (j : Int) = true := fun p hp => by cases hp; exact h.1
    rw [h.1, G52_eq ho (gs := gs) _ _ hg h.2, G52_eq ho (gs := gs) _ _ hb h.2, Int.toNat_natCast]
    cases b with
    | none => cases decide (i1 (nth g.l j) > 0) <;> rfl
    | some p =>
      simp only [hb p rfl, cond_true]
      cases decide (i1 (nth g.l j) > 0)
      · rfl
      · cases decide (i1 (nth g.l j) > i1 (nth p.2.l j)) <;> rfl
theorem cs46_gd (h0 : Lib0 w0) : Gds (cfg w0) cs46 := ⟨gd127 h0, trivial⟩
theorem fn46 (h0 : Lib0 w0) {gs : List Gr} (he : eqLn gs = true) (hl : hdL gs ≤ 100000) (hs : smGs gs = true) (hc : chkGs gs = 0)
    (hr : ∀ n j o, rndD ((cfg w0).at cs46) 60 [] 60 (fnOf Tryz.f46).ntmps rel46 (lpB 0 (fnOf Tryz.f46).body) (st46 gs n (j, o)) = tree46 gs n j o)
    (hn : ∀ p, bodyT ((cfg w0).at cs46) 40 [ldP 0 (fnOf Tryz.f46).ntmps rel46 .normal (st46 gs (hdL gs) p)] 40 (fnOf Tryz.f46) [slG gs] = tb46 gs p) : FnD (cfg w0) 46 [slG gs] (.tup [.vec intK (loudL gs), I 0]) := by
  refine fn_rg h0 (cs46_gd h0) (fd := fnOf Tryz.f46) rfl rel46 (hdL gs) (by omega) (st46 gs (hdL gs)) (fun j a => (X.normal, a ++ [t1 (loudP j 0 (-1) 0 gs)])) (fun j a => a.length = j) (a0 := []) rfl
    (fun j a hj hi => .leaf (by
      have hi : a.length = j := hi
      refine (hr _ _ _).trans ?_
      unfold tree46
      rw [lt_t hj, G46_eq (by omega) _ _ _ (inAll_nat he hj)]; rfl))
    (fun j a a' hj hi h => by cases h; simp [hi])
    (fun a _ => .leaf ((hr _ _ _).trans (by unfold tree46; rw [ge_f]; rfl))) fun x p hx => ?_
  rw [rgRun_fold 0 (h := fun j out => out ++ [t1 (loudP j 0 (-1) 0 gs)]) _ _ _ (fun _ _ _ _ => rfl), foldl_snoc (fun j => t1 (loudP j 0 (-1) 0 gs))] at hx
  cases hx
  refine (hn _).trans ?_
  unfold tb46
  rw [hs, hc]; rfl
theorem fn52 (h0 : Lib0 w0) {gs : List Gr} (he : eqLn gs = true) (hl : hdL gs ≤ 100000)
    (hr : ∀ j o, rndD ((cfg w0).at []) 60 [] 60 (fnOf Tryz.f52).ntmps rel52 (lpB 0 (fnOf Tryz.f52).body) (st52 gs (j, o)) = tree52 gs j o)
    (hn : ∀ p, bodyT ((cfg w0).at []) 40 [ldP 0 (fnOf Tryz.f52).ntmps rel52 .normal (st52 gs p)] 40 (fnOf Tryz.f52) [slG gs] = tb52 gs p) : FnD (cfg w0) 52 [slG gs] (.vec intK (loudL gs)) := by
  refine fn_rg h0 (cs := []) trivial (fd := fnOf Tryz.f52) rfl rel52 (hdL gs) (by omega) (st52 gs) (fun j a => (X.normal, a ++ [t1 (loudP j 0 (-1) 0 gs)])) (fun j a => a.length = j) (a0 := []) rfl
    (fun j a hj hi => .leaf (by
      have hi : a.length = j := hi
      refine (hr _ _).trans ?_
      unfold tree52
      rw [lt_t hj, G52_eq (by omega) _ _ (fun p h => by cases h) (inAll_nat he hj), loud_none]; rfl))
    (fun j a a' hj hi h => by cases h; simp [hi])
    (fun a _ => .leaf ((hr _ _).trans (by unfold tree52; rw [ge_f]; rfl))) fun x p hx => ?_
  rw [rgRun_fold 0 (h := fun j out => out ++ [t1 (loudP j 0 (-1) 0 gs)]) _ _ _ (fun _ _ _ _ => rfl), foldl_snoc (fun j => t1 (loudP j 0 (-1) 0 gs))] at hx
  cases hx
  exact hn _
def c52 : Ct := gsK 52 [] fun gs _ => .br (g128 gs) (.leaf (.vec intK (loudL gs))) .bad
theorem gd52 (h0 : Lib0 w0) : Gd (cfg w0) c52 := gd_gs (fun _ _ h => by cases h) (fun _ _ h => by cases h) fun gs hne a d hd => by
  obtain ⟨hg, hd⟩ := br_run hd
  cases hd
  unfold g128 at hg
  simp only [Bool.and_eq_true, Nat.ble_eq] at hg
  obtain ⟨h4, _, he, hl⟩ := hg
  rcases four h4 hne with ⟨a, rfl⟩ | ⟨a, b, rfl⟩ | ⟨a, b, c, rfl⟩ | ⟨a, b, c, e, rfl⟩
  · exact fn52 h0 he hl (fun j o => round52_1 ..) (fun p => body52_1 ..)
  · exact fn52 h0 he hl (fun j o => round52_2 ..) (fun p => body52_2 ..)
  · exact fn52 h0 he hl (fun j o => round52_3 ..) (fun p => body52_3 ..)
  · exact fn52 h0 he hl (fun j o => round52_4 ..) (fun p => body52_4 ..)
end
end Go.Proofs.YthcpfignhalffaaGreatDoor

namespace Go.Proofs.YthcpfignhalffaaGreatDoor
open Go Go.Am
set_option maxRecDepth 100000
variable {w0 : World}
noncomputable section


theorem asGsL_gsC : ∀ gs : List Gr, asGsL (gsC gs) = some gs
  | [] => rfl
  | g :: gs => by
    show (match recast intK intK g.l, asGsL (gsC gs) with
      | some l, some gs => some (Gr.mk g.w g.h l :: gs)
      | _, _ => none) = _
    rw [show recast intK intK g.l = some g.l from rfl, asGsL_gsC gs]
theorem asGs_slG {gs : List Gr} (h : gs ≠ []) : asGs (slG gs) = some gs := by
  show (match Nat.beq 3 3, asGsL (gsC gs) with
    | true, some gs' => (match Nat.beq gs'.length gs.length && Nat.blt 0 gs.length with
      | true => some gs'
      | false => none)
    | _, _ => none) = _
  rw [asGsL_gsC]
  have : (Nat.beq gs.length gs.length && Nat.blt 0 gs.length) = true := by
    simp only [Bool.and_eq_true, Nat.beq_eq, Nat.blt_eq, true_and]
    cases gs with
    | nil => exact absurd rfl h
    | cons b bs => simp
  simp only [this]
theorem br_runX {α : Type} {b : Bool} {x : FT α} {d : α} (h : (FT.br b x .bad).run = some d) : b = true ∧ x.run = some d := by
  cases b with
  | true => exact ⟨rfl, h⟩
  | false => cases h

theorem ldP136 (h0 : Lib0 w0) {gs : List Gr} {wo : Int} {k : Nat} {g : Gr} (hr : ∀ j o, rnd136 (w0 := w0) gs wo k j o = tree136 gs wo k g j o) (o : List (Tup intK)) (ho : o.length ≤ 100000) (hg : g.l.length = o.length) :
    LdT ((cfg w0).at []) (ldP 2 (fnOf Tryz.f136).ntmps rel136 .normal (st136 gs wo k (o.length, updL (adE g) 0 o))) (.loop (lpB 2 (fnOf Tryz.f136).body)) (st136 gs wo k (0, o)) := by
  have hrun : rgRun 2 (fun j (out : List (Tup intK)) => (X.normal, out.set j (adE g j (nth out j)))) o.length 0 o = (.exit 2, (((0 + o.length : Nat) : Int), updL (adE g) 0 o)) := by
    rw [rgRun_fold 2 (h := fun j (out : List (Tup intK)) => out.set j (adE g j (nth out j))) _ _ _ (fun _ _ _ _ => rfl)]
    have := fold_upd (adE g) o [] 0 rfl
    rw [List.nil_append, List.nil_append] at this
    rw [this]
  have key := ldT_rg (at_ok (cfg_ok w0) []) (at_sp h0 (cs := []) trivial) (N := (fnOf Tryz.f136).ntmps) (rel := rel136) (B := lpB 2 (fnOf Tryz.f136).body) (id := 2) (k := o.length) (by omega) (st136 gs wo k) (fun j (out : List (Tup intK)) => (X.normal, out.set j (adE g j (nth out j)))) (fun _ a => a.length = o.length)
    (fun j a hj hi => .leaf (by
      have hi : a.length = o.length := hi
      refine (hr j a).trans ?_
      unfold tree136
      rw [hi, lt_t hj, inO_nat (by omega), inK_nat (by omega), Int.toNat_natCast]
      rfl)) (fun j a a' _ hi h => by cases h; simpa using hi)
    (fun a hi => .leaf ((hr _ a).trans (by
      have hi : a.length = o.length := hi
      unfold tree136; rw [hi, ge_f]; rfl))) (a0 := o) rfl hrun
  rw [Nat.zero_add] at key
  exact key

theorem ld136_ok (h0 : Lib0 w0) {gs : List Gr} {wo : Int} {k : Nat} {g : Gr} (hb : gs[k]? = some g) (hr : ∀ j o, rnd136 (w0 := w0) gs wo k j o = tree136 gs wo k g j o) (o : List (Tup intK)) (ho : o.length ≤ 100000) (hg : g.l.length = o.length) :
    LdT ((cfg w0).at []) ld136 (.loop (lpB 2 (fnOf Tryz.f136).body)) (st136 gs wo k (0, o)) := by
  have hne : gs ≠ [] := fun e => by subst e; cases hb
  have hF : ld136.F (st136 gs wo k (0, o)) = .br (Nat.beq g.l.length o.length && Nat.ble o.length 100000) (.leaf (.normal, st136 gs wo k (o.length, updL (adE g) 0 o))) .bad := by
    show (match asGs (slG gs), recast intK intK o with
      | some gs', some o' => (match gs'[(k : Int).toNat]? with
        | some g => FT.br (Nat.beq g.l.length o'.length && Nat.ble o'.length 100000) (.leaf (X.normal, st136 gs' wo k (o'.length, updL (adE g) 0 o'))) .bad
        | none => .bad)
      | _, _ => .bad) = _
    rw [asGs_slG hne, show recast intK intK o = some o from rfl, Int.toNat_natCast]
    simp only [hb]
  intro x ds' hrun
  rw [hF] at hrun
  obtain ⟨_, hrun⟩ := br_runX hrun
  cases hrun
  exact ldP136 h0 hr o ho hg .normal _ rfl

def gSum (wo : Int) : Nat → List (Tup intK) → List Gr → List (Tup intK)
  | _, o, [] => o
  | k, o, g :: gs => bif (k : Int) == wo then gSum wo (k + 1) o gs else gSum wo (k + 1) (updL (adE g) 0 o) gs
def refL (gs : List Gr) (wo : Int) : List (Tup intK) := gSum wo 0 (List.replicate (hdL gs) (t1 0)) gs

theorem W1 (k : Nat) (h : k ≤ 100000) : W ((k : Int) + 1) = ((k + 1 : Nat) : Int) := by rw [W_in (by omega)]; rfl
theorem G136_eq (h0 : Lib0 w0) {all : List Gr} {wo : Int} {n : Nat} (hn : n ≤ 100000) (hr : ∀ (i : Nat) g, all[i]? = some g → ∀ j o, rnd136 (w0 := w0) all wo i j o = tree136 all wo i g j o) : ∀ (gs : List Gr) (k : Nat) (o : List (Tup intK)) (ob : Obs), all.drop k = gs → k + gs.length ≤ 1000 → o.length = n → (∀ g ∈ gs, g.l.length = n) → Owed ((cfg w0).at []) ob →
    ∃ obs, G136 all wo k o ob gs = some (obs, .vec intK (gSum wo k o gs)) ∧ Owed ((cfg w0).at []) obs
  | [], k, o, ob, _, _, _, _, hO => ⟨ob, rfl, hO⟩
  | g :: gs, k, o, ob, hd, hk, ho, hg, hO => by
    have hb : all[k]? = some g := by
      have := congrArg (fun l => l[0]?) hd
      simpa only [List.getElem?_drop, Nat.add_zero, List.getElem?_cons_zero] using this
    have hd2 : all.drop (k + 1) = gs := by
      have := congrArg (fun l => l.drop 1) hd
      simpa only [List.drop_drop, List.drop_one, List.tail_cons] using this
    have hlg := hg g (by simp)
    rw [List.length_cons] at hk
    unfold G136 gSum
    rw [W1 k (by omega)]
    cases hw : ((k : Int) == wo) with
    | true => exact G136_eq h0 hn hr gs (k + 1) o ob hd2 (by omega) ho (fun g hx => hg g (by simp [hx])) hO
    | false =>
      obtain ⟨obs, h1, h2⟩ := G136_eq h0 hn hr gs (k + 1) (updL (adE g) 0 o) ((ld136, .loop (lpB 2 (fnOf Tryz.f136).body), st136 all wo k (0, o)) :: ob) hd2 (by omega) (by rw [updL_len, ho]) (fun g hx => hg g (by simp [hx])) ⟨ld136_ok h0 hb (hr k g hb) o (by omega) (by omega), hO⟩
      refine ⟨obs, ?_, h2⟩
      have : (Nat.beq g.l.length o.length && Nat.ble o.length 100000) = true := by
        simp only [Bool.and_eq_true, Nat.beq_eq, Nat.ble_eq]; omega
      rw [this]
      exact h1
theorem fn136 (h0 : Lib0 w0) {gs : List Gr} {wo : Int} (hg : g128 gs = true) (hr : ∀ (i : Nat) g, gs[i]? = some g → ∀ j o, rnd136 (w0 := w0) gs wo i j o = tree136 gs wo i g j o) (hrun : bodyT ((cfg w0).at []) 60 [ld136] 60 (fnOf Tryz.f136) [slG gs, I wo] = T136 gs wo) : FnD (cfg w0) 136 [slG gs, I wo] (.vec intK (refL gs wo)) := by
  unfold g128 at hg
  simp only [Bool.and_eq_true, Nat.ble_eq, Nat.blt_eq] at hg
  obtain ⟨h4, hp, he, hl⟩ := hg
  have hlen : gs.length ≤ 4 := by
    have hne : gs ≠ [] := fun e => by subst e; simp at hp
    rcases four h4 hne with ⟨a, rfl⟩ | ⟨a, b, rfl⟩ | ⟨a, b, c, rfl⟩ | ⟨a, b, c, e, rfl⟩ <;> simp
  obtain ⟨obs, h1, h2⟩ := G136_eq h0 (n := hdL gs) hl hr gs 0 (zerI (hdL gs)) [] rfl (by omega) (by simp [zerI]) (fun g hx => by
    unfold eqLn at he
    exact Nat.eq_of_beq_eq_true (List.all_eq_true.1 he g hx)) trivial
  refine fnD_t (cfg_ok w0) h0 (cs := []) trivial (fd := fnOf Tryz.f136) rfl (hrun.trans ?_) h2
  unfold T136
  rw [mkI_ok hl]
  refine h1.trans ?_
  unfold refL zerI
  rw [Int.toNat_natCast]
def c136 : Ct := gsK 136 [.c ik] fun gs a => .br (g128 gs) (.leaf (.vec intK (refL gs a.1))) .bad
theorem gd136 (h0 : Lib0 w0) : Gd (cfg w0) c136 := gd_gs (fun _ _ h => by cases h) (fun _ _ h => by cases h) fun gs hne a d hd => by
  obtain ⟨hg, hd⟩ := br_run hd
  cases hd
  obtain ⟨wo, u⟩ := a
  have hg' := hg
  unfold g128 at hg'
  rw [Bool.and_eq_true] at hg'
  rcases four hg'.1 hne with ⟨a, rfl⟩ | ⟨a, b, rfl⟩ | ⟨a, b, c, rfl⟩ | ⟨a, b, c, e, rfl⟩
  · exact fn136 h0 hg (fun i g hx => by
      match i, hx with
      | 0, hx => cases hx; exact fun j o => round136_1_0 ..) (run136_1 ..)
  · exact fn136 h0 hg (fun i g hx => by
      match i, hx with
      | 0, hx => cases hx; exact fun j o => round136_2_0 ..
      | 1, hx => cases hx; exact fun j o => round136_2_1 ..) (run136_2 ..)
  · exact fn136 h0 hg (fun i g hx => by
      match i, hx with
      | 0, hx => cases hx; exact fun j o => round136_3_0 ..
      | 1, hx => cases hx; exact fun j o => round136_3_1 ..
      | 2, hx => cases hx; exact fun j o => round136_3_2 ..) (run136_3 ..)
  · exact fn136 h0 hg (fun i g hx => by
      match i, hx with
      | 0, hx => cases hx; exact fun j o => round136_4_0 ..
      | 1, hx => cases hx; exact fun j o => round136_4_1 ..
      | 2, hx => cases hx; exact fun j o => round136_4_2 ..
      | 3, hx => cases hx; exact fun j o => round136_4_3 ..) (run136_4 ..)


def rel137 : List (Nat × Cv) := [(0, .id), (3, .id), (2, .id)]
def st137 (l : List (Tup intK)) (p : Int × Bool) : List D := [.vec intK l, I p.1, Bo p.2]
theorem round137 (l : List (Tup intK)) (j : Int) (b : Bool) : rndD ((cfg w0).at []) 40 [] 40 (fnOf Tryz.f137).ntmps rel137 (lpB 0 (fnOf Tryz.f137).body) (st137 l (j, b)) =
    bif decide (j < l.length) then bif inO l j then bif decide (i1 (nth l j.toNat) > maxE) then some ([], .ret, st137 l (j, true)) else some ([], .normal, st137 l (W (j + 1), b)) else none
    else some ([], .exit 0, st137 l (j, b)) := by kernel_rfl
theorem body137 (l : List (Tup intK)) (x : X) (p : Int × Bool) (hx : x = .ret ∨ x = .normal) : bodyT ((cfg w0).at []) 40 [ldP 0 (fnOf Tryz.f137).ntmps rel137 x (st137 l p)] 40 (fnOf Tryz.f137) [.vec intK l] =
    some ([(ldP 0 (fnOf Tryz.f137).ntmps rel137 x (st137 l p), .loop (lpB 0 (fnOf Tryz.f137).body), st137 l (0, false))], onX x (Bo p.2) (Bo false)) := by
  rcases hx with rfl | rfl <;> kernel_rfl
def anyL (l : List (Tup intK)) : Bool := (List.range' 0 l.length).any fun j => decide (i1 (nth l j) > maxE)
theorem fn137 (h0 : Lib0 w0) (l : List (Tup intK)) (hl : l.length ≤ 100000) : FnD (cfg w0) 137 [.vec intK l] (Bo (anyL l)) := by
  refine fn_rg h0 (cs := []) trivial (fd := fnOf Tryz.f137) rfl rel137 l.length (by omega) (st137 l) (fun j a => bif decide (i1 (nth l j) > maxE) then (X.ret, true) else (.normal, a)) (fun _ _ => True) (a0 := false) trivial
    (fun j a hj _ => .leaf (by
      rw [round137, lt_t hj, inO_nat hj, Int.toNat_natCast]
      cases decide (i1 (nth l j) > maxE) <;> rfl)) (fun _ _ _ _ _ _ => trivial)
    (fun a _ => .leaf (by rw [round137, ge_f]; rfl)) fun x p hx => ?_
  obtain ⟨q, hq⟩ := rgRun_any (id := 0) (p := fun j => decide (i1 (nth l j) > maxE)) (c := true) l.length 0 false
  rw [hq, show (List.range' 0 l.length).any (fun j => decide (i1 (nth l j) > maxE)) = anyL l from rfl] at hx
  cases hs : anyL l <;> rw [hs] at hx <;> cases hx
  · exact body137 l _ _ (.inr rfl)
  · exact body137 l _ _ (.inl rfl)
def c137 : Ct := ct 137 [.v intK] fun a => .br (Nat.ble (a.1 : List (Tup intK)).length 100000) (.leaf (Bo (anyL a.1))) .bad
theorem gd137 (h0 : Lib0 w0) : Gd (cfg w0) c137 := gd_sig fun a d hd => by
  obtain ⟨hg, hd⟩ := br_run hd
  cases hd
  exact fn137 h0 a.1 (Nat.le_of_ble_eq_true hg)
end
end Go.Proofs.YthcpfignhalffaaGreatDoor

namespace Go.Proofs.YthcpfignhalffaaGreatDoor
open Go Go.Am
set_option maxRecDepth 100000
variable {w0 : World}
noncomputable section


def gc (a b : Int) : Int := ((Nat.gcd a.toNat b.toNat : Nat) : Int)
def nextG (p : Int × Int) : X × (Int × Int) := bif decide (p.2 > 0) then (.normal, (p.2, p.1.tmod p.2)) else (.exit 0, p)
theorem gcd_iter : ∀ (b a : Nat), ∃ f, iterN nextG f ((a : Int), (b : Int)) = some (.exit 0, (((Nat.gcd a b : Nat) : Int), 0))
  | 0, a => ⟨1, by simp [iterN, nextG]⟩
  | b + 1, a => by
    obtain ⟨f, hf⟩ := gcd_iter (a % (b + 1)) (b + 1)
    refine ⟨f + 1, ?_⟩
    have hd : decide (((b + 1 : Nat) : Int) > 0) = true := by simp
    have hn : nextG ((a : Int), ((b + 1 : Nat) : Int)) = (.normal, (((b + 1 : Nat) : Int), (a : Int).tmod ((b + 1 : Nat) : Int))) := by
      unfold nextG; rw [hd]; rfl
    unfold iterN
    rw [hn]
    show iterN nextG f (((b + 1 : Nat) : Int), (a : Int).tmod ((b + 1 : Nat) : Int)) = _
    rw [← Int.ofNat_tmod, hf, Nat.gcd_comm (b + 1), ← Nat.gcd_rec, Nat.gcd_comm]
  termination_by b => b
  decreasing_by exact Nat.mod_lt _ (by omega)
theorem nextG_inv {p q : Int × Int} (h : 0 ≤ p.1 ∧ 0 ≤ p.2) (hn : nextG p = (.normal, q)) : 0 ≤ q.1 ∧ 0 ≤ q.2 := by
  unfold nextG at hn
  cases hd : decide (p.2 > 0) with
  | false => rw [hd] at hn; cases hn
  | true =>
    rw [hd] at hn
    cases hn
    exact ⟨h.2, Int.tmod_nonneg _ h.1⟩

def rel135 : List (Nat × Cv) := [(0, .id), (1, .id), (5, .id), (6, .id), (4, .id)]
def st135 (x y : Int) (p : Int × Int) : List D := [I x, I y, I p.1, I p.2, .obox [I 0, I 0]]
theorem round135 (x y a b : Int) : rndD ((cfg w0).at []) 40 [] 40 (fnOf Tryz.f135).ntmps rel135 (lpB 0 (fnOf Tryz.f135).body) (st135 x y (a, b)) =
    bif decide (b > 0) then bif decide (b = 0) then none else some ([], .normal, st135 x y (b, a.tmod b)) else some ([], .exit 0, st135 x y (a, b)) := by kernel_rfl
theorem body135 (x y : Int) (p : Int × Int) : bodyT ((cfg w0).at []) 40 [ldP 0 (fnOf Tryz.f135).ntmps rel135 .normal (st135 x y p)] 40 (fnOf Tryz.f135) [I x, I y] =
    bif decide (p.1 = 0) then none else bif decide (p.1 = 0) then none else
      some ([(ldP 0 (fnOf Tryz.f135).ntmps rel135 .normal (st135 x y p), .loop (lpB 0 (fnOf Tryz.f135).body), st135 x y (x, y))], .agg [I (W (x.tdiv p.1)), I (W (y.tdiv p.1))]) := by kernel_rfl
def rel182 : List (Nat × Cv) := [(0, .id), (1, .id)]
def st182 (p : Int × Int) : List D := [I p.1, I p.2]
theorem round182 (a b : Int) : rndD ((cfg w0).at []) 40 [] 40 (fnOf Tryz.f182).ntmps rel182 (lpB 0 (fnOf Tryz.f182).body) (st182 (a, b)) =
    bif b != 0 then bif decide (b = 0) then none else some ([], .normal, st182 (b, a.tmod b)) else some ([], .exit 0, st182 (a, b)) := by kernel_rfl
theorem body182 (x y : Int) (p : Int × Int) : bodyT ((cfg w0).at []) 40 [ldP 0 (fnOf Tryz.f182).ntmps rel182 .normal (st182 p)] 40 (fnOf Tryz.f182) [I x, I y] =
    some ([(ldP 0 (fnOf Tryz.f182).ntmps rel182 .normal (st182 p), .loop (lpB 0 (fnOf Tryz.f182).body), st182 ((if IntKind.i64.wrap (0 - x) > x then IntKind.i64.wrap (0 - x) else x), (if IntKind.i64.wrap (0 - y) > y then IntKind.i64.wrap (0 - y) else y)))], I p.1) := by kernel_rfl

abbrev big : Int := 1000000000000000
def pos2 (a b : Int) : Bool := decide (0 ≤ a) && (decide (0 < b) && (decide (a ≤ big) && decide (b ≤ big)))
theorem pos2_ok {a b : Int} (h : pos2 a b = true) : 0 ≤ a ∧ 0 < b ∧ a ≤ big ∧ b ≤ big := by
  unfold pos2 at h
  simp only [Bool.and_eq_true, decide_eq_true_eq] at h
  exact h
theorem W_big {n : Int} (h : 0 ≤ n ∧ n ≤ big) : W n = n := IntWalk.i64_in _ ⟨by have : big = 1000000000000000 := rfl; omega, by have : big = 1000000000000000 := rfl; omega⟩
theorem gc_pos {a b : Int} (hb : 0 < b) : 0 < gc a b := by
  unfold gc
  have := Nat.gcd_pos_of_pos_right a.toNat (show 0 < b.toNat by omega)
  omega
theorem tdiv_big {x g : Int} (h : 0 ≤ x ∧ x ≤ big) (hg : 0 < g) : W (x.tdiv g) = x.tdiv g := by
  apply W_big
  rw [Int.tdiv_eq_ediv_of_nonneg h.1]
  exact ⟨Int.ediv_nonneg h.1 (by omega), Int.le_trans (Int.ediv_le_self _ h.1) h.2⟩
def ratT (a b : Int) : Tup ptK := (a.tdiv (gc a b), b.tdiv (gc a b), ())
def ratD (a b : Int) : D := .agg [I (a.tdiv (gc a b)), I (b.tdiv (gc a b))]

theorem fn135 (h0 : Lib0 w0) {x y : Int} (hp : pos2 x y = true) : FnD (cfg w0) 135 [I x, I y] (ratD x y) := by
  obtain ⟨h1, h2, h3, h4⟩ := pos2_ok hp
  obtain ⟨f, hf⟩ := gcd_iter y.toNat x.toNat
  rw [Int.toNat_of_nonneg h1, Int.toNat_of_nonneg (show 0 ≤ y by omega)] at hf
  have hL := ldT_iter (at_ok (cfg_ok w0) []) (at_sp h0 (cs := []) trivial) (N := (fnOf Tryz.f135).ntmps) (rel := rel135) (B := lpB 0 (fnOf Tryz.f135).body) (id := 0) (st135 x y) nextG (fun p => 0 ≤ p.1 ∧ 0 ≤ p.2)
    (fun p hp => .leaf (by
      refine (round135 x y p.1 p.2).trans ?_
      unfold nextG
      cases hd : decide (p.2 > 0) with
      | false => rfl
      | true =>
        have : ¬ p.2 = 0 := by have := of_decide_eq_true hd; omega
        rw [decide_eq_false this]; rfl)) (fun p q hp hn => nextG_inv hp hn) (a0 := (x, y)) (b := (gc x y, 0)) (x := .exit 0) (f := f) ⟨h1, by show 0 ≤ y; omega⟩ hf
  refine fnD_lp (cfg_ok w0) h0 (cs := []) trivial (fd := fnOf Tryz.f135) rfl ((body135 x y (gc x y, 0)).trans ?_) hL
  have hg := gc_pos (a := x) h2
  rw [decide_eq_false (show ¬ gc x y = 0 by omega), tdiv_big ⟨h1, h3⟩ hg, tdiv_big ⟨by omega, h4⟩ hg]
  rfl
def lowC (g : Nat) : Ct := ct g [.c ik, .c ik] fun a => .br (pos2 a.1 a.2.1) (.leaf (ratD a.1 a.2.1)) .bad
theorem gd135 (h0 : Lib0 w0) : Gd (cfg w0) (lowC 135) := gd_sig fun a d hd => by
  obtain ⟨hg, hd⟩ := br_run hd
  cases hd
  exact fn135 h0 hg

theorem fn182 (h0 : Lib0 w0) {x y : Int} (hp : pos2 x y = true) : FnD (cfg w0) 182 [I x, I y] (I (gc x y)) := by
  obtain ⟨h1, h2, h3, h4⟩ := pos2_ok hp
  have hb : big = 1000000000000000 := rfl
  obtain ⟨f, hf⟩ := gcd_iter y.toNat x.toNat
  rw [Int.toNat_of_nonneg h1, Int.toNat_of_nonneg (show 0 ≤ y by omega)] at hf
  have hL := ldT_iter (at_ok (cfg_ok w0) []) (at_sp h0 (cs := []) trivial) (N := (fnOf Tryz.f182).ntmps) (rel := rel182) (B := lpB 0 (fnOf Tryz.f182).body) (id := 0) st182 nextG (fun p => 0 ≤ p.1 ∧ 0 ≤ p.2)
    (fun p hp => .leaf (by
      refine (round182 p.1 p.2).trans ?_
      unfold nextG
      cases hd : decide (p.2 > 0) with
      | false =>
        have : p.2 = 0 := by have := of_decide_eq_false hd; omega
        rw [show (p.2 != 0) = false by simp [this]]; rfl
      | true =>
        have : ¬ p.2 = 0 := by have := of_decide_eq_true hd; omega
        rw [decide_eq_false this, show (p.2 != 0) = true by simp [this]]; rfl)) (fun p q hp hn => nextG_inv hp hn) (a0 := (x, y)) (b := (gc x y, 0)) (x := .exit 0) (f := f) ⟨h1, by show 0 ≤ y; omega⟩ hf
  refine fnD_lp (cfg_ok w0) h0 (cs := []) trivial (fd := fnOf Tryz.f182) rfl ((body182 x y (gc x y, 0)).trans ?_) hL
  have e : ∀ z : Int, 0 ≤ z → z ≤ big → (if IntKind.i64.wrap (0 - z) > z then IntKind.i64.wrap (0 - z) else z) = z := fun z k1 k2 => by
    rw [IntWalk.i64_in (0 - z) ⟨by omega, by omega⟩, if_neg (by omega)]
  rw [e x h1 h3, e y (by omega) h4]
def c182 : Ct := ct 182 [.c ik, .c ik] fun a => .br (pos2 a.1 a.2.1) (.leaf (I (gc a.1 a.2.1))) .bad
theorem gd182 (h0 : Lib0 w0) : Gd (cfg w0) c182 := gd_sig fun a d hd => by
  obtain ⟨hg, hd⟩ := br_run hd
  cases hd
  exact fn182 h0 hg
theorem run138 (x y : Int) : bodyK ((cfg w0).at [c182]) 40 (fnOf Tryz.f138) [I x, I y] =
    bif decide (y < 0) then
      bif pos2 (IntKind.i64.wrap (0 - x)) (IntKind.i64.wrap (0 - y)) then
        bif decide (gc (IntKind.i64.wrap (0 - x)) (IntKind.i64.wrap (0 - y)) = 0) then none else bif decide (gc (IntKind.i64.wrap (0 - x)) (IntKind.i64.wrap (0 - y)) = 0) then none else
          some (.agg [I (W ((IntKind.i64.wrap (0 - x)).tdiv (gc (IntKind.i64.wrap (0 - x)) (IntKind.i64.wrap (0 - y))))), I (W ((IntKind.i64.wrap (0 - y)).tdiv (gc (IntKind.i64.wrap (0 - x)) (IntKind.i64.wrap (0 - y)))))])
      else none
    else
      bif pos2 x y then
        bif decide (gc x y = 0) then none else bif decide (gc x y = 0) then none else some (.agg [I (W (x.tdiv (gc x y))), I (W (y.tdiv (gc x y)))])
      else none := by kernel_rfl
theorem gd138 (h0 : Lib0 w0) : Gd (cfg w0) (lowC 138) := gd_k h0 (cs := [c182]) ⟨gd182 h0, trivial⟩ (fd := fnOf Tryz.f138) rfl (n := 40) fun a d hd => by
  obtain ⟨hp, hd⟩ := br_run hd
  cases hd
  obtain ⟨x, y, u⟩ := a
  refine (run138 x y).trans ?_
  have hp : pos2 x y = true := hp
  obtain ⟨h1, h2, h3, h4⟩ := pos2_ok hp
  have hg := gc_pos (a := x) h2
  rw [decide_eq_false (show ¬ (show Int from y) < 0 from Int.not_lt.2 (Int.le_of_lt h2)), hp, decide_eq_false (show ¬ gc x y = 0 from fun h => by rw [h] at hg; exact absurd hg (by decide)), tdiv_big ⟨h1, h3⟩ hg, tdiv_big ⟨Int.le_of_lt h2, h4⟩ hg]
  rfl


abbrev flK : List Kd := [boK]
def b1 (x : Tup flK) : Bool := x.1
def tb1 (b : Bool) : Tup flK := (b, ())
def abE (n : Int) (x : Tup intK) : Tup flK := tb1 (decide (levR (i1 x) ≥ n))
def relAb : List (Nat × Cv) := [(8, .id), (9, .id), (10, .id), (5, .ov flK), (1, .id)]
def stAb (n : Int) (l : List (Tup intK)) (a : Int × List (Tup flK)) : List D := [.vec intK l, I l.length, I a.1, .ovec flK a.2, .fn 168 [] [.box [I n]]]
theorem round167 (n j : Int) (l : List (Tup intK)) (o : List (Tup flK)) : rndD ((cfg w0).at [c124]) 40 [] 40 (fnOf Tryz.f167).ntmps relAb (lpB 0 (fnOf Tryz.f167).body) (stAb n l (j, o)) =
    bif decide (j < l.length) then bif inO l j then
      bif (Nat.ble ((o ++ [abE n (nth l j.toNat)]).length * 1) 1000000000000 && Nat.ble (o ++ [abE n (nth l j.toNat)]).length 1000000000000) then some ([], .normal, stAb n l (W (j + 1), o ++ [abE n (nth l j.toNat)])) else none
    else none else some ([], .exit 0, stAb n l (j, o)) := by kernel_rfl
theorem body167 (n : Int) (l : List (Tup intK)) (p : Int × List (Tup flK)) : bodyT ((cfg w0).at [c124]) 40 [ldP 0 (fnOf Tryz.f167).ntmps relAb .normal (stAb n l p)] 40 (fnOf Tryz.f167) [.vec intK l, .fn 168 [] [.box [I n]]] =
    some ([(ldP 0 (fnOf Tryz.f167).ntmps relAb .normal (stAb n l p), .loop (lpB 0 (fnOf Tryz.f167).body), stAb n l (0, []))], .vec flK p.2) := by kernel_rfl
theorem fn167 (h0 : Lib0 w0) (n : Int) (l : List (Tup intK)) (hg : l.length ≤ 100000) : FnD (cfg w0) 167 [.vec intK l, .fn 168 [] [.box [I n]]] (.vec flK (l.map (abE n))) := by
  refine fn_ls h0 (cs := [c124]) ⟨gd124 h0, trivial⟩ (fd := fnOf Tryz.f167) rfl relAb l (by omega) (stAb n l) (fun w a => (X.normal, a ++ [abE n w])) (fun j a => a.length = j) (a0 := []) rfl
    (fun j a hj hi => .leaf (by
      have hi : a.length = j := hi
      rw [round167, inO_nat hj, lt_t hj, Int.toNat_natCast, room (by omega) (by omega)]
      rfl)) (fun j a a' _ hi h => by cases h; simp [hi])
    (fun a _ => .leaf (by rw [round167, ge_f]; rfl)) fun x p hx => ?_
  rw [lsRun_fold (h := fun w b => b ++ [abE n w]) 0 l 0 [] (fun _ _ _ => rfl), foldl_snoc (abE n)] at hx
  cases hx
  exact body167 n l _
def asCl (d : D) : Option Int := match d with
  | .fn 168 [] [.box [.val (.int .i64 n)]] => some n
  | _ => none
theorem asCl_eq {d : D} {n : Int} (h : asCl d = some n) : d = .fn 168 [] [.box [I n]] := by
  unfold asCl at h
  split at h
  · cases h; rfl
  · cases h
def c167 : Ct := ct 167 [.v intK, .x] fun a => match asCl a.2.1 with
  | some n => .br (Nat.ble (a.1 : List (Tup intK)).length 100000) (.leaf (.vec flK ((a.1 : List (Tup intK)).map (abE n)))) .bad
  | none => .bad
theorem gd167 (h0 : Lib0 w0) : Gd (cfg w0) c167 := gd_sig fun a d hd => by
  obtain ⟨l, f, u⟩ := a
  simp only at hd
  cases hb : asCl f with
  | none => rw [hb] at hd; cases hd
  | some n =>
    rw [hb] at hd
    obtain ⟨hg, hd⟩ := br_run hd
    cases hd
    cases asCl_eq hb
    exact fn167 h0 n l (Nat.le_of_ble_eq_true hg)
theorem run102 (g : Gr) (n : Int) : bodyK ((cfg w0).at [c167]) 40 (fnOf Tryz.f102) [gD g, I n] = bif smG g then some (.vec flK (g.l.map (abE n))) else none := by cases g; kernel_rfl
def c102 : Ct := gC 102 [.c ik] fun g a => .br (smG g) (.leaf (.vec flK (g.l.map (abE a.1)))) .bad
theorem gd102 (h0 : Lib0 w0) : Gd (cfg w0) c102 := gd_g fun g a d hd => by
  obtain ⟨hg, hd⟩ := br_run hd
  cases hd
  refine fnD_k (cfg_ok w0) h0 (cs := [c167]) ⟨gd167 h0, trivial⟩ (fd := fnOf Tryz.f102) rfl (n := 40) ((run102 g a.1).trans ?_)
  rw [hg]; rfl
end
end Go.Proofs.YthcpfignhalffaaGreatDoor
