/-
  A part of the proof of the statement that the claim names: see the last file.
-/
import Derived.Test.YtifnpljmjhnbaaaGreatDoorT4
namespace Go.Proofs.YtifnpljmjhnbaaaGreatDoor
open Go Go.Am
set_option maxRecDepth 100000
variable {w0 : World}
noncomputable section


def rel69 : List (Nat × Cv) := [(0, .id), (1, .id), (2, .id), (7, .ov intK), (8, .id)]
def st69 (l : List (Tup evK)) (p : List (Tup paK)) (s : Int) (a : Int × TLi) : List D := [.vec evK l, .vec paK p, I s, .ovec intK a.2, I a.1]
def rel69i : List (Nat × Cv) := [(0, .id), (1, .id), (2, .id), (7, .ov intK), (8, .id), (10, .id), (9, .id)]
def st69i (l : List (Tup evK)) (p : List (Tup paK)) (s : Int) (o : TLi) (i : Int) (a : Int × Bool) : List D := [.vec evK l, .vec paK p, I s, .ovec intK o, I i, I a.1, Bo a.2]
def ld69i (l : List (Tup evK)) (p : List (Tup paK)) (s : Int) (o : TLi) (i : Int) (a : Int × Bool) : Ld := ldP 2 (fnOf Tryz.f69).ntmps rel69i .normal (st69i l p s o i a)
def exR (e : Tup evK) (q : Tup paK) (s : Int) : Bool := noB (whyR e q s)
theorem round69i (l : List (Tup evK)) (p : List (Tup paK)) (s : Int) (o : TLi) (i k : Int) (b : Bool) : rndD ((cfg w0).at [c122]) 40 [] 40 (fnOf Tryz.f69).ntmps rel69i (lpB 2 (fnOf Tryz.f69).body) (st69i l p s o i (k, b)) =
    bif decide (k < p.length) then
      bif b then some ([], .normal, st69i l p s o i (W (k + 1), true)) else
      bif inE l i then bif inP p k then some ([], .normal, st69i l p s o i (W (k + 1), exR (nth l i.toNat) (nth p k.toNat) s)) else none else none
    else some ([], .exit 2, st69i l p s o i (k, b)) := by kernel_rfl
theorem round69 (l : List (Tup evK)) (p : List (Tup paK)) (s : Int) (o : TLi) (i : Int) (k : Int) (b : Bool) : rndD ((cfg w0).at [c122]) 40 [ld69i l p s o i (k, b)] 40 (fnOf Tryz.f69).ntmps rel69 (lpB 0 (fnOf Tryz.f69).body) (st69 l p s (i, o)) =
    bif decide (i < l.length) then
      bif !b then bif (Nat.ble ((o ++ [t1 i]).length * 8) 1000000000000 && Nat.ble (o ++ [t1 i]).length 1000000000000) then some ([(ld69i l p s o i (k, b), .loop (lpB 2 (fnOf Tryz.f69).body), st69i l p s o i (0, false))], .normal, st69 l p s (W (i + 1), o ++ [t1 i])) else none
      else some ([(ld69i l p s o i (k, b), .loop (lpB 2 (fnOf Tryz.f69).body), st69i l p s o i (0, false))], .normal, st69 l p s (W (i + 1), o))
    else some ([], .exit 0, st69 l p s (i, o)) := by kernel_rfl
theorem body69 (l : List (Tup evK)) (p : List (Tup paK)) (s : Int) (a : Int × TLi) : bodyT ((cfg w0).at [c122]) 40 [ldP 0 (fnOf Tryz.f69).ntmps rel69 .normal (st69 l p s a)] 40 (fnOf Tryz.f69) [.vec evK l, .vec paK p, I s] =
    some ([(ldP 0 (fnOf Tryz.f69).ntmps rel69 .normal (st69 l p s a), .loop (lpB 0 (fnOf Tryz.f69).body), st69 l p s (0, []))], .vec intK a.2) := by kernel_rfl
def knoB (l : List (Tup evK)) (p : List (Tup paK)) (s : Int) (i : Nat) : Bool := p.any fun q => exR (nth l i) q s
theorem foldl_or {α : Type} (f : α → Bool) : ∀ (l : List α) (b : Bool), l.foldl (fun b x => b || f x) b = (b || l.any f)
  | [], b => by simp
  | x :: xs, b => by rw [List.foldl_cons, foldl_or f xs, List.any_cons, Bool.or_assoc]
def refU (p : List (Tup paK)) (s : Int) : List (Tup evK) → Int → List Int
  | [], _ => []
  | e :: es, i => bif p.any (fun q => exR e q s) then refU p s es (i + 1) else i :: refU p s es (i + 1)
def out69 (l : List (Tup evK)) (p : List (Tup paK)) (s : Int) (i : Nat) (o : TLi) : TLi := bif knoB l p s i then o else o ++ [t1 i]
theorem rd69 (h0 : Lib0 w0) (l : List (Tup evK)) (p : List (Tup paK)) (s : Int) (hp : p.length ≤ 1000000) (j : Nat) (o : TLi) (hj : j < l.length) (ho : o.length ≤ 1000000) : RdOK ((cfg w0).at [c122]) (fnOf Tryz.f69).ntmps rel69 (lpB 0 (fnOf Tryz.f69).body) (st69 l p s ((j : Int), o)) .normal (st69 l p s (W ((j : Int) + 1), out69 l p s j o)) := by
  have hq : lsRun 2 (fun (q : Tup paK) b => (X.normal, b || exR (nth l j) q s)) p 0 false = (.exit 2, (((0 + p.length : Nat) : Int), knoB l p s j)) := by
    rw [lsRun_fold (h := fun q b => b || exR (nth l j) q s) 2 p 0 false (fun _ _ _ => rfl), foldl_or]
    rfl
  have key := fun x a => ldT_ls (at_ok (cfg_ok w0) [c122]) (at_sp h0 (cs := [c122]) ⟨gd122 h0, trivial⟩) (N := (fnOf Tryz.f69).ntmps) (rel := rel69i) (B := lpB 2 (fnOf Tryz.f69).body) (id := 2) p (by omega) (st69i l p s o j) (fun (q : Tup paK) b => (X.normal, b || exR (nth l j) q s)) (fun _ _ => True)
    (fun k b hk _ => .leaf (by
      rw [round69i, inP_nat hk, inE_nat hj, lt_t hk, Int.toNat_natCast, Int.toNat_natCast]
      cases b <;> rfl)) (fun _ _ _ _ _ _ => trivial)
    (fun b _ => .leaf (by rw [round69i, ge_f]; rfl)) (a0 := false) trivial (x := x) (p := a)
  have hrd := round69 (w0 := w0) l p s o j (((0 + p.length : Nat) : Int)) (knoB l p s j)
  rw [lt_t hj] at hrd
  unfold out69
  cases hb : knoB l p s j with
  | true =>
    rw [hb] at hrd hq
    exact .one hrd (key _ _ hq)
  | false =>
    rw [hb, room ho (by omega)] at hrd
    rw [hb] at hq
    exact .one hrd (key _ _ hq)
theorem fold69 (l : List (Tup evK)) (p : List (Tup paK)) (s : Int) : ∀ (lb la : List (Tup evK)) (o : TLi), l = la ++ lb → rgRun 0 (fun i o => (X.normal, out69 l p s i o)) lb.length la.length o = (.exit 0, (((la.length + lb.length : Nat) : Int), o ++ (refU p s lb la.length).map t1))
  | [], la, o, h => by simp [rgRun, refU]
  | e :: lb, la, o, h => by
    have k1 : nth l la.length = e := by subst h; simp [nth, List.getD_eq_getElem?_getD]
    have ih := fold69 l p s lb (la ++ [e]) (out69 l p s la.length o) (by rw [h]; simp)
    rw [List.length_cons]
    unfold rgRun
    rw [List.length_append, List.length_singleton] at ih
    refine ih.trans ?_
    rw [show la.length + 1 + lb.length = la.length + (lb.length + 1) by omega]
    conv => rhs; unfold refU
    unfold out69 knoB
    rw [k1]
    cases (p.any fun q => exR e q s) <;> simp
theorem out69_len (l : List (Tup evK)) (p : List (Tup paK)) (s : Int) (i : Nat) (o : TLi) : (out69 l p s i o).length ≤ o.length + 1 := by
  unfold out69
  cases knoB l p s i <;> simp
theorem fn69 (h0 : Lib0 w0) (l : List (Tup evK)) (p : List (Tup paK)) (s : Int) (hl : l.length ≤ 100000) (hp : p.length ≤ 100000) : FnD (cfg w0) 69 [.vec evK l, .vec paK p, I s] (.vec intK ((refU p s l 0).map t1)) := by
  refine fn_rg h0 (cs := [c122]) ⟨gd122 h0, trivial⟩ (fd := fnOf Tryz.f69) rfl rel69 l.length (by omega) (st69 l p s) (fun i o => (X.normal, out69 l p s i o)) (fun i o => o.length ≤ i) (a0 := []) (by simp)
    (fun j a hj hi => rd69 h0 l p s (by omega) j a hj (by omega)) (fun j a a' _ hi h => by cases h; have := out69_len l p s j a; omega)
    (fun a _ => .leaf ((round69 l p s a l.length 0 false).trans (by rw [ge_f]; rfl))) fun x q hx => ?_
  have hf := fold69 l p s l [] [] rfl
  simp only [List.length_nil, List.nil_append] at hf
  rw [show rgRun 0 (fun i o => (X.normal, out69 l p s i o)) l.length 0 [] = _ from hf] at hx
  cases hx
  exact body69 l p s _
def smE (l : List (Tup evK)) : Bool := Nat.ble l.length 100000
def c69 : Ct := ct 69 [.v evK, .v paK, .c ik] fun a => .br (smE a.1) (.br (smP a.2.1) (.leaf (.vec intK ((refU a.2.1 a.2.2.1 a.1 0).map t1))) .bad) .bad
theorem gd69 (h0 : Lib0 w0) : Gd (cfg w0) c69 := gd_sig fun a d hd => by
  obtain ⟨l, p, s, u⟩ := a
  obtain ⟨hg, hd⟩ := br_run hd
  obtain ⟨hp, hd⟩ := br_run hd
  cases hd
  exact fn69 h0 l p s (Nat.le_of_ble_eq_true hg) (Nat.le_of_ble_eq_true hp)
theorem any_va (e : Tup evK) (p : List (Tup paK)) (s : Int) (hs : s ≤ 300) : (vaL e p s).any isV = p.any fun q => expl e q s := by
  unfold vaL
  rw [List.any_map]
  congr 1
  funext q
  show (valN e q s != -1) = _
  unfold bne
  rw [valN_none hs, Bool.not_not]
theorem exR_eq {e : Tup evK} {q : Tup paK} (h1 : okE e) (h2 : okP q) (s : Int) : exR e q s = expl e q s := by
  unfold exR
  rw [show noB (whyR e q s) = !somB (whyR e q s) by rw [somB_eq, Bool.not_not]]
  unfold whyR
  rw [← dist_ok h1 h2, show whyL (decide (distP e q > s)) (engB e q) = whyP e q s from rfl, somB_why]
  rfl
theorem any_congr {α : Type} {f g : α → Bool} : ∀ {l : List α}, (∀ x ∈ l, f x = g x) → l.any f = l.any g
  | [], _ => rfl
  | x :: xs, h => by rw [List.any_cons, List.any_cons, h x (by simp), any_congr fun y hy => h y (List.mem_cons_of_mem _ hy)]
theorem unk_ref {p : List (Tup paK)} {s : Int} (hp : ∀ q ∈ p, okP q) (hs : s ≤ 300) : ∀ (l : List (Tup evK)) (i : Int), (∀ e ∈ l, okE e) → unkL (l.map fun e => vaL e p s) i = refU p s l i
  | [], i, _ => rfl
  | e :: es, i, he => by
    rw [List.map_cons]
    unfold unkL refU
    rw [unk_ref hp hs es (i + 1) fun x h => he x (List.mem_cons_of_mem _ h), any_va e p s hs, any_congr fun q hq => exR_eq (he e (by simp)) (hp q hq) s]
end
end Go.Proofs.YtifnpljmjhnbaaaGreatDoor
