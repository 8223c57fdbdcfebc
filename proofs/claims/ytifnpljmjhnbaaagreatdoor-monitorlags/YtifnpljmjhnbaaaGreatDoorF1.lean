/-
  A part of the proof of the statement that the claim names: see the last file.
-/
import Derived.Test.YtifnpljmjhnbaaaGreatDoorS2
namespace Go.Proofs.YtifnpljmjhnbaaaGreatDoor
open Go Go.Am
set_option maxRecDepth 100000
variable {w0 : World}
noncomputable section


def v1 (x : Tup IvK) : Int := x.1
def v2 (x : Tup IvK) : Int := x.2.1
abbrev pr (a b : Int) : Tup IvK := (a, b, ())
theorem bif_A {c : Bool} {a b a' b' : Int} : (bif c then some (D.agg [I a, I b]) else some (D.agg [I a', I b'])) = some (D.agg [I (bif c then a else a'), I (bif c then b else b')]) := by cases c <;> rfl
def lo95 (n f : Int) : Int := bif n == -1 then -1 else IntKind.i64.wrap ((IntKind.i64.wrap (n * f)).tdiv 1000)
def hi95 (n f : Int) : Int := bif n == -1 then -1 else upZ (IntKind.i64.wrap (n * f)) 1000
theorem run95 (n a b : Int) : bodyK ((cfg w0).at [divC 87 upZ]) 40 (fnOf Tryz.f95) [I n, .box [I a, I b]] = bif n == -1 then some (.agg [I (-1), I (-1)]) else some (.agg [I (IntKind.i64.wrap ((IntKind.i64.wrap (n * a)).tdiv 1000)), I (upZ (IntKind.i64.wrap (n * b)) 1000)]) := by kernel_rfl
def c95 : Ct := ct 95 [.c ik, .r IvK] fun a => .leaf (.agg [I (lo95 a.1 a.2.1.1), I (hi95 a.1 a.2.1.2.1)])
theorem gd95 (h0 : Lib0 w0) : Gd (cfg w0) c95 := gd_k h0 (cs := [divC 87 upZ]) ⟨gd87 h0, trivial⟩ (fd := fnOf Tryz.f95) rfl (n := 40) fun a d hd => by
  obtain ⟨n, ⟨x, y, _⟩, u⟩ := a
  cases hd
  exact (run95 n x y).trans bif_A
def coE (a b : Int) (x : Tup intK) : Tup IvK := pr (lo95 (i1 x) a) (hi95 (i1 x) b)
def rel94 : List (Nat × Cv) := [(8, .id), (9, .id), (10, .id), (5, .ov IvK), (1, .id)]
def st94 (lo hi : Int) (l : List (Tup intK)) (a : Int × List (Tup IvK)) : List D := [.vec intK l, I l.length, I a.1, .ovec IvK a.2, .fn 95 [] [.box [I lo, I hi]]]
theorem round94 (lo hi j : Int) (l : List (Tup intK)) (o : List (Tup IvK)) : rndD ((cfg w0).at [c95]) 40 [] 40 (fnOf Tryz.f94).ntmps rel94 (lpB 0 (fnOf Tryz.f94).body) (st94 lo hi l (j, o)) =
    bif decide (j < l.length) then bif inO l j then
      bif (Nat.ble ((o ++ [coE lo hi (nth l j.toNat)]).length * 16) 1000000000000 && Nat.ble (o ++ [coE lo hi (nth l j.toNat)]).length 1000000000000) then some ([], .normal, st94 lo hi l (W (j + 1), o ++ [coE lo hi (nth l j.toNat)])) else none
    else none else some ([], .exit 0, st94 lo hi l (j, o)) := by kernel_rfl
theorem body94 (lo hi : Int) (l : List (Tup intK)) (p : Int × List (Tup IvK)) : bodyT ((cfg w0).at [c95]) 40 [ldP 0 (fnOf Tryz.f94).ntmps rel94 .normal (st94 lo hi l p)] 40 (fnOf Tryz.f94) [.vec intK l, .fn 95 [] [.box [I lo, I hi]]] =
    some ([(ldP 0 (fnOf Tryz.f94).ntmps rel94 .normal (st94 lo hi l p), .loop (lpB 0 (fnOf Tryz.f94).body), st94 lo hi l (0, []))], .vec IvK p.2) := by kernel_rfl
theorem fn94 (h0 : Lib0 w0) (lo hi : Int) (l : List (Tup intK)) (hg : l.length ≤ 100000) : FnD (cfg w0) 94 [.vec intK l, .fn 95 [] [.box [I lo, I hi]]] (.vec IvK (l.map (coE lo hi))) := by
  refine fn_ls h0 (cs := [c95]) ⟨gd95 h0, trivial⟩ (fd := fnOf Tryz.f94) rfl rel94 l (by omega) (st94 lo hi l) (fun w a => (X.normal, a ++ [coE lo hi w])) (fun j a => a.length = j) (a0 := []) rfl
    (fun j a hj hi' => .leaf (by
      have hi' : a.length = j := hi'
      rw [round94, inO_nat hj, lt_t hj, Int.toNat_natCast, room (by omega) (by omega)]
      rfl)) (fun j a a' _ hi h => by cases h; simp [hi])
    (fun a _ => .leaf (by rw [round94, ge_f]; rfl)) fun x p hx => ?_
  rw [lsRun_fold (h := fun w b => b ++ [coE lo hi w]) 0 l 0 [] (fun _ _ _ => rfl), foldl_snoc (coE lo hi)] at hx
  cases hx
  exact body94 lo hi l _
def asIv (d : D) : Option (Int × Int) := match d with
  | .fn 95 [] [.box [.val (.int .i64 a), .val (.int .i64 b)]] => some (a, b)
  | _ => none
theorem asIv_eq {d : D} {p : Int × Int} (h : asIv d = some p) : d = .fn 95 [] [.box [I p.1, I p.2]] := by
  unfold asIv at h
  split at h
  · cases h; rfl
  · cases h
def c94 : Ct := ct 94 [.v intK, .x] fun a => match asIv a.2.1 with
  | some p => .br (sm a.1) (.leaf (.vec IvK ((a.1 : List (Tup intK)).map (coE p.1 p.2)))) .bad
  | none => .bad
theorem gd94 (h0 : Lib0 w0) : Gd (cfg w0) c94 := gd_sig fun a d hd => by
  obtain ⟨l, f, u⟩ := a
  simp only at hd
  cases hb : asIv f with
  | none => rw [hb] at hd; cases hd
  | some p =>
    rw [hb] at hd
    obtain ⟨hg, hd⟩ := br_run hd
    cases hd
    cases asIv_eq hb
    exact fn94 h0 p.1 p.2 l (sm_le hg)


def ixR (p : Nat → Bool) : Nat → Nat → Int
  | 0, _ => -1
  | f + 1, i => bif p i then (i : Int) else ixR p f (i + 1)
theorem rgRun_ix {p : Nat → Bool} : ∀ (f i : Nat) (a : Int), rgRun 0 (fun j a => bif p j then (X.ret, (j : Int)) else (.normal, a)) f i a = bif decide (ixR p f i ≥ 0) then (.ret, (ixR p f i, ixR p f i)) else (.exit 0, (((i + f : Nat) : Int), a))
  | 0, i, a => rfl
  | f + 1, i, a => by
    unfold rgRun ixR
    cases hp : p i with
    | true =>
      simp only [cond_true]
      rw [decide_eq_true (by omega)]
      rfl
    | false =>
      simp only [cond_false]
      rw [rgRun_ix f (i + 1) a, show i + 1 + f = i + (f + 1) by omega]
theorem ixR_any {p : Nat → Bool} : ∀ (f i : Nat), decide (ixR p f i ≥ 0) = (List.range' i f).any p
  | 0, i => rfl
  | f + 1, i => by
    rw [List.range'_succ, List.any_cons]
    unfold ixR
    cases hp : p i with
    | true => simp only [cond_true, Bool.true_or]; exact decide_eq_true (by omega)
    | false => simp only [cond_false, Bool.false_or]; exact ixR_any f (i + 1)
theorem ixR_neg {p : Nat → Bool} : ∀ (f i : Nat), decide (ixR p f i ≥ 0) = false → ixR p f i = -1
  | 0, i, _ => rfl
  | f + 1, i, h => by
    unfold ixR at h ⊢
    cases hp : p i with
    | true => rw [hp] at h; simp only [cond_true] at h; have := of_decide_eq_false h; omega
    | false => rw [hp] at h; exact ixR_neg f (i + 1) h
theorem range_any {ks : List Kd} (q : Tup ks → Bool) (l : List (Tup ks)) : (List.range' 0 l.length).any (fun j => q (nth l j)) = l.any q := by
  rw [Bool.eq_iff_iff, List.any_eq_true, List.any_eq_true]
  simp only [List.mem_range'_1]
  constructor
  · rintro ⟨j, ⟨_, hj⟩, h⟩
    refine ⟨nth l j, ?_, h⟩
    rw [show nth l j = l[j]'(by omega) by simp only [nth, List.getD_eq_getElem?_getD, List.getElem?_eq_getElem (show j < l.length by omega), Option.getD_some]]
    exact List.getElem_mem _
  · rintro ⟨x, hx, h⟩
    obtain ⟨j, hj, rfl⟩ := List.getElem_of_mem hx
    refine ⟨j, ⟨by omega, by omega⟩, ?_⟩
    rwa [show nth l j = l[j]'(by omega) by simp only [nth, List.getD_eq_getElem?_getD, List.getElem?_eq_getElem (show j < l.length by omega), Option.getD_some]]

def biB (x : Tup IvK) : Bool := decide (v2 x > maxE)
def rel143 : List (Nat × Cv) := [(0, .id), (7, .id), (8, .id), (1, .id), (4, .id)]
def st143 (l : List (Tup IvK)) (a : Int × Int) : List D := [.vec IvK l, I l.length, I a.1, .fn 97 [] [], I a.2]
theorem round143 (l : List (Tup IvK)) (j b : Int) : rndD ((cfg w0).at []) 40 [] 40 (fnOf Tryz.f143).ntmps rel143 (lpB 0 (fnOf Tryz.f143).body) (st143 l (j, b)) =
    bif decide (j < l.length) then bif (Nat.beq 2 2 && (decide (0 ≤ j) && decide (j < l.length))) then
      bif biB (nth l j.toNat) then some ([], .ret, st143 l (j, j)) else some ([], .normal, st143 l (W (j + 1), b))
    else none else some ([], .exit 0, st143 l (j, b)) := by kernel_rfl
theorem body143 (l : List (Tup IvK)) (x : X) (p : Int × Int) (hx : x = .ret ∨ x = .normal) : bodyT ((cfg w0).at []) 40 [ldP 0 (fnOf Tryz.f143).ntmps rel143 x (st143 l p)] 40 (fnOf Tryz.f143) [.vec IvK l, .fn 97 [] []] =
    some ([(ldP 0 (fnOf Tryz.f143).ntmps rel143 x (st143 l p), .loop (lpB 0 (fnOf Tryz.f143).body), st143 l (0, 0))], onX x (I p.2) (I (-1))) := by
  rcases hx with rfl | rfl <;> kernel_rfl
def ixB (l : List (Tup IvK)) : Int := ixR (fun j => biB (nth l j)) l.length 0
theorem fn143 (h0 : Lib0 w0) (l : List (Tup IvK)) (hg : l.length ≤ 100000) : FnD (cfg w0) 143 [.vec IvK l, .fn 97 [] []] (I (ixB l)) := by
  refine fn_rg h0 (cs := []) trivial (fd := fnOf Tryz.f143) rfl rel143 l.length (by omega) (st143 l) (fun j a => bif biB (nth l j) then (X.ret, (j : Int)) else (.normal, a)) (fun _ _ => True) (a0 := 0) trivial
    (fun j r hj _ => .leaf (by
      rw [round143, inb 2 hj, lt_t hj, Int.toNat_natCast]
      cases biB (nth l j) <;> rfl)) (fun _ _ _ _ _ _ => trivial)
    (fun r _ => .leaf (by rw [round143, ge_f]; rfl)) fun x p hx => ?_
  rw [rgRun_ix] at hx
  cases hz : decide (ixR (fun j => biB (nth l j)) l.length 0 ≥ 0) <;> rw [hz] at hx <;> cases hx
  · have e : ixB l = -1 := ixR_neg _ _ hz
    rw [e]
    exact body143 l _ _ (.inr rfl)
  · exact body143 l _ _ (.inl rfl)
def isFn (f : Nat) (d : D) : Bool :=
  match d with
  | .fn g [] [] => Nat.beq g f
  | _ => false
theorem isFn_eq {f : Nat} {d : D} (h : isFn f d = true) : d = .fn f [] [] := by
  unfold isFn at h
  split at h
  · rw [Nat.beq_eq] at h; rw [h]
  · cases h
def c143 : Ct := ct 143 [.v IvK, .x] fun a => match isFn 97 a.2.1 with
  | true => .br (Nat.ble (a.1 : List (Tup IvK)).length 100000) (.leaf (I (ixB a.1))) .bad
  | false => .bad
theorem gd143 (h0 : Lib0 w0) : Gd (cfg w0) c143 := gd_sig fun a d hd => by
  obtain ⟨l, f, u⟩ := a
  simp only at hd
  cases hb : isFn 97 f with
  | false => rw [hb] at hd; cases hd
  | true =>
    rw [hb] at hd
    obtain ⟨hg, hd⟩ := br_run hd
    cases hd
    cases isFn_eq hb
    exact fn143 h0 l (Nat.le_of_ble_eq_true hg)
end
end Go.Proofs.YtifnpljmjhnbaaaGreatDoor
