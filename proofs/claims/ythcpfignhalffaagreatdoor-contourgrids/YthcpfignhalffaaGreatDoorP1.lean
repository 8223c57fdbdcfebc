/-
  A part of the proof of the statement that the claim names: see the last file.
-/
import Derived.Test.YthcpfignhalffaaGreatDoorC7
import Derived.Test.YthcpfignhalffaaGreatDoorAm4
namespace Go.Proofs.YthcpfignhalffaaGreatDoor
open Go Go.Am
set_option maxRecDepth 100000
variable {w0 : World}
noncomputable section

abbrev Rn := Option (Obs × X × List D)
def inO (o : List (Tup intK)) (j : Int) : Bool := Nat.beq 1 1 && (decide (0 ≤ j) && decide (j < o.length))
theorem inO_nat {o : List (Tup intK)} {j : Nat} (h : j < o.length) : inO o (j : Int) = true := inb 1 h


abbrev flK : List Kd := [boK]
def b1 (x : Tup flK) : Bool := x.1
def tb1 (b : Bool) : Tup flK := (b, ())
def abE (n : Int) (x : Tup intK) : Tup flK := tb1 (decide (levR (i1 x) ≥ n))
def relAb : List (Nat × Cv) := [(8, .id), (9, .id), (10, .id), (5, .ov flK), (1, .id)]
def stAb (n : Int) (l : List (Tup intK)) (a : Int × List (Tup flK)) : List D := [.vec intK l, I l.length, I a.1, .ovec flK a.2, .fn 168 [] [.box [I n]]]
theorem round167 (n j : Int) (l : List (Tup intK)) (o : List (Tup flK)) : rndD ((cfg w0).at [c124]) 40 [] 40 (fnOf Tryz.f167).ntmps relAb (lpB 0 (fnOf Tryz.f167).body) (stAb n l (j, o)) =
    bif decide (j < l.length) then bif inO l j then
      bif (Nat.ble ((o ++ [abE n (nth l j.toNat)]).length * 1) 1000000000000 && Nat.ble (o ++ [abE n (nth l j.toNat)]).length 1000000000000) then some ([], .normal, stAb n l (W (j + 1), o ++ [abE n (nth l j.toNat)])) else none
    else none else some ([], .exit 0, stAb n l (j, o)) := by kernel_rfl
theorem body167 (n : Int) (l : List (Tup intK)) (p : Int × List (Tup flK)) : bodyT ((cfg w0).at [c124]) 40 [ldP 0 (fnOf Tryz.f167).ntmps relAb .normal (stAb n l p)] 40 (fnOf Tryz.f167) [.vec intK l, .fn 168 [] [.box [I n]]] =
    some ([(ldP 0 (fnOf Tryz.f167).ntmps relAb .normal (stAb n l p), .loop (lpB 0 (fnOf Tryz.f167).body), stAb n l (0, []))], .vec flK p.2) := by kernel_rfl
theorem fn167 (h0 : Lib0 w0) (n : Int) (l : List (Tup intK)) (hg : l.length ≤ 100000) : FnD (cfg w0) 167 [.vec intK l, .fn 168 [] [.box [I n]]] (.vec flK (l.map (abE n))) := by
  refine fn_ls h0 (cs := [c124]) ⟨gd124 h0, trivial⟩ (fd := fnOf Tryz.f167) rfl relAb l (by omega) (stAb n l) (fun w a => (X.normal, a ++ [abE n w])) (fun j a => a.length = j) (a0 := []) rfl
    (fun j a hj hi => .leaf (by
      have hi : a.length = j := hi
      rw [round167, inO_nat hj, lt_t hj, Int.toNat_natCast, room (by omega) (by omega)]
      rfl)) (fun j a a' _ hi h => by cases h; simp [hi])
    (fun a _ => .leaf (by rw [round167, ge_f]; rfl)) fun x p hx => ?_
  rw [lsRun_fold (h := fun w b => b ++ [abE n w]) 0 l 0 [] (fun _ _ _ => rfl), foldl_snoc (abE n)] at hx
  cases hx
  exact body167 n l _
def asCl (d : D) : Option Int := match d with
  | .fn 168 [] [.box [.val (.int .i64 n)]] => some n
  | _ => none
theorem asCl_eq {d : D} {n : Int} (h : asCl d = some n) : d = .fn 168 [] [.box [I n]] := by
  unfold asCl at h
  split at h
  · cases h; rfl
  · cases h
def c167 : Ct := ct 167 [.v intK, .x] fun a => match asCl a.2.1 with
  | some n => .br (Nat.ble (a.1 : List (Tup intK)).length 100000) (.leaf (.vec flK ((a.1 : List (Tup intK)).map (abE n)))) .bad
  | none => .bad
theorem gd167 (h0 : Lib0 w0) : Gd (cfg w0) c167 := gd_sig fun a d hd => by
  obtain ⟨l, f, u⟩ := a
  simp only at hd
  cases hb : asCl f with
  | none => rw [hb] at hd; cases hd
  | some n =>
    rw [hb] at hd
    obtain ⟨hg, hd⟩ := br_run hd
    cases hd
    cases asCl_eq hb
    exact fn167 h0 n l (Nat.le_of_ble_eq_true hg)
theorem run102 (g : Gr) (n : Int) : bodyK ((cfg w0).at [c167]) 40 (fnOf Tryz.f102) [gD g, I n] = bif smG g then some (.vec flK (g.l.map (abE n))) else none := by cases g; kernel_rfl
def c102 : Ct := gC 102 [.c ik] fun g a => .br (smG g) (.leaf (.vec flK (g.l.map (abE a.1)))) .bad
theorem gd102 (h0 : Lib0 w0) : Gd (cfg w0) c102 := gd_g fun g a d hd => by
  obtain ⟨hg, hd⟩ := br_run hd
  cases hd
  refine fnD_k (cfg_ok w0) h0 (cs := [c167]) ⟨gd167 h0, trivial⟩ (fd := fnOf Tryz.f102) rfl (n := 40) ((run102 g a.1).trans ?_)
  rw [hg]; rfl
end
end Go.Proofs.YthcpfignhalffaaGreatDoor

namespace Go.Proofs.YthcpfignhalffaaGreatDoor
open Go Go.Am
set_option maxRecDepth 100000
variable {w0 : World}
noncomputable section


def p1 (x : Tup ptK) : Int := x.1
def p2 (x : Tup ptK) : Int := x.2.1
def pr (x : Tup ptK) : Int × Int := (p1 x, p2 x)
def neP (a b : Tup ptK) : Bool := !(p1 a == p1 b && (p2 a == p2 b && true))
def sameP (a b : List (Tup ptK)) : Bool := decide (a.map pr = b.map pr)
theorem neP_eq (a b : Tup ptK) : neP a b = decide (pr a ≠ pr b) := by
  rw [Bool.eq_iff_iff]
  unfold neP pr
  rw [Bool.not_eq_true', decide_eq_true_iff, ne_eq, Prod.mk.injEq, Bool.and_true, Bool.and_eq_false_iff, beq_eq_false_iff_ne, beq_eq_false_iff_ne]
  exact ⟨fun h k => h.elim (fun h => h k.1) fun h => h k.2, fun h => (Classical.em (p1 a = p1 b)).elim (fun k => .inr fun k' => h ⟨k, k'⟩) .inl⟩
theorem sameP_any {a b : List (Tup ptK)} (h : a.length = b.length) : (List.range' 0 a.length).any (fun j => neP (nth a j) (nth b j)) = !sameP a b := by
  unfold sameP
  rw [Bool.eq_iff_iff, List.any_eq_true]
  simp only [List.mem_range'_1, neP_eq, decide_eq_true_eq, Bool.not_eq_true', decide_eq_false_iff_not]
  have hn : ∀ (l : List (Tup ptK)) (j : Nat) (hj : j < l.length), nth l j = l[j] := fun l j hj => by simp [nth, hj]
  constructor
  · rintro ⟨j, ⟨_, hj⟩, hne⟩ he
    have := congrArg (fun l => l[j]?) he
    simp only [List.getElem?_map] at this
    rw [List.getElem?_eq_getElem (by omega), List.getElem?_eq_getElem (by omega)] at this
    simp only [Option.map_some, Option.some.injEq] at this
    exact hne (by rw [hn a j (by omega), hn b j (by omega)]; exact this)
  · intro hne
    apply Classical.byContradiction
    intro hno
    apply hne
    apply List.ext_getElem?
    intro j
    simp only [List.getElem?_map]
    rcases Nat.lt_or_ge j a.length with hj | hj
    · rw [List.getElem?_eq_getElem hj, List.getElem?_eq_getElem (by omega)]
      simp only [Option.map_some, Option.some.injEq]
      apply Classical.byContradiction
      intro hx
      exact hno ⟨j, ⟨by omega, by omega⟩, fun hy => hx (by rw [hn a j (by omega), hn b j (by omega)] at hy; exact hy)⟩
    · rw [List.getElem?_eq_none hj, List.getElem?_eq_none (by omega)]
def rel98 : List (Nat × Cv) := [(0, .id), (1, .id), (5, .id), (4, .id)]
def st98 (a b : List (Tup ptK)) (s : Int × Bool) : List D := [.vec ptK a, .vec ptK b, I s.1, Bo s.2]
def inP (o : List (Tup ptK)) (j : Int) : Bool := Nat.beq 2 2 && (decide (0 ≤ j) && decide (j < o.length))
theorem inP_nat {o : List (Tup ptK)} {j : Nat} (h : j < o.length) : inP o (j : Int) = true := inb 2 h
def tree98 (a b : List (Tup ptK)) (j : Int) (r : Bool) : Rn :=
    bif decide (j < a.length) then bif inP a j then bif inP b j then
          bif neP (nth a j.toNat) (nth b j.toNat) then some ([], .ret, st98 a b (j, false)) else some ([], .normal, st98 a b (W (j + 1), r))
        else none else none
    else some ([], .exit 0, st98 a b (j, r))
theorem round98 (a b : List (Tup ptK)) (j : Int) (r : Bool) : rndD ((cfg w0).at []) 40 [] 40 (fnOf Tryz.f98).ntmps rel98 (lpB 0 (fnOf Tryz.f98).body) (st98 a b (j, r)) = tree98 a b j r := by kernel_rfl
theorem round56 (a b : List (Tup ptK)) (j : Int) (r : Bool) : rndD ((cfg w0).at []) 40 [] 40 (fnOf Tryz.f56).ntmps rel98 (lpB 0 (fnOf Tryz.f56).body) (st98 a b (j, r)) = tree98 a b j r := by kernel_rfl
def tb98 (f : AFn) (a b : List (Tup ptK)) (x : X) (p : Int × Bool) : Option (Obs × D) :=
    bif (a.length : Int) != b.length then some ([], Bo false) else
    some ([(ldP 0 f.ntmps rel98 x (st98 a b p), .loop (lpB 0 f.body), st98 a b (0, false))], onX x (Bo p.2) (Bo true))
theorem body98 (a b : List (Tup ptK)) (x : X) (p : Int × Bool) (hx : x = .ret ∨ x = .normal) : bodyT ((cfg w0).at []) 40 [ldP 0 (fnOf Tryz.f98).ntmps rel98 x (st98 a b p)] 40 (fnOf Tryz.f98) [.vec ptK a, .vec ptK b] = tb98 (fnOf Tryz.f98) a b x p := by
  rcases hx with rfl | rfl <;> kernel_rfl
theorem body56 (a b : List (Tup ptK)) (x : X) (p : Int × Bool) (hx : x = .ret ∨ x = .normal) : bodyT ((cfg w0).at []) 40 [ldP 0 (fnOf Tryz.f56).ntmps rel98 x (st98 a b p)] 40 (fnOf Tryz.f56) [.vec ptK a, .vec ptK b] = tb98 (fnOf Tryz.f56) a b x p := by
  rcases hx with rfl | rfl <;> kernel_rfl
theorem fnSame (h0 : Lib0 w0) {g : Nat} {f : AFn} (hf : fnTr.get g = some f) (a b : List (Tup ptK)) (hl : a.length ≤ 100000)
    (hr : ∀ j r, rndD ((cfg w0).at []) 40 [] 40 f.ntmps rel98 (lpB 0 f.body) (st98 a b (j, r)) = tree98 a b j r)
    (hn : ∀ x p, x = .ret ∨ x = .normal → bodyT ((cfg w0).at []) 40 [ldP 0 f.ntmps rel98 x (st98 a b p)] 40 f [.vec ptK a, .vec ptK b] = tb98 f a b x p) : FnD (cfg w0) g [.vec ptK a, .vec ptK b] (Bo (sameP a b)) := by
  cases hne : ((a.length : Int) != b.length) with
  | true =>
    have : sameP a b = false := by
      unfold sameP
      rw [decide_eq_false_iff_not]
      intro h
      have := congrArg List.length h
      simp only [List.length_map] at this
      rw [this] at hne
      simp at hne
    rw [this]
    refine fnD_t (cfg_ok w0) h0 (cs := []) trivial hf (o := []) ((hn .normal (0, true) (.inr rfl)).trans ?_) trivial
    unfold tb98
    rw [hne]; rfl
  | false =>
    have hab : a.length = b.length := Int.ofNat.inj (by simpa using hne)
    refine fn_rg h0 (cs := []) trivial hf rel98 a.length (by omega) (st98 a b) (fun j r => bif neP (nth a j) (nth b j) then (X.ret, false) else (.normal, r)) (fun _ _ => True) (a0 := false) trivial
      (fun j r hj _ => .leaf (by
        refine (hr _ _).trans ?_
        unfold tree98
        rw [inP_nat hj, inP_nat (hab ▸ hj), lt_t hj, Int.toNat_natCast]
        cases neP (nth a j) (nth b j) <;> rfl)) (fun _ _ _ _ _ _ => trivial)
      (fun r _ => .leaf ((hr _ _).trans (by unfold tree98; rw [ge_f]; rfl))) fun x p hx => ?_
    obtain ⟨q, hq⟩ := rgRun_any (id := 0) (p := fun j => neP (nth a j) (nth b j)) (c := false) a.length 0 false
    rw [hq, sameP_any hab] at hx
    cases hs : sameP a b <;> rw [hs] at hx <;> cases hx
    · exact (hn _ _ (.inl rfl)).trans (by unfold tb98; rw [hne]; rfl)
    · exact (hn _ _ (.inr rfl)).trans (by unfold tb98; rw [hne]; rfl)
def sameC (g : Nat) : Ct := ct g [.v ptK, .v ptK] fun a => .br (Nat.ble (a.1 : List (Tup ptK)).length 100000) (.leaf (Bo (sameP a.1 a.2.1))) .bad
theorem gd98 (h0 : Lib0 w0) : Gd (cfg w0) (sameC 98) := gd_sig fun a d hd => by
  obtain ⟨hg, hd⟩ := br_run hd
  cases hd
  exact fnSame h0 (f := fnOf Tryz.f98) rfl a.1 a.2.1 (Nat.le_of_ble_eq_true hg) (fun j r => round98 ..) (fun x p hx => body98 _ _ x p hx)
theorem gd56 (h0 : Lib0 w0) : Gd (cfg w0) (sameC 56) := gd_sig fun a d hd => by
  obtain ⟨hg, hd⟩ := br_run hd
  cases hd
  exact fnSame h0 (f := fnOf Tryz.f56) rfl a.1 a.2.1 (Nat.le_of_ble_eq_true hg) (fun j r => round56 ..) (fun x p hx => body56 _ _ x p hx)
def cellsB (l : List (Tup ptK)) (e bad : Int) (want : List (Tup ptK)) : Bool := sameP l (bif bad != 0 then [] else want) && (e == bad)
theorem cells_t (l want : List (Tup ptK)) (e bad : Int) (hg : Nat.ble l.length 100000 = true) : (bif bad != 0 then bif Nat.ble l.length 100000 then bif sameP l [] then some (Bo (e == bad)) else some (Bo false) else none
    else bif Nat.ble l.length 100000 then bif sameP l want then some (Bo (e == bad)) else some (Bo false) else none) = some (Bo (cellsB l e bad want)) := by
  unfold cellsB
  rw [hg]
  cases hb : (bad != 0)
  · simp only [cond_false, cond_true]
    cases sameP l want <;> simp
  · simp only [cond_true]
    cases sameP l [] <;> simp
def c58 : Ct := ct 58 [.v ptK, .c ik, .c ik, .v ptK] fun a => .br (Nat.ble (a.1 : List (Tup ptK)).length 100000) (.leaf (Bo (cellsB a.1 a.2.1 a.2.2.1 a.2.2.2.1))) .bad
theorem gd58 (h0 : Lib0 w0) : Gd (cfg w0) c58 := gd_sig fun a d hd => by
  obtain ⟨hg, hd⟩ := br_run hd
  cases hd
  obtain ⟨l, e, bad, want, u⟩ := a
  have key : ∀ (l want : List (Tup ptK)) (e bad : Int), bodyK ((cfg w0).at [sameC 98]) 40 (fnOf Tryz.f58) [.vec ptK l, I e, I bad, .vec ptK want] =
    bif bad != 0 then bif Nat.ble l.length 100000 then bif sameP l [] then some (Bo (e == bad)) else some (Bo false) else none
    else bif Nat.ble l.length 100000 then bif sameP l want then some (Bo (e == bad)) else some (Bo false) else none := fun l want e bad => by kernel_rfl
  refine fnD_k (cfg_ok w0) h0 (cs := [sameC 98]) ⟨gd98 h0, trivial⟩ (fd := fnOf Tryz.f58) rfl (n := 40) ((key l want e bad).trans ?_)
  exact cells_t l want e bad hg
theorem round41 (a b : List (Tup ptK)) (j : Int) (r : Bool) : rndD ((cfg w0).at []) 40 [] 40 (fnOf Tryz.f41).ntmps rel98 (lpB 0 (fnOf Tryz.f41).body) (st98 a b (j, r)) = tree98 a b j r := by kernel_rfl
theorem body41 (a b : List (Tup ptK)) (x : X) (p : Int × Bool) (hx : x = .ret ∨ x = .normal) : bodyT ((cfg w0).at []) 40 [ldP 0 (fnOf Tryz.f41).ntmps rel98 x (st98 a b p)] 40 (fnOf Tryz.f41) [.vec ptK a, .vec ptK b] = tb98 (fnOf Tryz.f41) a b x p := by
  rcases hx with rfl | rfl <;> kernel_rfl
theorem gd41 (h0 : Lib0 w0) : Gd (cfg w0) (sameC 41) := gd_sig fun a d hd => by
  obtain ⟨hg, hd⟩ := br_run hd
  cases hd
  exact fnSame h0 (f := fnOf Tryz.f41) rfl a.1 a.2.1 (Nat.le_of_ble_eq_true hg) (fun j r => round41 ..) (fun x p hx => body41 _ _ x p hx)
end
end Go.Proofs.YthcpfignhalffaaGreatDoor

namespace Go.Proofs.YthcpfignhalffaaGreatDoor
open Go Go.Am
set_option maxRecDepth 100000
variable {w0 : World}
noncomputable section


theorem lsRun_firstP {τ : Type} (p : τ → Int) : ∀ (l : List τ) (i : Nat) (a : Int), ∃ q : Nat, lsRun 0 (fun x a => bif p x != 0 then (X.ret, p x) else (.normal, a)) l i a = bif firstZ (l.map p) != 0 then (.ret, ((q : Int), firstZ (l.map p))) else (.exit 0, (((i + l.length : Nat) : Int), a))
  | [], i, a => ⟨0, rfl⟩
  | x :: xs, i, a => by
    obtain ⟨q, hq⟩ := lsRun_firstP p xs (i + 1) a
    unfold lsRun
    rw [List.map_cons]
    unfold firstZ
    cases hx : (p x != 0) with
    | true => exact ⟨i, by simp only [hx, cond_true]⟩
    | false =>
      refine ⟨q, ?_⟩
      simp only [cond_false]
      rw [hq]
      simp only [List.length_cons, show i + 1 + xs.length = i + (xs.length + 1) by omega]


def stMq (f : Nat) (l : List (Tup ptK)) (a : Int × List (Tup intK)) : List D := [.vec ptK l, I l.length, I a.1, .ovec intK a.2, .fn f [] []]
def treeMq (f : Nat) (k : Tup ptK → Tup intK) (l : List (Tup ptK)) (j : Int) (o : List (Tup intK)) : Rn :=
  bif decide (j < l.length) then bif inP l j then
    bif (Nat.ble ((o ++ [k (nth l j.toNat)]).length * 8) 1000000000000 && Nat.ble (o ++ [k (nth l j.toNat)]).length 1000000000000) then some ([], .normal, stMq f l (W (j + 1), o ++ [k (nth l j.toNat)])) else none
  else none else some ([], .exit 0, stMq f l (j, o))
theorem fnMq (h0 : Lib0 w0) {cs : List Ct} (hcs : Gds (cfg w0) cs) {g f : Nat} {fd : AFn} (hf : fnTr.get g = some fd) {k : Tup ptK → Tup intK} (l : List (Tup ptK)) (hg : l.length ≤ 100000)
    (hr : ∀ j o, rndD ((cfg w0).at cs) 40 [] 40 fd.ntmps relMp (lpB 0 fd.body) (stMq f l (j, o)) = treeMq f k l j o)
    (hb : ∀ p, bodyT ((cfg w0).at cs) 40 [ldP 0 fd.ntmps relMp .normal (stMq f l p)] 40 fd [.vec ptK l, .fn f [] []] = some ([(ldP 0 fd.ntmps relMp .normal (stMq f l p), .loop (lpB 0 fd.body), stMq f l (0, []))], .vec intK p.2)) : FnD (cfg w0) g [.vec ptK l, .fn f [] []] (.vec intK (l.map k)) := by
  refine fn_ls h0 hcs hf relMp l (by omega) (stMq f l) (fun w a => (X.normal, a ++ [k w])) (fun j a => a.length = j) (a0 := []) rfl
    (fun j a hj hi => .leaf (by
      have hi : a.length = j := hi
      refine (hr ..).trans ?_
      unfold treeMq
      rw [inP_nat hj, lt_t hj, Int.toNat_natCast, room (by omega) (by omega)]
      rfl)) (fun j a a' _ hi h => by cases h; simp [hi])
    (fun a _ => .leaf ((hr ..).trans (by unfold treeMq; rw [ge_f]; rfl))) fun x p hx => ?_
  rw [lsRun_fold (h := fun w b => b ++ [k w]) 0 l 0 [] (fun _ _ _ => rfl), foldl_snoc k] at hx
  cases hx
  exact hb _
def mapQ (g f : Nat) (k : Tup ptK → Tup intK) : Ct := ct g [.v ptK, .x] fun a => match isFn f a.2.1 with
  | true => .br (Nat.ble (a.1 : List (Tup ptK)).length 100000) (.leaf (.vec intK ((a.1 : List (Tup ptK)).map k))) .bad
  | false => .bad
theorem gdMq {g f : Nat} {k : Tup ptK → Tup intK} (h : ∀ l : List (Tup ptK), l.length ≤ 100000 → FnD (cfg w0) g [.vec ptK l, .fn f [] []] (.vec intK (l.map k))) : Gd (cfg w0) (mapQ g f k) := gd_sig fun a d hd => by
  obtain ⟨l, f', u⟩ := a
  simp only at hd
  cases hb : isFn f f' with
  | false => rw [hb] at hd; cases hd
  | true =>
    rw [hb] at hd
    obtain ⟨hg, hd⟩ := br_run hd
    cases hd
    cases isFn_eq hb
    exact h l (Nat.le_of_ble_eq_true hg)

def pcZ (p : Tup ptK) : Int := firstZ [withinZ (p1 p) 0 16, withinZ (p2 p) 0 16]
def ivZ (p : Tup ptK) : Int := firstZ [withinZ (p1 p) 0 1000000, withinZ (p2 p) 0 1000000, whenZ (decide (p1 p > p2 p)) 11]
def csMq : List Ct := [withinC 107, whenC 132, firstC 99]
theorem csMq_gd (h0 : Lib0 w0) : Gds (cfg w0) csMq := ⟨gd107 h0, gd132 h0, gd99 h0, trivial⟩
theorem round174 (l : List (Tup ptK)) (j : Int) (o : List (Tup intK)) : rndD ((cfg w0).at csMq) 40 [] 40 (fnOf Tryz.f174).ntmps relMp (lpB 0 (fnOf Tryz.f174).body) (stMq 175 l (j, o)) = treeMq 175 (fun p => t1 (pcZ p)) l j o := by kernel_rfl
theorem body174 (l : List (Tup ptK)) (p : Int × List (Tup intK)) : bodyT ((cfg w0).at csMq) 40 [ldP 0 (fnOf Tryz.f174).ntmps relMp .normal (stMq 175 l p)] 40 (fnOf Tryz.f174) [.vec ptK l, .fn 175 [] []] =
  some ([(ldP 0 (fnOf Tryz.f174).ntmps relMp .normal (stMq 175 l p), .loop (lpB 0 (fnOf Tryz.f174).body), stMq 175 l (0, []))], .vec intK p.2) := by kernel_rfl
theorem gd174 (h0 : Lib0 w0) : Gd (cfg w0) (mapQ 174 175 fun p => t1 (pcZ p)) := gdMq fun l hl => fnMq h0 (csMq_gd h0) (fd := fnOf Tryz.f174) rfl l hl (fun _ _ => round174 ..) (fun _ => body174 ..)
theorem round177 (l : List (Tup ptK)) (j : Int) (o : List (Tup intK)) : rndD ((cfg w0).at csMq) 40 [] 40 (fnOf Tryz.f177).ntmps relMp (lpB 0 (fnOf Tryz.f177).body) (stMq 178 l (j, o)) = treeMq 178 (fun p => t1 (ivZ p)) l j o := by kernel_rfl
theorem body177 (l : List (Tup ptK)) (p : Int × List (Tup intK)) : bodyT ((cfg w0).at csMq) 40 [ldP 0 (fnOf Tryz.f177).ntmps relMp .normal (stMq 178 l p)] 40 (fnOf Tryz.f177) [.vec ptK l, .fn 178 [] []] =
  some ([(ldP 0 (fnOf Tryz.f177).ntmps relMp .normal (stMq 178 l p), .loop (lpB 0 (fnOf Tryz.f177).body), stMq 178 l (0, []))], .vec intK p.2) := by kernel_rfl
theorem gd177 (h0 : Lib0 w0) : Gd (cfg w0) (mapQ 177 178 fun p => t1 (ivZ p)) := gdMq fun l hl => fnMq h0 (csMq_gd h0) (fd := fnOf Tryz.f177) rfl l hl (fun _ _ => round177 ..) (fun _ => body177 ..)


def smP (l : List (Tup ptK)) : Bool := Nat.ble l.length 100000
def lenE (l : List (Tup ptK)) : Int := firstZ [whenZ (decide ((l.length : Int) < 3)) 16, whenZ (decide ((l.length : Int) > 1024)) 5]
def chkP (l : List (Tup ptK)) : Int := bif lenE l != 0 then lenE l else firstZ (l.map pcZ)
theorem run117 (l : List (Tup ptK)) : bodyK ((cfg w0).at [whenC 132, firstC 99, mapQ 174 175 fun p => t1 (pcZ p)]) 40 (fnOf Tryz.f117) [.vec ptK l] =
    bif lenE l != 0 then some (I (lenE l)) else bif smP l then bif Nat.ble (l.map fun p => t1 (pcZ p)).length 100000 then some (I (firstZ ((l.map fun p => t1 (pcZ p)).map i1))) else none else none := by kernel_rfl
def chkPC (g : Nat) : Ct := ct g [.v ptK] fun a => .br (smP a.1) (.leaf (I (chkP a.1))) .bad
theorem gd117 (h0 : Lib0 w0) : Gd (cfg w0) (chkPC 117) := gd_sig fun a d hd => by
  obtain ⟨hg, hd⟩ := br_run hd
  cases hd
  obtain ⟨l, u⟩ := a
  have hg : smP l = true := hg
  refine fnD_k (cfg_ok w0) h0 (cs := [whenC 132, firstC 99, mapQ 174 175 fun p => t1 (pcZ p)]) ⟨gd132 h0, gd99 h0, gd174 h0, trivial⟩ (fd := fnOf Tryz.f117) rfl (n := 40) ((run117 l).trans ?_)
  have e : Nat.ble (List.map (fun p => t1 (pcZ p)) (show List (Tup ptK) from l)).length 100000 = true := by rw [List.length_map]; exact hg
  have e2 : ((show List (Tup ptK) from l).map fun p => t1 (pcZ p)).map i1 = (show List (Tup ptK) from l).map pcZ := by rw [List.map_map]; rfl
  refine (show _ = (bif lenE l != 0 then some (I (lenE l)) else bif smP l then bif Nat.ble (List.map (fun p => t1 (pcZ p)) (show List (Tup ptK) from l)).length 100000 then some (I (firstZ (((show List (Tup ptK) from l).map fun p => t1 (pcZ p)).map i1))) else none else none) from rfl).trans ?_
  rw [hg, e, e2]
  show _ = some (I (chkP l))
  unfold chkP
  generalize (lenE l != 0) = b
  cases b <;> rfl

def rel34 : List (Nat × Cv) := [(0, .id), (4, .id), (2, .id)]
def st34 (l : List (Tup ptK)) (a : Int × Int) : List D := [.vec ptK l, I a.1, I a.2]
def orR (c : Bool) (x y : Rn) : Rn := bif c then x else y
def tree34 (l : List (Tup ptK)) (j e : Int) : Rn :=
  bif decide (j < l.length) then bif inP l j then orR (decide (p1 (nth l j.toNat) < 0)) (some ([], .ret, st34 l (j, 3))) (
    bif inP l j then orR (decide (p1 (nth l j.toNat) > 16)) (some ([], .ret, st34 l (j, 3))) (
      bif inP l j then orR (decide (p2 (nth l j.toNat) < 0)) (some ([], .ret, st34 l (j, 3))) (
        bif inP l j then orR (decide (p2 (nth l j.toNat) > 16)) (some ([], .ret, st34 l (j, 3))) (some ([], .normal, st34 l (W (j + 1), e))) else none) else none) else none) else none
  else some ([], .exit 0, st34 l (j, e))
def cs34 : List Ct := [whenC 49, firstC 109]
theorem round34 (l : List (Tup ptK)) (j e : Int) : rndD ((cfg w0).at cs34) 40 [] 40 (fnOf Tryz.f34).ntmps rel34 (lpB 0 (fnOf Tryz.f34).body) (st34 l (j, e)) = tree34 l j e := by kernel_rfl
theorem body34 (l : List (Tup ptK)) (x : X) (p : Int × Int) (hx : x = .ret ∨ x = .normal) : bodyT ((cfg w0).at cs34) 40 [ldP 0 (fnOf Tryz.f34).ntmps rel34 x (st34 l p)] 40 (fnOf Tryz.f34) [.vec ptK l] =
    bif lenE l != 0 then some ([], I (lenE l)) else some ([(ldP 0 (fnOf Tryz.f34).ntmps rel34 x (st34 l p), .loop (lpB 0 (fnOf Tryz.f34).body), st34 l (0, 0))], onX x (I p.2) (I 0)) := by
  rcases hx with rfl | rfl <;> kernel_rfl
theorem pcZ_val (p : Tup ptK) : pcZ p = bif decide (p1 p < 0) || (decide (p1 p > 16) || (decide (p2 p < 0) || decide (p2 p > 16))) then 3 else 0 := by
  unfold pcZ withinZ whenZ
  cases decide (p1 p < 0) <;> cases decide (p1 p > 16) <;> cases decide (p2 p < 0) <;> cases decide (p2 p > 16) <;> rfl
theorem fn34 (h0 : Lib0 w0) (l : List (Tup ptK)) (hl : l.length ≤ 100000) : FnD (cfg w0) 34 [.vec ptK l] (I (chkP l)) := by
  have hcs : Gds (cfg w0) cs34 := ⟨gd49 h0, gd109 h0, trivial⟩
  unfold chkP
  cases he : (lenE l != 0) with
  | true =>
    refine fnD_t (cfg_ok w0) h0 hcs (fd := fnOf Tryz.f34) rfl (L := [ldP 0 (fnOf Tryz.f34).ntmps rel34 .normal (st34 l (0, 0))]) (o := []) ((body34 l .normal (0, 0) (.inr rfl)).trans ?_) trivial
    rw [he]; rfl
  | false =>
    refine fn_ls h0 hcs (fd := fnOf Tryz.f34) rfl rel34 l (by omega) (st34 l) (fun p a => bif pcZ p != 0 then (X.ret, pcZ p) else (.normal, a)) (fun _ _ => True) (a0 := 0) trivial
      (fun j a hj _ => .leaf (by
        rw [round34]
        unfold tree34
        rw [inP_nat hj, lt_t hj, Int.toNat_natCast, pcZ_val]
        generalize decide (p1 (nth l j) < 0) = c1
        generalize decide (p1 (nth l j) > 16) = c2
        generalize decide (p2 (nth l j) < 0) = c3
        generalize decide (p2 (nth l j) > 16) = c4
        cases c1 <;> cases c2 <;> cases c3 <;> cases c4 <;> rfl)) (fun _ _ _ _ _ _ => trivial)
      (fun a _ => .leaf (by rw [round34]; unfold tree34; rw [ge_f]; rfl)) fun x p hx => ?_
    obtain ⟨q, hq⟩ : ∃ q : Nat, lsRun 0 (fun (x : Tup ptK) (a : Int) => bif pcZ x != 0 then (X.ret, pcZ x) else (.normal, a)) l 0 0 = bif firstZ (l.map pcZ) != 0 then (.ret, ((q : Int), firstZ (l.map pcZ))) else (.exit 0, (((0 + l.length : Nat) : Int), 0)) := lsRun_firstP pcZ l 0 0
    rw [hq] at hx
    simp only [cond_false]
    cases hf : (firstZ (l.map pcZ) != 0) <;> rw [hf] at hx <;> cases hx
    · rw [show firstZ (l.map pcZ) = 0 by simpa using hf]
      exact (body34 l _ _ (.inr rfl)).trans (by rw [he]; rfl)
    · exact (body34 l _ _ (.inl rfl)).trans (by rw [he]; rfl)
theorem gd34 (h0 : Lib0 w0) : Gd (cfg w0) (chkPC 34) := gd_sig fun a d hd => by
  obtain ⟨hg, hd⟩ := br_run hd
  cases hd
  exact fn34 h0 a.1 (Nat.le_of_ble_eq_true hg)


def modI (l : List (Tup ptK)) (i : Int) : Int := (IntKind.i64.wrap (i + 1)).tmod l.length
def stepA (l : List (Tup ptK)) (i n : Int) : Int := W (n + W (W (p1 (nth l i.toNat) * p2 (nth l (modI l i).toNat)) - W (p1 (nth l (modI l i).toNat) * p2 (nth l i.toNat))))
noncomputable def cs30 : List Ct := [chkPC 117]
noncomputable def lp30 (tm : Option (Nat × Array Value)) : ALoop := { state := .ready, pending := none, fn := 0, tmps := [], params := rfPs (fnOf Tryz.f30).body, assign := rfAs (fnOf Tryz.f30).body, body := rfBd (fnOf Tryz.f30).body, tm := tm }
noncomputable def rel176 : List (Nat × Cv) := [(0, .yl [(5, .id)]), (1, .id), (5, .id), (6, .id), (7, .id)]
noncomputable def st176 (l : List (Tup ptK)) (tm : Option (Nat × Array Value)) (p : Int × Int) : List D := [.yl (fnOf Tryz.f30).ntmps (lp30 tm) [5] [.obox [I p.2]], .obox [.vec ptK l], .vec ptK l, I l.length, I p.1]
noncomputable def tree176 (l : List (Tup ptK)) (tm : Option (Nat × Array Value)) (i n : Int) : Rn :=
  bif decide (i < l.length) then bif inP l i then bif decide ((l.length : Int) = 0) then none else bif inP l (modI l i) then
    some ([], .normal, st176 l tm (W (i + 1), stepA l i n))
  else none else none else some ([], .exit 0, st176 l tm (i, n))
theorem round176 (l : List (Tup ptK)) (tm : Option (Nat × Array Value)) (i n : Int) : rndD ((cfg w0).at cs30) 40 [] 40 (fnOf Tryz.f176).ntmps rel176 (lpB 0 (fnOf Tryz.f176).body) (st176 l tm (i, n)) = tree176 l tm i n := by kernel_rfl
noncomputable def rel30 : List (Nat × Cv) := [(14, .id), (5, .id)]
noncomputable def pre30 (l : List (Tup ptK)) : List D := [.fn 176 [] [.obox [.vec ptK l]], .obox [I 0]]
theorem iter30 (l : List (Tup ptK)) (tm : Option (Nat × Array Value)) (p : Int × Int) : bodyI ((cfg w0).at cs30) 40 [ldP 0 (fnOf Tryz.f176).ntmps rel176 .normal (st176 l tm p)] 40 (fnOf Tryz.f176)
    (startI (fnOf Tryz.f176) (ldS (fnOf Tryz.f30).ntmps (rel30.map (·.1)) (pre30 l)) #[] #[.pointer (some ⟨K0 + 1, 0, none⟩)] (rfPs (fnOf Tryz.f30).body) (rfAs (fnOf Tryz.f30).body) (rfBd (fnOf Tryz.f30).body) tm) 0 [(5, .id)] =
    some ([(ldP 0 (fnOf Tryz.f176).ntmps rel176 .normal (st176 l tm p), .loop (lpB 0 (fnOf Tryz.f176).body), st176 l tm (0, 0))], .normal, tm, [.obox [I p.2]]) := by kernel_rfl
noncomputable def rf30 : Code := .rangeFunc (.tmp 14) (rfPs (fnOf Tryz.f30).body) (rfAs (fnOf Tryz.f30).body) (rfBd (fnOf Tryz.f30).body)
noncomputable def ld30 (n : Int) : Ld := ldP 300014 (fnOf Tryz.f30).ntmps rel30 .normal [.val unk, .obox [I n]]
noncomputable def ob30 (l : List (Tup ptK)) (n : Int) : Obs := [(ld30 n, rf30, pre30 l)]
theorem body30 (l : List (Tup ptK)) (n : Int) : bodyT ((cfg w0).at cs30) 40 [ld30 n] 40 (fnOf Tryz.f30) [.vec ptK l] =
    bif smP l then bif chkP l != 0 then some ([], .tup [I 0, I (chkP l)]) else some (ob30 l n, .tup [I n, I 0]) else none := by kernel_rfl
end
end Go.Proofs.YthcpfignhalffaaGreatDoor
