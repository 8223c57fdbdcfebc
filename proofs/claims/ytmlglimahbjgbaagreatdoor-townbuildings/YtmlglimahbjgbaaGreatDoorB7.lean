/-
  A part of the proof of the statement that the claim names: see the last file.
-/
import Derived.Test.YtmlglimahbjgbaaGreatDoorB6
import Derived.Test.YtmlglimahbjgbaaGreatDoorB2
namespace Go.Proofs.YtmlglimahbjgbaaGreatDoor
open Go Go.Am Go.Town
set_option maxRecDepth 100000
variable {w0 : World}
noncomputable section


def rel91 : List (Nat × Cv) := [(6, .id), (7, .id), (8, .id), (3, .ov wallK)]
def st91 (l : List (Tup wallK)) (a : Int × List (Tup wallK)) : List D := [.vec wallK l, I l.length, I a.1, .ovec wallK a.2]
def rel90 : List (Nat × Cv) := [(0, .id), (1, .id), (5, .id), (4, .id)]
def st90 (a b : List (Tup wallK)) (s : Int × Bool) : List D := [.vec wallK a, .vec wallK b, I s.1, Bo s.2]

theorem round91 (l : List (Tup wallK)) (j : Int) (out : List (Tup wallK)) : rndD ((cfg w0).at []) 40 [] 40 (fnOf Tryz.f91).ntmps rel91 (lpB 0 (fnOf Tryz.f91).body) (st91 l (j, out)) =
    bif decide (j < l.length) then
      bif (Nat.beq 7 7 && (decide (0 ≤ j) && decide (j < l.length))) then
        bif (Nat.ble ((out ++ [nth l (j.toNat + 0)]).length * 64) 1000000000000 && Nat.ble (out ++ [nth l (j.toNat + 0)]).length 1000000000000) then some ([], .normal, st91 l (W (j + 1), out ++ [nth l (j.toNat + 0)])) else none
      else none
    else some ([], .exit 0, st91 l (j, out)) := by kernel_rfl

theorem body91 (l : List (Tup wallK)) (j : Int) (out : List (Tup wallK)) : bodyT ((cfg w0).at []) 40 [ldP 0 (fnOf Tryz.f91).ntmps rel91 .normal (st91 l (j, out))] 40 (fnOf Tryz.f91) [.vec wallK l] =
    some ([(ldP 0 (fnOf Tryz.f91).ntmps rel91 .normal (st91 l (j, out)), .loop (lpB 0 (fnOf Tryz.f91).body), st91 l (0, []))], .vec wallK out) := by kernel_rfl

theorem fn91 (h0 : Lib0 w0) (l : List (Tup wallK)) (hg : l.length ≤ 100000) : FnD (cfg w0) 91 [.vec wallK l] (.vec wallK l) := by
  refine fn_ls h0 (cs := []) trivial (fd := fnOf Tryz.f91) rfl rel91 l (by omega) (st91 l) (fun w a => (X.normal, a ++ [w])) (fun j a => a.length = j) (a0 := []) rfl
    (fun j a hj hi => .leaf (by
      have hi : a.length = j := hi
      rw [round91, inb 7 hj, lt_t hj, Int.toNat_natCast, Nat.add_zero, room (by omega) (by omega)]
      rfl)) (fun j a a' _ hi h => by cases h; simp [hi])
    (fun a _ => .leaf (by rw [round91, ge_f]; rfl)) fun x p hx => ?_
  rw [lsRun_fold (h := fun w b => b ++ [w]) 0 l 0 [] (fun _ _ _ => rfl), foldl_snoc (fun w => w)] at hx
  cases hx
  have e : ([] : List (Tup wallK)) ++ l.map (fun w => w) = l := by simp
  rw [e]
  exact body91 l _ l

def c91 : Ct := ct 91 [.v wallK] fun a => .br (Nat.ble (a.1 : List (Tup wallK)).length 100000) (.leaf (.vec wallK a.1)) .bad
theorem gd91 (h0 : Lib0 w0) : Gd (cfg w0) c91 := gd_sig fun a d hd => by
  obtain ⟨hg, hd⟩ := br_run hd
  cases hd
  exact fn91 h0 a.1 (Nat.le_of_ble_eq_true hg)

def nmL (w : Tup wallK) : List UInt8 := (nmW w).toList
def eqWl (x y : Tup wallK) : Bool :=
  (nmL x == nmL y) && ((eqI x.2.1 y.2.1 && (eqI x.2.2.1 y.2.2.1 && true)) && ((eqI x.2.2.2.1 y.2.2.2.1 && (eqI x.2.2.2.2.1 y.2.2.2.2.1 && true)) && (eqI x.2.2.2.2.2.1 y.2.2.2.2.2.1 && (eqI x.2.2.2.2.2.2.1 y.2.2.2.2.2.2.1 && true))))

theorem round90 (a b : List (Tup wallK)) (j : Int) (r : Bool) : rndD ((cfg w0).at []) 40 [] 40 (fnOf Tryz.f90).ntmps rel90 (lpB 0 (fnOf Tryz.f90).body) (st90 a b (j, r)) =
    bif decide (j < a.length) then
      bif (Nat.beq 7 7 && (decide (0 ≤ j) && decide (j < a.length))) then
        bif (Nat.beq 7 7 && (decide (0 ≤ j) && decide (j < b.length))) then
          bif !eqWl (nth a (j.toNat + 0)) (nth b (j.toNat + 0)) then some ([], .ret, st90 a b (j, false)) else some ([], .normal, st90 a b (W (j + 1), r))
        else none
      else none
    else some ([], .exit 0, st90 a b (j, r)) := by kernel_rfl

theorem body90 (a b : List (Tup wallK)) (x : X) (p : Int × Bool) (hx : x = .ret ∨ x = .normal) : bodyT ((cfg w0).at []) 40 [ldP 0 (fnOf Tryz.f90).ntmps rel90 x (st90 a b p)] 40 (fnOf Tryz.f90) [.vec wallK a, .vec wallK b] =
    bif (a.length : Int) != b.length then some ([], Bo false) else
    some ([(ldP 0 (fnOf Tryz.f90).ntmps rel90 x (st90 a b p), .loop (lpB 0 (fnOf Tryz.f90).body), st90 a b (0, false))], onX x (Bo p.2) (Bo true)) := by
  rcases hx with rfl | rfl <;> kernel_rfl

def sameWB (a b : List (Tup wallK)) : Bool := bif (a.length : Int) != b.length then false else !(List.range' 0 a.length).any (fun j => !eqWl (nth a j) (nth b j))

theorem fn90 (h0 : Lib0 w0) (a b : List (Tup wallK)) (hl : a.length ≤ 100000) : FnD (cfg w0) 90 [.vec wallK a, .vec wallK b] (Bo (sameWB a b)) := by
  unfold sameWB
  cases hne : ((a.length : Int) != b.length) with
  | true =>
    exact fnD_t (cfg_ok w0) h0 (cs := []) trivial (fd := fnOf Tryz.f90) rfl (L := [ldP 0 (fnOf Tryz.f90).ntmps rel90 .normal (st90 a b (0, true))]) (o := []) ((body90 a b .normal (0, true) (.inr rfl)).trans (by rw [hne]; rfl)) trivial
  | false =>
    have hab : a.length = b.length := Int.ofNat.inj (by simpa using hne)
    refine fn_rg h0 (cs := []) trivial (fd := fnOf Tryz.f90) rfl rel90 a.length (by omega) (st90 a b) (fun j r => bif !eqWl (nth a j) (nth b j) then (X.ret, false) else (.normal, r)) (fun _ _ => True) (a0 := false) trivial
      (fun j r hj _ => .leaf (by
        rw [round90, inb 7 hj, ← hab, inb 7 hj, lt_t hj, Int.toNat_natCast, Nat.add_zero]
        cases eqWl (nth a j) (nth b j) <;> rfl)) (fun _ _ _ _ _ _ => trivial)
      (fun r _ => .leaf (by rw [round90, ge_f]; rfl)) fun x p hx => ?_
    obtain ⟨q, hq⟩ := rgRun_any (id := 0) (p := fun j => !eqWl (nth a j) (nth b j)) (c := false) a.length 0 false
    rw [hq] at hx
    simp only [cond_false]
    cases hs : (List.range' 0 a.length).any (fun j => !eqWl (nth a j) (nth b j)) <;> rw [hs] at hx <;> cases hx
    · exact (body90 a b _ _ (.inr rfl)).trans (by rw [hne]; rfl)
    · exact (body90 a b _ _ (.inl rfl)).trans (by rw [hne]; rfl)

def c90 : Ct := ct 90 [.v wallK, .v wallK] fun a => .br (Nat.ble (a.1 : List (Tup wallK)).length 100000) (.leaf (Bo (sameWB a.1 a.2.1))) .bad
theorem gd90 (h0 : Lib0 w0) : Gd (cfg w0) c90 := gd_sig fun a d hd => by
  obtain ⟨hg, hd⟩ := br_run hd
  cases hd
  exact fn90 h0 a.1 a.2.1 (Nat.le_of_ble_eq_true hg)

theorem eqWl_self (x : Tup wallK) : eqWl x x = true := by
  have h : ∀ a : Int, eqI a a = true := fun a => by simp [eqI]
  unfold eqWl
  rw [h x.2.1, h x.2.2.1, h x.2.2.2.1, h x.2.2.2.2.1, h x.2.2.2.2.2.1, h x.2.2.2.2.2.2.1]
  simp
theorem sameWB_self (a : List (Tup wallK)) : sameWB a a = true := by
  unfold sameWB
  simp [eqWl_self]


def cs76 : List Ct := [c91, c90]
def wlB (x : List (Tup wallK)) (e b : Int) (y : List (Tup wallK)) : Bool := bif sameWB x (bif b != 0 then [] else y) then e == b else false
theorem run76 (x : List (Tup wallK)) (e b : Int) (y : List (Tup wallK)) : bodyK ((cfg w0).at cs76) 40 (fnOf Tryz.f76) [.vec wallK x, I e, I b, .vec wallK y] =
    bif b != 0 then (bif Nat.ble x.length 100000 then bif Nat.ble x.length 100000 then bif sameWB x [] then some (Bo (e == b)) else some (Bo false) else none else none)
    else (bif Nat.ble x.length 100000 then bif Nat.ble x.length 100000 then bif sameWB x y then some (Bo (e == b)) else some (Bo false) else none else none) := by kernel_rfl

theorem fn76 (h0 : Lib0 w0) (x : List (Tup wallK)) (e b : Int) (y : List (Tup wallK)) (hg : Nat.ble x.length 100000 = true) : FnD (cfg w0) 76 [.vec wallK x, I e, I b, .vec wallK y] (Bo (wlB x e b y)) :=
  fnD_k (cfg_ok w0) h0 (cs := cs76) ⟨gd91 h0, gd90 h0, trivial⟩ (fd := fnOf Tryz.f76) rfl (n := 40) ((run76 x e b y).trans (by
    rw [hg]
    unfold wlB
    cases (b != 0) with
    | true => simp only [cond_true]; cases sameWB x [] <;> rfl
    | false => simp only [cond_false, cond_true]; cases sameWB x y <;> rfl))
def c76 : Ct := ct 76 [.v wallK, .c ik, .c ik, .v wallK] fun a => .br (Nat.ble (a.1 : List (Tup wallK)).length 100000) (.leaf (Bo (wlB a.1 a.2.1 a.2.2.1 a.2.2.2.1))) .bad
theorem gd76 (h0 : Lib0 w0) : Gd (cfg w0) c76 := gd_sig fun a d hd => by
  obtain ⟨hg, hd⟩ := br_run hd
  cases hd
  exact fn76 h0 a.1 a.2.1 a.2.2.1 a.2.2.2.1 hg


theorem run62 (b : Bd) : bodyK ((cfg w0).at []) 40 (fnOf Tryz.f62) [bD b] = bif decide ((b.cs.length : Int) ≤ 9) then some (Bo (decide ((b.nm.size : Int) ≤ 40))) else some (Bo false) := by kernel_rfl
def c62 : Ct := bC 62 fun b => .leaf (Bo (okS b))
theorem gd62 (h0 : Lib0 w0) : Gd (cfg w0) c62 := gd_b fun b d hd => by
  cases hd
  exact fnD_k (cfg_ok w0) h0 (cs := []) trivial (fd := fnOf Tryz.f62) rfl (n := 40) ((run62 b).trans (by unfold okS; cases decide ((b.cs.length : Int) ≤ 9) <;> rfl))
theorem run66 (b : Bd) : bodyK ((cfg w0).at []) 40 (fnOf Tryz.f66) [bD b] = bif roomP b.cs then some (bD b) else none := by kernel_rfl
def c66 : Ct := bC 66 fun b => .br (smallB b) (.leaf (bD b)) .bad
theorem gd66 (h0 : Lib0 w0) : Gd (cfg w0) c66 := gd_b fun b d hd => by
  obtain ⟨hg, hd⟩ := br_run hd
  cases hd
  exact fnD_k (cfg_ok w0) h0 (cs := []) trivial (fd := fnOf Tryz.f66) rfl (n := 40) ((run66 b).trans (by rw [roomP_ok hg]; rfl))
end
end Go.Proofs.YtmlglimahbjgbaaGreatDoor

namespace Go.Proofs.YtmlglimahbjgbaaGreatDoor
open Go Go.Am Go.Town
set_option maxRecDepth 100000
variable {w0 : World}
noncomputable section


def orW (e : Int) (x : List (Tup wallK)) : List (Tup wallK) := bif e != 0 then [] else x
def orB (e : Int) (x : Bool) : Bool := bif e != 0 then false else x

def c63v : Ct := bsC 63 fun bs => .br (g5 bs) (.leaf (.tup [.vec wallK (orW (chkBs bs) (wallsL bs)), I (chkBs bs)])) .bad
def m63 (bs : List Bd) : D := .tup [.vec wallK (orW (chkBs bs) (wallsL bs)), I (chkBs bs)]
theorem m63_run {bs : List Bd} (hg : g5 bs = true) : (F63 bs).run = some (m63 bs) := by
  unfold F63 m63 orW
  rw [hg]
  simp only [FT.run]
  cases hc : (chkBs bs != 0) with
  | true => rfl
  | false =>
    have : chkBs bs = 0 := by simpa using hc
    rw [this]; rfl
theorem gd63v (h0 : Lib0 w0) : Gd (cfg w0) c63v := fun ds d hd => by
  refine gd63 h0 ds d ?_
  unfold c63v c63 bsC ct at *
  simp only [sigF] at hd ⊢
  split at hd
  · rename_i a ha
    obtain ⟨x, u⟩ := a
    simp only at hd ⊢
    cases hb : asBs x with
    | none => rw [hb] at hd; cases hd
    | some bs =>
      rw [hb] at hd
      obtain ⟨hg, hd⟩ := br_runX hd
      cases hd
      exact m63_run hg
  · cases hd

def c65v : Ct := bpC 65 fun b p => .br (smallB b) (.leaf (.tup [.vec intK (orL (errBP b p) (facL (sidesB b p))), I (errBP b p)])) .bad
theorem gd65v (h0 : Lib0 w0) : Gd (cfg w0) c65v := gd_bp fun b p d hd => by
  obtain ⟨hg, hd⟩ := br_run hd
  cases hd
  have := fn65 h0 b p hg
  unfold orL
  cases hc : (errBP b p != 0) with
  | true => rw [hc] at this; exact this
  | false =>
    rw [hc] at this
    have hz : errBP b p = 0 := by simpa using hc
    rw [hz]
    exact this

def c67v : Ct := bpC 67 fun b p => .br (smallB b) (.leaf (.tup [Bo (orB (errBP b p) (!negL (sidesB b p))), I (errBP b p)])) .bad
theorem gd67v (h0 : Lib0 w0) : Gd (cfg w0) c67v := gd_bp fun b p d hd => by
  obtain ⟨hg, hd⟩ := br_run hd
  cases hd
  have hl : Nat.ble (sidesB b p).length 100000 = true := Nat.ble_eq_true_of_le (by
    have hs' := hg
    simp only [smallB, Bool.and_eq_true, Nat.ble_eq] at hs'
    rw [sides_len]; omega)
  refine fnD_k (cfg_ok w0) h0 (cs67_gd h0) (fd := fnOf Tryz.f67) rfl (n := 40) ((run67 b p).trans ?_)
  rw [hg, hl]
  unfold orB
  cases hc : (errBP b p != 0) with
  | true => rfl
  | false =>
    have hz : errBP b p = 0 := by simpa using hc
    rw [hz]; rfl

def em68 (l : List (Tup wallK)) (x : Tup bxK) : Bool := e68 l x == 0 && (!(idx180 l x == -1) && (keepW x l).isEmpty)
def m68 (l : List (Tup wallK)) (x : Tup bxK) : D := .tup [.vec wallK (orW (e68 l x) (keepW x l)), I (e68 l x)]
def c68v : Ct := ct 68 [.v wallK, .b bxK] fun a => .br (em68 a.1 a.2.1) (.leaf (.tup [.emp 7, I 0])) (.leaf (m68 a.1 a.2.1))
theorem c68v_run (l : List (Tup wallK)) (x : Tup bxK) {d : D} (h : (FT.br (em68 l x) (.leaf (.tup [.emp 7, I 0])) (.leaf (m68 l x))).run = some d) : (F68 l x).run = some d := by
  unfold F68
  unfold em68 m68 orW at h
  simp only [FT.run] at h ⊢
  cases hc : (e68 l x != 0) with
  | true =>
    have hz : (e68 l x == 0) = false := by
      have : e68 l x ≠ 0 := by simpa using hc
      simpa using this
    rw [hz, hc] at h
    exact h
  | false =>
    have hz : e68 l x = 0 := by simpa using hc
    have hz2 : (e68 l x == 0) = true := by simpa using hz
    rw [hz2, hc, hz] at h
    simp only [Bool.true_and, cond_false] at h ⊢
    cases hi : (idx180 l x == -1) with
    | true =>
      rw [hi, idx_none hi] at h
      exact h
    | false =>
      rw [hi] at h
      cases hk : (keepW x l).isEmpty <;> rw [hk] at h <;> exact h
theorem gd68v (h0 : Lib0 w0) : Gd (cfg w0) c68v := gd_sig fun a _ hd => fn68 h0 a.1 a.2.1 (c68v_run a.1 a.2.1 hd)

def law7 : List Ct := [⟨13, tG awakeF⟩, c61, c62, c27, c64, c63v, c66, c65v, c67v, c31, c68v, chkBsC 69, checkBC 70, ⟨20, tG checkPointF⟩, firstC 108, checkC 33, c71, c72, c73, c74, chkBsC 75, c76, c40]
theorem law7_gd (h0 : Lib0 w0) (ha : Good w0 ⟨13, awakeF⟩) : Gds (cfg w0) law7 :=
  ⟨gd_of ha, gd61 h0, gd62 h0, gd27 h0, gd64 h0, gd63v h0, gd66 h0, gd65v h0, gd67v h0, gd31 h0, gd68v h0, gd69 h0, gd70 h0, gd_of (rcheckPoint_good h0), gd108 h0, gd33 h0, gd71 h0, gd72 h0, gd73 h0, gd74 h0, gd75 h0, gd76 h0, gd40 h0, trivial⟩

def plotD (b : Bd) (p : Tup ptK) (x : Tup bxK) : D := .agg [Str b.nm, .vec ptK b.cs, I b.h, I b.e, I p.1, I p.2.1, I x.1, I x.2.1, I x.2.2.1, I x.2.2.2.1]

def four7 (near : List (Tup wallK)) (x : Tup bxK) : Int := firstZ [chkAllW near, e71 x]
def tail7 (bs : List Bd) (b : Bd) (p : Tup ptK) (near : List (Tup wallK)) (x : Tup bxK) (C : List (Tup wallK)) (eC : Int) (all : List (Tup wallK)) (fac : List (Tup intK)) (has : Bool) (within : List (Tup wallK)) : Option D :=
  g1 (g5 bs) (g1 (g5 bs) (an (chkBs bs == chkBs bs) (g1 (Nat.ble (orW (chkBs bs) (wallsL bs)).length 100000) (an (wlB (orW (chkBs bs) (wallsL bs)) (chkBs bs) (chkBs bs) all)
    (g1 (Nat.ble (orL (errBP b p) (facL (sidesB b p))).length 100000) (an (liB (orL (errBP b p) (facL (sidesB b p))) (errBP b p) (errBP b p) fac) (an (orB (errBP b p) (!negL (sidesB b p)) == has) (an (errBP b p == errBP b p)
      (g1 (Nat.ble C.length 100000) (an (wlB C eC (four7 near x) within) (some (Bo true))))))))))))
def r37 (bs : List Bd) (b : Bd) (p : Tup ptK) (near : List (Tup wallK)) (x : Tup bxK) (C : List (Tup wallK)) (eC : Int) (all : List (Tup wallK)) (fac : List (Tup intK)) (has : Bool) : Option D :=
  bif four7 near x == 0 then g1 (Nat.ble near.length 100000) (tail7 bs b p near x C eC all fac has (keepW x near)) else tail7 bs b p near x C eC all fac has []
def r27 (bs : List Bd) (b : Bd) (p : Tup ptK) (near : List (Tup wallK)) (x : Tup bxK) (C : List (Tup wallK)) (eC : Int) (all : List (Tup wallK)) : Option D :=
  bif errBP b p == 0 then g1 (smallB b) (r37 bs b p near x C eC all (facL (sidesB b p)) (((facL (sidesB b p)).length : Int) == 0)) else r37 bs b p near x C eC all [] false
def r17 (bs : List Bd) (b : Bd) (p : Tup ptK) (near : List (Tup wallK)) (x : Tup bxK) (C : List (Tup wallK)) (eC : Int) : Option D :=
  g1 (g5 bs) (g1 (smallB b) (bif chkBs bs == 0 then g1 (g4 bs) (r27 bs b p near x C eC (wallsL bs)) else r27 bs b p near x C eC []))
def law7D (bs : List Bd) (b : Bd) (p : Tup ptK) (x : Tup bxK) (near : List (Tup wallK)) : Option D :=
  bif !(bs.all okS) then some (Bo true) else bif !okS b then some (Bo true) else bif !shortW near then some (Bo true) else
  g1 (g5 bs) (g1 (g5 bs) (g1 (smallB b) (g1 (smallB b) (g1 (smallB b) (g1 (smallB b) (g1 (Nat.ble near.length 100000) (bif em68 near x then r17 bs b p near x [] 0 else r17 bs b p near x (orW (e68 near x) (keepW x near)) (e68 near x))))))))
end
end Go.Proofs.YtmlglimahbjgbaaGreatDoor
