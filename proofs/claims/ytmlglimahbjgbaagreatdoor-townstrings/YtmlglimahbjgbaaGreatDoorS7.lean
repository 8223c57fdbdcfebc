/-
  A part of the proof of the statement that the claim names: see the last file.
-/
import Derived.Test.YtmlglimahbjgbaaGreatDoorS6
namespace Go.Proofs.YtmlglimahbjgbaaGreatDoor
open Go Go.Am Go.RowKit Go.Town
set_option maxRecDepth 100000
variable {w0 : World}
noncomputable section


def rel91 : List (Nat × Cv) := [(6, .id), (7, .id), (8, .id), (3, .ov wallK)]
def st91 (l : List (Tup wallK)) (a : Int × List (Tup wallK)) : List D := [.vec wallK l, I l.length, I a.1, .ovec wallK a.2]
def rel90 : List (Nat × Cv) := [(0, .id), (1, .id), (5, .id), (4, .id)]
def st90 (a b : List (Tup wallK)) (s : Int × Bool) : List D := [.vec wallK a, .vec wallK b, I s.1, Bo s.2]

theorem round91 (l : List (Tup wallK)) (j : Int) (out : List (Tup wallK)) : rndD ((cfg w0).at []) 40 [] 40 (fnOf Tryz.f91).ntmps rel91 (lpB 0 (fnOf Tryz.f91).body) (st91 l (j, out)) =
    bif decide (j < l.length) then
      bif (Nat.beq 7 7 && (decide (0 ≤ j) && decide (j < l.length))) then
        bif (Nat.ble ((out ++ [nth l (j.toNat + 0)]).length * 64) 1000000000000 && Nat.ble (out ++ [nth l (j.toNat + 0)]).length 1000000000000) then some ([], .normal, st91 l (W (j + 1), out ++ [nth l (j.toNat + 0)])) else none
      else none
    else some ([], .exit 0, st91 l (j, out)) := by kernel_rfl

theorem body91 (l : List (Tup wallK)) (j : Int) (out : List (Tup wallK)) : bodyT ((cfg w0).at []) 40 [ldP 0 (fnOf Tryz.f91).ntmps rel91 .normal (st91 l (j, out))] 40 (fnOf Tryz.f91) [.vec wallK l] =
    some ([(ldP 0 (fnOf Tryz.f91).ntmps rel91 .normal (st91 l (j, out)), .loop (lpB 0 (fnOf Tryz.f91).body), st91 l (0, []))], .vec wallK out) := by kernel_rfl

theorem fn91 (h0 : Lib0 w0) (l : List (Tup wallK)) (hg : l.length ≤ 100000) : FnD (cfg w0) 91 [.vec wallK l] (.vec wallK l) := by
  refine fn_ls h0 (cs := []) trivial (fd := fnOf Tryz.f91) rfl rel91 l (by omega) (st91 l) (fun w a => (X.normal, a ++ [w])) (fun j a => a.length = j) (a0 := []) rfl
    (fun j a hj hi => .leaf (by
      have hi : a.length = j := hi
      rw [round91, inb 7 hj, lt_t hj, Int.toNat_natCast, Nat.add_zero, room (by omega) (by omega)]
      rfl)) (fun j a a' _ hi h => by cases h; simp [hi])
    (fun a _ => .leaf (by rw [round91, ge_f]; rfl)) fun x p hx => ?_
  rw [lsRun_fold (h := fun w b => b ++ [w]) 0 l 0 [] (fun _ _ _ => rfl), foldl_snoc (fun w => w)] at hx
  cases hx
  have e : ([] : List (Tup wallK)) ++ l.map (fun w => w) = l := by simp
  rw [e]
  exact body91 l _ l

def c91 : Ct := ct 91 [.v wallK] fun a => .br (Nat.ble (a.1 : List (Tup wallK)).length 100000) (.leaf (.vec wallK a.1)) .bad
theorem gd91 (h0 : Lib0 w0) : Gd (cfg w0) c91 := gd_sig fun a d hd => by
  obtain ⟨hg, hd⟩ := br_run hd
  cases hd
  exact fn91 h0 a.1 (Nat.le_of_ble_eq_true hg)

def nmL (w : Tup wallK) : List UInt8 := (nmW w).toList
def eqWl (x y : Tup wallK) : Bool :=
  (nmL x == nmL y) && ((eqI x.2.1 y.2.1 && (eqI x.2.2.1 y.2.2.1 && true)) && ((eqI x.2.2.2.1 y.2.2.2.1 && (eqI x.2.2.2.2.1 y.2.2.2.2.1 && true)) && (eqI x.2.2.2.2.2.1 y.2.2.2.2.2.1 && (eqI x.2.2.2.2.2.2.1 y.2.2.2.2.2.2.1 && true))))

theorem round90 (a b : List (Tup wallK)) (j : Int) (r : Bool) : rndD ((cfg w0).at []) 40 [] 40 (fnOf Tryz.f90).ntmps rel90 (lpB 0 (fnOf Tryz.f90).body) (st90 a b (j, r)) =
    bif decide (j < a.length) then
      bif (Nat.beq 7 7 && (decide (0 ≤ j) && decide (j < a.length))) then
        bif (Nat.beq 7 7 && (decide (0 ≤ j) && decide (j < b.length))) then
          bif !eqWl (nth a (j.toNat + 0)) (nth b (j.toNat + 0)) then some ([], .ret, st90 a b (j, false)) else some ([], .normal, st90 a b (W (j + 1), r))
        else none
      else none
    else some ([], .exit 0, st90 a b (j, r)) := by kernel_rfl

theorem body90 (a b : List (Tup wallK)) (x : X) (p : Int × Bool) (hx : x = .ret ∨ x = .normal) : bodyT ((cfg w0).at []) 40 [ldP 0 (fnOf Tryz.f90).ntmps rel90 x (st90 a b p)] 40 (fnOf Tryz.f90) [.vec wallK a, .vec wallK b] =
    bif (a.length : Int) != b.length then some ([], Bo false) else
    some ([(ldP 0 (fnOf Tryz.f90).ntmps rel90 x (st90 a b p), .loop (lpB 0 (fnOf Tryz.f90).body), st90 a b (0, false))], onX x (Bo p.2) (Bo true)) := by
  rcases hx with rfl | rfl <;> kernel_rfl

def sameWB (a b : List (Tup wallK)) : Bool := bif (a.length : Int) != b.length then false else !(List.range' 0 a.length).any (fun j => !eqWl (nth a j) (nth b j))

theorem fn90 (h0 : Lib0 w0) (a b : List (Tup wallK)) (hl : a.length ≤ 100000) : FnD (cfg w0) 90 [.vec wallK a, .vec wallK b] (Bo (sameWB a b)) := by
  unfold sameWB
  cases hne : ((a.length : Int) != b.length) with
  | true =>
    exact fnD_t (cfg_ok w0) h0 (cs := []) trivial (fd := fnOf Tryz.f90) rfl (L := [ldP 0 (fnOf Tryz.f90).ntmps rel90 .normal (st90 a b (0, true))]) (o := []) ((body90 a b .normal (0, true) (.inr rfl)).trans (by rw [hne]; rfl)) trivial
  | false =>
    have hab : a.length = b.length := Int.ofNat.inj (by simpa using hne)
    refine fn_rg h0 (cs := []) trivial (fd := fnOf Tryz.f90) rfl rel90 a.length (by omega) (st90 a b) (fun j r => bif !eqWl (nth a j) (nth b j) then (X.ret, false) else (.normal, r)) (fun _ _ => True) (a0 := false) trivial
      (fun j r hj _ => .leaf (by
        rw [round90, inb 7 hj, ← hab, inb 7 hj, lt_t hj, Int.toNat_natCast, Nat.add_zero]
        cases eqWl (nth a j) (nth b j) <;> rfl)) (fun _ _ _ _ _ _ => trivial)
      (fun r _ => .leaf (by rw [round90, ge_f]; rfl)) fun x p hx => ?_
    obtain ⟨q, hq⟩ := rgRun_any (id := 0) (p := fun j => !eqWl (nth a j) (nth b j)) (c := false) a.length 0 false
    rw [hq] at hx
    simp only [cond_false]
    cases hs : (List.range' 0 a.length).any (fun j => !eqWl (nth a j) (nth b j)) <;> rw [hs] at hx <;> cases hx
    · exact (body90 a b _ _ (.inr rfl)).trans (by rw [hne]; rfl)
    · exact (body90 a b _ _ (.inl rfl)).trans (by rw [hne]; rfl)

def c90 : Ct := ct 90 [.v wallK, .v wallK] fun a => .br (Nat.ble (a.1 : List (Tup wallK)).length 100000) (.leaf (Bo (sameWB a.1 a.2.1))) .bad
theorem gd90 (h0 : Lib0 w0) : Gd (cfg w0) c90 := gd_sig fun a d hd => by
  obtain ⟨hg, hd⟩ := br_run hd
  cases hd
  exact fn90 h0 a.1 a.2.1 (Nat.le_of_ble_eq_true hg)

theorem eqWl_self (x : Tup wallK) : eqWl x x = true := by
  have h : ∀ a : Int, eqI a a = true := fun a => by simp [eqI]
  unfold eqWl
  rw [h x.2.1, h x.2.2.1, h x.2.2.2.1, h x.2.2.2.2.1, h x.2.2.2.2.2.1, h x.2.2.2.2.2.2.1]
  simp
theorem sameWB_self (a : List (Tup wallK)) : sameWB a a = true := by
  unfold sameWB
  simp [eqWl_self]


def cs11 : List Ct := [⟨13, tG awakeF⟩, c27, c31, c86, c87, checkC 33, c88, c89, c90, c91]
def tail11 (l : WL) (w : ByteArray) (y : P3) : Option D :=
  bif (prS l).toList == w.toList then bif chkAllW l == chkAllW l then bif Nat.ble y.1.length 100000 then bif Nat.ble y.1.length 100000 then bif sameWB y.1 y.1 then bif y.2.1 == y.2.1 then bif y.2.2 == y.2.2 then some (Bo true)
    else some (Bo false) else some (Bo false) else some (Bo false) else none else none else some (Bo false) else some (Bo false)
def rest11 (l : WL) (y : P3) : Option D := bif Nat.ble l.length 100000 then bif chkAllW l == 0 then bif okC l then tail11 l (outB l) y else none else tail11 l mtL y else none
def law11 (l : WL) (s : ByteArray) : Option D :=
  bif !shortW l then some (Bo true) else bif decide (((s.size : Nat) : Int) > 400) then bif ((s.size : Nat) : Int) != 4097 then some (Bo true) else rest11 l (parP s) else rest11 l (parP s)
theorem run11 (l : WL) (s : ByteArray) : bodyK ((cfg w0).at cs11) 60 (fnOf Tryz.f11) [.vec wallK l, St_ s] = law11 l s := by kernel_rfl
theorem parP_len (s : ByteArray) : (parP s).1.length ≤ 100000 := by
  unfold parP
  cases lgS s with
  | true => exact Nat.zero_le _
  | false =>
    simp only [cond_false]
    cases goP (spl 10 (bl s)) [] with
    | bad i => exact Nat.zero_le _
    | good q =>
      unfold fz87
      simp only
      cases hc : (chkAllW q != 0) with
      | true => exact Nat.zero_le _
      | false =>
        have := (chk_walls (l := q) (by simpa using hc)).1
        show q.length ≤ 100000
        omega
theorem shortW_len {l : WL} (h : shortW l = true) : l.length ≤ 33 := by
  unfold shortW manyW at h
  cases hm : (decide ((l.length : Int) > 5) && (l.length : Int) != 33) with
  | true => rw [hm] at h; cases h
  | false =>
    rw [Bool.and_eq_false_iff, decide_eq_false_iff_not] at hm
    rcases hm with h | h
    · omega
    · have : (l.length : Int) = 33 := by simpa using h
      omega
theorem tail11_ok {l : WL} {w : ByteArray} {y : P3} (hw : w = prS l) (hy : y.1.length ≤ 100000) : tail11 l w y = some (Bo true) := by
  subst hw
  unfold tail11
  rw [(Nat.ble_eq ..).mpr hy, sameWB_self]
  simp only [beq_self_eq_true, cond_true]
theorem rest11_ok {l : WL} (h : l.length ≤ 33) {y : P3} (hy : y.1.length ≤ 100000) : rest11 l y = some (Bo true) := by
  unfold rest11
  rw [(Nat.ble_eq ..).mpr (show l.length ≤ 100000 by omega)]
  unfold okC
  cases hc : (chkAllW l == 0) with
  | true =>
    refine tail11_ok ?_ hy
    unfold prS
    rw [show (chkAllW l != 0) = false by unfold bne; rw [hc]; rfl]
    rfl
  | false =>
    refine tail11_ok ?_ hy
    unfold prS
    rw [show (chkAllW l != 0) = true by unfold bne; rw [hc]; rfl]
    rfl
theorem law11_true (l : WL) (s : ByteArray) : law11 l s = some (Bo true) := by
  unfold law11
  cases hs : shortW l with
  | false => rfl
  | true =>
    rw [rest11_ok (shortW_len hs) (parP_len s)]
    cases decide (((s.size : Nat) : Int) > 400) <;> cases (((s.size : Nat) : Int) != 4097) <;> rfl
theorem cs11_gd (h0 : Lib0 w0) (ha : Good w0 ⟨13, awakeF⟩) : Gds (cfg w0) cs11 := ⟨gd_of ha, gd27 h0, gd31 h0, gd86 h0, gd87 h0, gd33 h0, gd88 h0, gd89 h0, gd90 h0, gd91 h0, trivial⟩
theorem law11_fn (h0 : Lib0 w0) (ha : Good w0 ⟨13, awakeF⟩) (l : WL) (s : ByteArray) : FnD (cfg w0) 11 [.vec wallK l, St_ s] (Bo true) :=
  fnD_k (cfg_ok w0) h0 (cs11_gd h0 ha) (fd := fnOf Tryz.f11) rfl (n := 60) ((run11 l s).trans (law11_true l s))
end
end Go.Proofs.YtmlglimahbjgbaaGreatDoor
