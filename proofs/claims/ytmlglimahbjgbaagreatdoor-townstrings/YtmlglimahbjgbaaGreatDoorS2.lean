/-
  A part of the proof of the statement that the claim names: see the last file.
-/
import Derived.Test.YtmlglimahbjgbaaGreatDoorS1
import Derived.Test.YtmlglimahbjgbaaGreatDoorAm4
import Derived.Test.YtmlglimahbjgbaaGreatDoorAm5
namespace Go.Proofs.YtmlglimahbjgbaaGreatDoor
open Go Go.Am Go.RowKit Go.Town
set_option maxRecDepth 100000
variable {w0 : World}
noncomputable section


def decC (s : ByteArray) (pos : Nat) : Int := (((Utf8.decode s pos).1 : Nat) : Int)
def nxN (n c : Int) : Int := IntKind.i64.wrap (IntKind.i64.wrap (10 * n) + IntKind.i64.wrap (IntKind.i32.wrap (c - 48)))
def scan : List UInt8 → Int → Int × Bool
  | [], n => (n, false)
  | b :: l, n => bif decide (((b.toNat : Nat) : Int) < 48) || decide (((b.toNat : Nat) : Int) > 57) then (n, true) else scan l (10 * n + (b.toNat - 48))
def num0 (l : List UInt8) (dg : Int) : Bool := decide (l.length = 0) || (decide ((l.length : Int) > dg) || (decide (l.length > 1) && l.head? == some 48))
def numL (l : List UInt8) (dg : Int) : Int × Bool := bif num0 l dg then (0, true) else scan l 0
theorem drop_get {s : ByteArray} {i : Nat} (h : i < s.size) : (bl s).drop i = s.get! i :: (bl s).drop (i + 1) := by
  have h' : i < (bl s).length := by rw [bl_len]; exact h
  rw [List.drop_eq_getElem_cons h']
  congr 1
  have h2 : i < s.data.size := h
  show s.data.toList[i] = s.get! i
  rw [Array.getElem_toList]
  show s.data[i] = s.data[i]!
  rw [getElem!_pos s.data i h2]
theorem pow_mono {a b : Nat} (h : a ≤ b) : (10 : Int) ^ a ≤ 10 ^ b := by
  have : (10 : Nat) ^ a ≤ 10 ^ b := Nat.pow_le_pow_right (by omega) h
  exact_mod_cast this


def miB : ByteArray := ⟨#[45]⟩
def isMi (s : ByteArray) : Bool := s.data.toList == [45]
theorem isMi_eq {s : ByteArray} (h : isMi s = true) : s = miB := by
  unfold isMi at h
  have h : s.data.toList = [45] := by simpa using h
  cases s with
  | mk d =>
    have : d = #[45] := by rw [← Array.toArray_toList (xs := d)]; exact congrArg List.toArray h
    rw [this]; rfl
def miH (l : List UInt8) : Bool := l.head? == some 45
def cutMi (s : ByteArray) : ByteArray := bif miH (bl s) then mkB (bl s).tail else s
def okMi (s : ByteArray) : Bool := decide (0 ≤ ((miB.size : Nat) : Int)) && decide (((miB.size : Nat) : Int) ≤ s.size)
theorem run210 (s : ByteArray) : bodyK ((cfg w0).at []) 40 (fnOf Tryz.f210) [St_ s, St_ miB] =
    bif decide (((s.size : Nat) : Int) ≥ (miB.size : Nat)) then bif okMi s then bif !((s.extract 0 ((miB.size : Nat) : Int).toNat).toList == miB.toList) then some (.tup [St_ s, Bo false]) else
      bif okMi s then some (.tup [St_ (s.extract ((miB.size : Nat) : Int).toNat s.size), Bo true]) else none else none else some (.tup [St_ s, Bo false]) := by kernel_rfl
theorem run210' (s : ByteArray) : bodyK ((cfg w0).at []) 40 (fnOf Tryz.f210) [St_ s, St_ miB] = some (.tup [St_ (cutMi s), Bo (miH (bl s))]) := by
  have hm : ((miB.size : Nat) : Int) = 1 := rfl
  rw [run210, hm]
  unfold cutMi okMi
  rw [hm]
  by_cases h : 1 ≤ s.size
  · rw [decide_eq_true (show ((s.size : Nat) : Int) ≥ 1 by omega), decide_eq_true (show (0 : Int) ≤ 1 by omega), show (1 : Int).toNat = 1 from rfl, ext_0, ext_e, str_eq, bl_mkB]
    have hd := drop_get (s := s) (i := 0) (by omega)
    rw [List.drop_zero] at hd
    rw [hd]
    have e : miH (s.get! 0 :: (bl s).drop (0 + 1)) = ((s.get! 0 :: (bl s).drop (0 + 1)).take 1 == bl miB) := by
      show (some (s.get! 0) == some (45 : UInt8)) = ([s.get! 0] == [45])
      simp
    rw [e]
    cases ((s.get! 0 :: (bl s).drop (0 + 1)).take 1 == bl miB) <;> rfl
  · rw [decide_eq_false (show ¬ ((s.size : Nat) : Int) ≥ 1 by omega)]
    have h1 : bl s = [] := List.length_eq_zero_iff.1 (by rw [bl_len]; omega)
    rw [h1]
    rfl
def c210 : Ct := ct 210 [.c .str, .c .str] fun a => .br (isMi a.2.1) (.leaf (.tup [St_ (cutMi a.1), Bo (miH (bl a.1))])) .bad
theorem gd210 (h0 : Lib0 w0) : Gd (cfg w0) c210 := gd_sig fun a d hd => by
  obtain ⟨s, sep, u⟩ := a
  obtain ⟨h1, hd⟩ := br_run hd
  cases hd
  cases isMi_eq h1
  exact fnD_k (cfg_ok w0) h0 (cs := []) trivial (fd := fnOf Tryz.f210) rfl (n := 40) (run210' s)


section
variable {α : Type} (z y : α) (s : ByteArray) (k : Int → α)
def ciE (y : α) (next : Nat → Int → α) (pos : Nat) (n : Int) : α := bif Nat.blt pos s.size then bif decide (decC s pos < 48) then y else bif decide (decC s pos > 57) then y else bif decide (((s.size : Nat) : Int) > 9) then y else next (pos + (Utf8.decode s pos).2) (nxN n (decC s pos)) else k n
def chi : Nat → Nat → Int → α
  | 0 => ciE s k z (ciE s k z fun _ _ => z)
  | R + 1 => fun pos n => bif Nat.blt pos s.size then bif decide (decC s pos < 48) then y else bif decide (decC s pos > 57) then y else bif decide (((s.size : Nat) : Int) > 9) then y else chi R (pos + (Utf8.decode s pos).2) (nxN n (decC s pos)) else k n
end
abbrev OD := Option D
def r0I : OD := some (.tup [I 0, Bo false])
def rnI (n : Int) : OD := some (.tup [I n, Bo true])
def mnI (m : Bool) (n : Int) : OD := bif m then rnI (IntKind.i64.wrap (0 - n)) else rnI n
def tlI (m : Bool) (n : Int) : OD := bif m then bif n == 0 then r0I else mnI m n else mnI m n
def id0 (s : ByteArray) : Bool := decide ((0 : Int) ≤ 0) && decide ((0 : Int) < s.size)
def kI (s : ByteArray) (m : Bool) (n : Int) : OD := bif s.toList == mtL.toList then r0I else bif decide (((s.size : Nat) : Int) > 1) then bif id0 s then bif (((s.get! (Int.toNat 0)).toNat : Nat) : Int) == 48 then r0I else tlI m n else none else tlI m n
theorem run190 (s : ByteArray) : bodyK ((cfg w0).at [c210]) 27 (fnOf Tryz.f190) [St_ s] = chi none r0I (cutMi s) (kI (cutMi s) (miH (bl s))) 12 0 0 := by kernel_rfl
theorem chi_f {α : Type} (z y : α) (s : ByteArray) (k : Int → α) : ∀ (R pos : Nat) (n : Int), s.size - pos ≤ R → pos ≤ s.size → s.size ≤ 9 → 0 ≤ n → n < 10 ^ pos → chi z y s k R pos n = bif (scan ((bl s).drop pos) n).2 then y else k (scan ((bl s).drop pos) n).1
  | R, pos, n, h, hp, h9, hn0, hn => by
    rcases Nat.lt_or_ge pos s.size with hlt | hge
    · cases R with
      | zero => omega
      | succ R =>
        rw [drop_get hlt]
        have hb : Nat.blt pos s.size = true := by rw [Nat.blt_eq]; exact hlt
        unfold chi scan
        rw [hb, decide_eq_false (show ¬ ((s.size : Nat) : Int) > 9 by omega)]
        simp only [cond_true, cond_false]
        have hp15 : (10 : Int) ^ pos ≤ 10 ^ 9 := pow_mono (by omega)
        by_cases hc : (s.get! pos).toNat < 128
        · have hd := dec_small hc
          unfold decC
          rw [hd]
          simp only
          cases h1 : decide (((s.get! pos).toNat : Int) < 48) with
          | true => rfl
          | false =>
            cases h2 : decide (((s.get! pos).toNat : Int) > 57) with
            | true => rfl
            | false =>
              simp only [Bool.or_false, cond_false]
              have h1 := of_decide_eq_false h1
              have h2 := of_decide_eq_false h2
              have e : nxN n ((s.get! pos).toNat : Int) = 10 * n + ((s.get! pos).toNat - 48) := by
                unfold nxN
                rw [show IntKind.i32.wrap (((s.get! pos).toNat : Int) - 48) = ((s.get! pos).toNat : Int) - 48 from IntWalk.i32_in _ ⟨by omega, by omega⟩, W_id (n := 10 * n) (by omega) (by omega), W_id (n := ((s.get! pos).toNat : Int) - 48) (by omega) (by omega), W_id (by omega) (by omega)]
              rw [e]
              refine chi_f z y s k R (pos + 1) _ (by omega) (by omega) h9 (by omega) ?_
              rw [Int.pow_succ]
              omega
        · have hd := dec_big hc
          have e1 : decide (decC s pos < 48) = false := decide_eq_false (by unfold decC; omega)
          have e2 : decide (decC s pos > 57) = true := decide_eq_true (by unfold decC; omega)
          rw [e1, e2, decide_eq_true (show ((s.get! pos).toNat : Int) > 57 by omega), Bool.or_true]
          rfl
    · have hb : Nat.blt pos s.size = false := by cases hb : Nat.blt pos s.size with | false => rfl | true => rw [Nat.blt_eq] at hb; omega
      rw [List.drop_eq_nil_of_le (by rw [bl_len]; exact hge)]
      cases R with
      | zero => unfold chi ciE; rw [hb]; rfl
      | succ R => unfold chi; rw [hb]; rfl
theorem chi_long {α : Type} (z y : α) (s : ByteArray) (k : Int → α) (R : Nat) (h9 : 9 < s.size) (n : Int) : chi z y s k (R + 1) 0 n = y := by
  unfold chi
  rw [show Nat.blt 0 s.size = true by rw [Nat.blt_eq]; omega, decide_eq_true (show ((s.size : Nat) : Int) > 9 by omega)]
  cases decide (decC s 0 < 48) <;> cases decide (decC s 0 > 57) <;> rfl
def dgL (l : List UInt8) (dg : Int) : Int × Bool := bif (numL l dg).2 then (0, false) else ((numL l dg).1, true)
def sgL (l : List UInt8) : Int × Bool := bif miH l then (0 - (dgL l.tail 9).1, (dgL l.tail 9).2 && decide ((dgL l.tail 9).1 > 0)) else dgL l 9
theorem scan_ge : ∀ (l : List UInt8) (n : Int), 0 ≤ n → 0 ≤ (scan l n).1
  | [], n, h => h
  | b :: l, n, h => by
    unfold scan
    cases h1 : (decide (((b.toNat : Nat) : Int) < 48) || decide (((b.toNat : Nat) : Int) > 57)) with
    | true => exact h
    | false =>
      simp only [Bool.or_eq_false_iff, decide_eq_false_iff_not] at h1
      exact scan_ge l _ (by omega)
theorem scan_lt : ∀ (l : List UInt8) (n : Int) (p : Nat), 0 ≤ n → n < 10 ^ p → (scan l n).1 < 10 ^ (p + l.length)
  | [], n, p, h, hp => hp
  | b :: l, n, p, h, hp => by
    unfold scan
    cases h1 : (decide (((b.toNat : Nat) : Int) < 48) || decide (((b.toNat : Nat) : Int) > 57)) with
    | true => exact Int.lt_of_lt_of_le hp (pow_mono (by omega))
    | false =>
      simp only [Bool.or_eq_false_iff, decide_eq_false_iff_not] at h1
      have := scan_lt l (10 * n + (b.toNat - 48)) (p + 1) (by omega) (by rw [Int.pow_succ]; omega)
      rw [List.length_cons, show p + (l.length + 1) = p + 1 + l.length by omega]
      exact this
theorem numL_rg (l : List UInt8) : 0 ≤ (numL l 9).1 ∧ (numL l 9).1 < 1000000000 := by
  unfold numL
  cases h : num0 l 9 with
  | true => exact ⟨Int.le_refl _, by show (0 : Int) < _; omega⟩
  | false =>
    refine ⟨scan_ge l 0 (Int.le_refl _), ?_⟩
    unfold num0 at h
    simp only [Bool.or_eq_false_iff, decide_eq_false_iff_not] at h
    have := scan_lt l 0 0 (Int.le_refl _) (by decide)
    exact Int.lt_of_lt_of_le this (Int.le_trans (pow_mono (show 0 + l.length ≤ 9 by omega)) (by decide))
theorem get0_eq {s : ByteArray} (h : 0 < s.size) : ((bl s).head? == some 48) = (((((s.get! (Int.toNat 0)).toNat : Nat) : Int)) == 48) := by
  have hd := drop_get (s := s) (i := 0) h
  rw [List.drop_zero] at hd
  rw [hd, show Int.toNat 0 = 0 from rfl]
  show (s.get! 0 == 48) = _
  cases hx : (s.get! 0 == 48) with
  | true => rw [eq_of_beq hx]; rfl
  | false =>
    symm
    rw [beq_eq_false_iff_ne] at hx ⊢
    intro e
    exact hx (UInt8.toNat_inj.1 (by show (s.get! 0).toNat = 48; omega))
theorem chi_num (s : ByteArray) (m : Bool) : chi none r0I s (kI s m) 12 0 0 = bif (numL (bl s) 9).2 then r0I else tlI m (numL (bl s) 9).1 := by
  by_cases h9 : 9 < s.size
  · rw [chi_long none r0I s _ 11 h9]
    have : num0 (bl s) 9 = true := by
      unfold num0
      rw [bl_len, decide_eq_true (show ((s.size : Nat) : Int) > 9 by omega)]
      simp
    unfold numL
    rw [this]
    rfl
  · rw [chi_f none r0I s _ 12 0 0 (by omega) (by omega) (by omega) (Int.le_refl _) (by decide), List.drop_zero]
    unfold numL num0 kI
    rw [bl_len, show (s.toList == mtL.toList) = decide (s.size = 0) from empty_bytes s, decide_eq_false (show ¬ ((s.size : Nat) : Int) > 9 by omega)]
    by_cases h0 : s.size = 0
    · rw [decide_eq_true h0]
      have : bl s = [] := List.length_eq_zero_iff.1 (by rw [bl_len]; exact h0)
      rw [this]
      rfl
    · rw [decide_eq_false h0]
      simp only [cond_false, Bool.false_or]
      by_cases h2 : s.size > 1
      · rw [decide_eq_true (show ((s.size : Nat) : Int) > 1 by omega), decide_eq_true h2, get0_eq (by omega)]
        have hid : id0 s = true := by unfold id0; rw [decide_eq_true (show (0 : Int) ≤ 0 by omega), decide_eq_true (show (0 : Int) < (s.size : Nat) by omega)]; rfl
        rw [hid]
        simp only [cond_true, Bool.true_and]
        cases ((((s.get! (Int.toNat 0)).toNat : Nat) : Int) == 48) <;> cases hsc : (scan (bl s) 0).2 <;> simp [hsc]
      · rw [decide_eq_false (show ¬ ((s.size : Nat) : Int) > 1 by omega), decide_eq_false h2]
        simp only [cond_false, Bool.false_and]
theorem bl_cutMi (s : ByteArray) : bl (cutMi s) = bif miH (bl s) then (bl s).tail else bl s := by
  unfold cutMi
  cases miH (bl s)
  · rfl
  · exact bl_mkB _
theorem run190' (s : ByteArray) : bodyK ((cfg w0).at [c210]) 27 (fnOf Tryz.f190) [St_ s] = some (.tup [I (sgL (bl s)).1, Bo (sgL (bl s)).2]) := by
  rw [run190, chi_num, bl_cutMi]
  unfold sgL dgL
  cases hm : miH (bl s) with
  | false =>
    simp only [cond_false]
    cases (numL (bl s) 9).2 <;> rfl
  | true =>
    simp only [cond_true]
    cases hn : (numL (bl s).tail 9).2 with
    | true => rfl
    | false =>
      have hr := numL_rg (bl s).tail
      unfold tlI mnI
      simp only [cond_true, cond_false, Bool.true_and]
      by_cases hz : (numL (bl s).tail 9).1 = 0
      · rw [hz]; rfl
      · rw [show ((numL (bl s).tail 9).1 == 0) = false by rw [beq_eq_false_iff_ne]; exact hz, W_id (by omega) (by omega), decide_eq_true (show (numL (bl s).tail 9).1 > 0 by omega)]
        rfl
def c190 : Ct := ct 190 [.c .str] fun a => .leaf (.tup [I (sgL (bl a.1)).1, Bo (sgL (bl a.1)).2])
theorem gd190 (h0 : Lib0 w0) : Gd (cfg w0) c190 := gd_sig fun a d hd => by
  obtain ⟨s, u⟩ := a
  cases hd
  exact fnD_k (cfg_ok w0) h0 (cs := [c210]) ⟨gd210 h0, trivial⟩ (fd := fnOf Tryz.f190) rfl (n := 27) (run190' s)
end
end Go.Proofs.YtmlglimahbjgbaaGreatDoor

namespace Go.Proofs.YtmlglimahbjgbaaGreatDoor
open Go Go.Am Go.RowKit Go.Town
set_option maxRecDepth 100000
variable {w0 : World}
noncomputable section


def relG : List (Nat × Cv) := [(0, .id), (2, .id), (3, .id), (4, .id), (5, .id)]
def stG (s : ByteArray) (a : Int × Int) : List D := [St_ s, I 0, Bo false, I a.2, I a.1]
def idS (s : ByteArray) (i : Int) : Bool := decide (0 ≤ i) && decide (i < s.size)
def byI (s : ByteArray) (i : Int) : Int := (((s.get! i.toNat).toNat : Nat) : Int)
def treeG (s : ByteArray) (i n : Int) : Rn' := bif decide (i < s.size) then bif idS s i then bif decide (byI s i < 48) then some ([], .ret, stG s (i, n)) else bif idS s i then bif decide (byI s i > 57) then some ([], .ret, stG s (i, n)) else
  bif idS s i then some ([], .normal, stG s (W (i + 1), IntKind.i64.wrap (IntKind.i64.wrap (10 * n) + IntKind.i64.wrap (IntKind.u8.wrap (byI s i - 48))))) else none else none else none else some ([], .exit 0, stG s (i, n))
def ldG (N : Nat) (s : ByteArray) (x : X) (p : Int × Int) : Ld := ldP 0 N relG x (stG s p)
def bodG (N : Nat) (B : Code) (dg : Int) (s : ByteArray) (x : X) (p : Int × Int) (d : D) : Option (Obs × D) :=
  bif s.toList == mtL.toList then some ([], .tup [I 0, Bo false]) else bif decide (((s.size : Nat) : Int) > dg) then some ([], .tup [I 0, Bo false]) else
  bif decide (((s.size : Nat) : Int) > 1) then bif idS s 0 then bif byI s 0 == 48 then some ([], .tup [I 0, Bo false]) else some ([(ldG N s x p, .loop B, stG s (0, 0))], d) else none else some ([(ldG N s x p, .loop B, stG s (0, 0))], d)
theorem round191 (s : ByteArray) (i n : Int) : rndD ((cfg w0).at []) 40 [] 40 (fnOf Tryz.f191).ntmps relG (lpB 0 (fnOf Tryz.f191).body) (stG s (i, n)) = treeG s i n := by kernel_rfl
theorem body191r (s : ByteArray) (p : Int × Int) : bodyT ((cfg w0).at []) 40 [ldG (fnOf Tryz.f191).ntmps s .ret p] 40 (fnOf Tryz.f191) [St_ s] = bodG (fnOf Tryz.f191).ntmps (lpB 0 (fnOf Tryz.f191).body) 9 s .ret p (.tup [I 0, Bo false]) := by kernel_rfl
theorem body191n (s : ByteArray) (p : Int × Int) : bodyT ((cfg w0).at []) 40 [ldG (fnOf Tryz.f191).ntmps s .normal p] 40 (fnOf Tryz.f191) [St_ s] = bodG (fnOf Tryz.f191).ntmps (lpB 0 (fnOf Tryz.f191).body) 9 s .normal p (.tup [I p.2, Bo true]) := by kernel_rfl
def digB (b : UInt8) : Bool := decide (((b.toNat : Nat) : Int) < 48) || decide (((b.toNat : Nat) : Int) > 57)
def stepG (s : ByteArray) (i : Nat) (n : Int) : X × Int := bif digB (s.get! i) then (.ret, n) else (.normal, 10 * n + ((s.get! i).toNat - 48))
theorem scan_cons (b : UInt8) (l : List UInt8) (n : Int) : scan (b :: l) n = bif digB b then (n, true) else scan l (10 * n + (b.toNat - 48)) := rfl
theorem runG (s : ByteArray) : ∀ (f i : Nat) (n : Int), i + f = s.size → ∃ p, rgRun 0 (stepG s) f i n = (bif (scan ((bl s).drop i) n).2 then (.ret, p) else (.exit 0, ((s.size : Nat) : Int), (scan ((bl s).drop i) n).1))
  | 0, i, n, h => ⟨(0, 0), by
    rw [List.drop_eq_nil_of_le (by rw [bl_len]; omega)]
    show (X.exit 0, ((i : Int), n)) = _
    rw [show i = s.size by omega]
    rfl⟩
  | f + 1, i, n, h => by
    rw [drop_get (show i < s.size by omega), scan_cons]
    unfold rgRun
    cases hd : digB (s.get! i) with
    | true =>
      have e : stepG s i n = (.ret, n) := by unfold stepG; rw [hd]; rfl
      rw [e]
      exact ⟨((i : Int), n), rfl⟩
    | false =>
      have e : stepG s i n = (.normal, 10 * n + ((s.get! i).toNat - 48)) := by unfold stepG; rw [hd]; rfl
      rw [e]
      obtain ⟨p, hp⟩ := runG s f (i + 1) (10 * n + ((s.get! i).toNat - 48)) (by omega)
      exact ⟨p, hp⟩
theorem fnG (h0 : Lib0 w0) {g : FuncId} {fd : AFn} (hfd : (cfg w0).fn g = some fd) {dg : Int} (hdg : dg ≤ 15) (hr : ∀ s i n, rndD ((cfg w0).at []) 40 [] 40 fd.ntmps relG (lpB 0 fd.body) (stG s (i, n)) = treeG s i n)
    (hbr : ∀ s p, bodyT ((cfg w0).at []) 40 [ldG fd.ntmps s .ret p] 40 fd [St_ s] = bodG fd.ntmps (lpB 0 fd.body) dg s .ret p (.tup [I 0, Bo false]))
    (hbn : ∀ s p, bodyT ((cfg w0).at []) 40 [ldG fd.ntmps s .normal p] 40 fd [St_ s] = bodG fd.ntmps (lpB 0 fd.body) dg s .normal p (.tup [I p.2, Bo true])) (s : ByteArray) :
    FnD (cfg w0) g [St_ s] (.tup [I (dgL (bl s) dg).1, Bo (dgL (bl s) dg).2]) := by
  have hB : ∀ (x : X) (p : Int × Int) (d : D), bodG fd.ntmps (lpB 0 fd.body) dg s x p d = bif num0 (bl s) dg then some ([], .tup [I 0, Bo false]) else some ([(ldG fd.ntmps s x p, .loop (lpB 0 fd.body), stG s (0, 0))], d) := fun x p d => by
    unfold bodG num0
    rw [bl_len, show (s.toList == mtL.toList) = decide (s.size = 0) from empty_bytes s]
    by_cases h0 : s.size = 0
    · rw [decide_eq_true h0]; rfl
    · rw [decide_eq_false h0]
      simp only [cond_false, Bool.false_or]
      by_cases h1 : ((s.size : Nat) : Int) > dg
      · rw [decide_eq_true h1]; rfl
      · rw [decide_eq_false h1]
        simp only [cond_false, Bool.false_or]
        by_cases h2 : s.size > 1
        · have hd := drop_get (s := s) (i := 0) (by omega)
          rw [List.drop_zero] at hd
          have e : ((bl s).head? == some 48) = (byI s 0 == 48) := by
            rw [hd]
            show (s.get! 0 == 48) = ((((s.get! 0).toNat : Nat) : Int) == 48)
            cases hx : (s.get! 0 == 48) with
            | true => rw [eq_of_beq hx]; rfl
            | false =>
              symm
              rw [beq_eq_false_iff_ne] at hx ⊢
              intro e
              exact hx (UInt8.toNat_inj.1 (by show (s.get! 0).toNat = 48; omega))
          rw [decide_eq_true (show ((s.size : Nat) : Int) > 1 by omega), decide_eq_true h2, e, show idS s 0 = true by unfold idS; rw [decide_eq_true (show (0 : Int) ≤ 0 by omega), decide_eq_true (show (0 : Int) < s.size by omega)]; rfl]
          simp only [cond_true, Bool.true_and]
        · rw [decide_eq_false (show ¬ ((s.size : Nat) : Int) > 1 by omega), decide_eq_false h2]
          rfl
  cases hn : num0 (bl s) dg with
  | true =>
    have hb := hbr s (0, 0)
    rw [hB, hn] at hb
    have e : dgL (bl s) dg = (0, false) := by unfold dgL numL; rw [hn]; rfl
    rw [e]
    exact fnD_t (cfg_ok w0) h0 (cs := []) trivial hfd hb trivial
  | false =>
    have h15 : s.size ≤ 15 := by
      unfold num0 at hn
      simp only [Bool.or_eq_false_iff, decide_eq_false_iff_not] at hn
      have := hn.2.1
      rw [bl_len] at this
      omega
    have enum : numL (bl s) dg = scan (bl s) 0 := by unfold numL; rw [hn]; rfl
    obtain ⟨p, hp⟩ := runG s s.size 0 0 (by omega)
    rw [List.drop_zero] at hp
    have hld : ∀ (x : X) (q : Int × Int), rgRun 0 (stepG s) s.size 0 0 = (x, q) → LdT ((cfg w0).at []) (ldG fd.ntmps s (outX 0 x) q) (.loop (lpB 0 fd.body)) (stG s (0, 0)) := fun x q hx =>
      ldT_rg (at_ok (cfg_ok w0) []) (at_sp h0 (cs := []) trivial) (N := fd.ntmps) (rel := relG) (B := lpB 0 fd.body) (id := 0) (k := s.size) (by omega) (stG s) (stepG s) (fun i n => 0 ≤ n ∧ n < 10 ^ i)
        (fun i n hi ⟨hn0, hn1⟩ => .leaf (by
          refine (hr s (i : Int) n).trans ?_
          unfold treeG stepG
          have hid : idS s (i : Int) = true := by unfold idS; rw [decide_eq_true (show (0 : Int) ≤ i by omega), decide_eq_true (show (i : Int) < s.size by omega)]; rfl
          have hby : byI s (i : Int) = ((s.get! i).toNat : Int) := rfl
          rw [lt_t hi, hid, hby]
          unfold digB
          cases h1 : decide (((s.get! i).toNat : Int) < 48) with
          | true => rfl
          | false =>
            cases h2 : decide (((s.get! i).toNat : Int) > 57) with
            | true => rfl
            | false =>
              have h1 := of_decide_eq_false h1
              have h2 := of_decide_eq_false h2
              have hp15 : (10 : Int) ^ i ≤ 10 ^ 15 := pow_mono (by omega)
              rw [show IntKind.u8.wrap (((s.get! i).toNat : Int) - 48) = ((s.get! i).toNat : Int) - 48 from IntWalk.u8_in _ ⟨by omega, by omega⟩, W_id (n := 10 * n) (by omega) (by omega), W_id (n := ((s.get! i).toNat : Int) - 48) (by omega) (by omega), W_id (n := 10 * n + (((s.get! i).toNat : Int) - 48)) (by omega) (by omega)]
              rfl)) (fun i n n' hi ⟨hn0, hn1⟩ h => by
          unfold stepG at h
          cases hd : digB (s.get! i) with
          | true => rw [hd] at h; cases h
          | false =>
            rw [hd] at h
            cases h
            unfold digB at hd
            simp only [Bool.or_eq_false_iff, decide_eq_false_iff_not] at hd
            rw [Int.pow_succ]
            omega)
        (fun n _ => .leaf ((hr s _ n).trans (by unfold treeG; rw [ge_f]; rfl))) (a0 := 0) ⟨Int.le_refl _, by show (0 : Int) < 10 ^ 0; decide⟩ hx
    unfold dgL
    rw [enum]
    cases hw : (scan (bl s) 0).2 with
    | true =>
      rw [hw] at hp
      have hb := hbr s p
      rw [hB, hn] at hb
      exact fnD_lp (cfg_ok w0) h0 (cs := []) trivial (g := g) hfd hb (hld .ret p hp)
    | false =>
      rw [hw] at hp
      have hb := hbn s (((s.size : Nat) : Int), (scan (bl s) 0).1)
      rw [hB, hn] at hb
      exact fnD_lp (cfg_ok w0) h0 (cs := []) trivial (g := g) hfd hb (hld (.exit 0) _ hp)
def dgC (g : Nat) (dg : Int) : Ct := ct g [.c .str] fun a => .leaf (.tup [I (dgL (bl a.1) dg).1, Bo (dgL (bl a.1) dg).2])
theorem gd191 (h0 : Lib0 w0) : Gd (cfg w0) (dgC 191 9) := gd_sig fun a d hd => by
  obtain ⟨s, u⟩ := a
  cases hd
  exact fnG h0 (fd := fnOf Tryz.f191) rfl (by omega) round191 body191r body191n s
end
end Go.Proofs.YtmlglimahbjgbaaGreatDoor

namespace Go.Proofs.YtmlglimahbjgbaaGreatDoor
open Go Go.Am Go.RowKit Go.Town
set_option maxRecDepth 100000
variable {w0 : World}
noncomputable section


def rel93 : List (Nat × Cv) := [(0, .id), (1, .id), (5, .ov sK1), (6, .id), (7, .id)]
def st93 (s : ByteArray) (c : Int) (a : Int × Int × SLs) : List D := [St_ s, .val (.int .u8 c), .ovec sK1 a.2.2, I a.2.1, I a.1]
def rmS (o : SLs) : Bool := Nat.ble (o.length * 16) 1000000000000 && Nat.ble o.length 1000000000000
def cutTwo (s : ByteArray) (i j : Int) : Bool := decide (0 ≤ j) && (decide (j ≤ s.size) && (decide (0 ≤ i) && decide (i ≤ j)))
theorem round93 (s : ByteArray) (c i fr : Int) (o : SLs) : rndD ((cfg w0).at []) 40 [] 40 (fnOf Tryz.f93).ntmps rel93 (lpB 0 (fnOf Tryz.f93).body) (st93 s c (i, fr, o)) =
    bif decide (i < s.size) then bif idS s i then bif byI s i == c then bif cutTwo s fr i then bif rmS (o ++ [tS (s.extract fr.toNat i.toNat)]) then
      some ([], .normal, st93 s c (W (i + 1), IntKind.i64.wrap (i + 1), o ++ [tS (s.extract fr.toNat i.toNat)])) else none else none
    else some ([], .normal, st93 s c (W (i + 1), fr, o)) else none else some ([], .exit 0, st93 s c (i, fr, o)) := by kernel_rfl
def ld93 (s : ByteArray) (c : Int) (p : Int × Int × SLs) : Ld := ldP 0 (fnOf Tryz.f93).ntmps rel93 .normal (st93 s c p)
theorem body93 (s : ByteArray) (c : Int) (p : Int × Int × SLs) : bodyT ((cfg w0).at []) 40 [ld93 s c p] 40 (fnOf Tryz.f93) [St_ s, .val (.int .u8 c)] =
    bif cutOk s p.2.1 then bif rmS (p.2.2 ++ [tS (s.extract p.2.1.toNat s.size)]) then some ([(ld93 s c p, .loop (lpB 0 (fnOf Tryz.f93).body), st93 s c (0, 0, []))], .vec sK1 (p.2.2 ++ [tS (s.extract p.2.1.toNat s.size)])) else none else none := by kernel_rfl
theorem spl_app {c : UInt8} : ∀ {a b : List UInt8}, a.count c = 0 → spl c (a ++ c :: b) = a :: spl c b
  | [], b, _ => spl_t (by simp)
  | x :: a, b, h => by
    rw [List.count_cons] at h
    have hx : (x == c) = false := by
      cases hx : (x == c) with
      | false => rfl
      | true => rw [hx] at h; simp at h
    rw [hx] at h
    show spl c (x :: (a ++ c :: b)) = _
    rw [spl_f hx, spl_app (by simpa using h)]
    rfl
def step93 (s : ByteArray) (c : UInt8) (i : Nat) (a : Int × SLs) : X × (Int × SLs) := (.normal, bif s.get! i == c then (((i + 1 : Nat) : Int), a.2 ++ [tS (s.extract a.1.toNat i)]) else a)
theorem run93 (s : ByteArray) (c : UInt8) : ∀ (f i fr : Nat) (o : SLs), i + f = s.size → fr ≤ i → ((((bl s).drop fr).take (i - fr)).count c = 0) → o.length ≤ i →
    ∃ (fr' : Nat) (o' : SLs), rgRun 0 (step93 s c) f i ((fr : Int), o) = (.exit 0, ((s.size : Nat) : Int), (fr' : Int), o') ∧ fr' ≤ s.size ∧ o'.length ≤ s.size ∧ o' ++ [tS (s.extract fr' s.size)] = o ++ (spl c ((bl s).drop fr)).map tupS
  | 0, i, fr, o, h, hf, hc, ho => by
    refine ⟨fr, o, ?_, by omega, by omega, ?_⟩
    · show (X.exit 0, ((i : Int), ((fr : Int), o))) = _
      rw [show i = s.size by omega]
    · rw [List.take_of_length_le (by rw [List.length_drop, bl_len]; omega)] at hc
      rw [spl_none hc, ext_e]
      rfl
  | f + 1, i, fr, o, h, hf, hc, ho => by
    unfold rgRun
    have hi : i < s.size := by omega
    cases hx : (s.get! i == c) with
    | true =>
      have e : step93 s c i ((fr : Int), o) = (.normal, (((i + 1 : Nat) : Int), o ++ [tS (s.extract fr i)])) := by unfold step93; rw [hx]; rfl
      rw [e]
      simp only
      obtain ⟨fr', o', h1, h2, h3, h4⟩ := run93 s c f (i + 1) (i + 1) (o ++ [tS (s.extract fr i)]) (by omega) (Nat.le_refl _) (by rw [Nat.sub_self]; rfl) (by simp; omega)
      refine ⟨fr', o', h1, h2, h3, ?_⟩
      rw [h4]
      have hsp : (bl s).drop fr = ((bl s).drop fr).take (i - fr) ++ c :: (bl s).drop (i + 1) := by
        have h5 := List.take_append_drop (i - fr) ((bl s).drop fr)
        rw [List.drop_drop, show fr + (i - fr) = i by omega, drop_get hi, eq_of_beq hx] at h5
        exact h5.symm
      rw [List.append_assoc]
      congr 1
      rw [hsp, spl_app hc]
      show [tS (s.extract fr i)] ++ _ = tS (mkB _) :: _
      have e2 : s.extract fr i = mkB (((bl s).drop fr).take (i - fr)) := bl_inj (by rw [bl_extract, bl_mkB])
      rw [e2]
      rfl
    | false =>
      have e : step93 s c i ((fr : Int), o) = (.normal, ((fr : Int), o)) := by unfold step93; rw [hx]; rfl
      rw [e]
      simp only
      refine run93 s c f (i + 1) fr o (by omega) (by omega) ?_ (by omega)
      rw [show i + 1 - fr = (i - fr) + 1 by omega]
      have hl : i - fr < ((bl s).drop fr).length := by rw [List.length_drop, bl_len]; omega
      rw [List.take_succ_eq_append_getElem hl, List.count_append, hc]
      have h5 : ((bl s).drop fr).drop (i - fr) = s.get! i :: (bl s).drop (i + 1) := by rw [List.drop_drop, show fr + (i - fr) = i by omega, drop_get hi]
      rw [List.drop_eq_getElem_cons hl] at h5
      rw [(List.cons.inj h5).1, List.count_singleton, hx]
      rfl
def okU (c : Int) : Bool := decide (0 ≤ c) && decide (c ≤ 255)
def cU (c : Int) : UInt8 := UInt8.ofNat c.toNat
theorem byI_eq {s : ByteArray} {c : Int} (h : okU c = true) (i : Nat) : (byI s (i : Int) == c) = (s.get! i == cU c) := by
  unfold okU at h
  simp only [Bool.and_eq_true, decide_eq_true_eq] at h
  have hc : ((cU c).toNat : Int) = c := by
    unfold cU
    rw [UInt8.toNat_ofNat', Nat.mod_eq_of_lt (by omega)]
    omega
  show (((s.get! i).toNat : Int) == c) = _
  cases hx : (s.get! i == cU c) with
  | true => rw [eq_of_beq hx, hc]; simp
  | false =>
    rw [beq_eq_false_iff_ne] at hx ⊢
    intro e
    exact hx (UInt8.toNat_inj.1 (by omega))
theorem fn93 (h0 : Lib0 w0) (s : ByteArray) (c : Int) (hg : smS s = true) (hc : okU c = true) : FnD (cfg w0) 93 [St_ s, .val (.int .u8 c)] (.vec sK1 ((spl (cU c) (bl s)).map tupS)) := by
  have hs : s.size ≤ 100000 := Nat.le_of_ble_eq_true hg
  obtain ⟨fr, o, h1, h2, h3, h4⟩ := run93 s (cU c) s.size 0 0 [] (by omega) (Nat.le_refl _) rfl (Nat.le_refl _)
  have hrm : ∀ l : SLs, l.length ≤ 200000 → rmS l = true := fun l hl => by
    unfold rmS
    rw [(Nat.ble_eq ..).mpr (by omega), (Nat.ble_eq ..).mpr (by omega)]
    rfl
  have hld := ldT_rg (at_ok (cfg_ok w0) []) (at_sp h0 (cs := []) trivial) (N := (fnOf Tryz.f93).ntmps) (rel := rel93) (B := lpB 0 (fnOf Tryz.f93).body) (id := 0) (k := s.size) (by omega) (st93 s c) (step93 s (cU c)) (fun i a => ∃ fr : Nat, a.1 = (fr : Int) ∧ fr ≤ i ∧ a.2.length ≤ i)
    (fun i a hi ⟨fr, hf, hle, hl⟩ => .leaf (by
      obtain ⟨x, o⟩ := a
      have hf : x = (fr : Int) := hf
      have hl : o.length ≤ i := hl
      subst hf
      refine (round93 s c (i : Int) (fr : Int) o).trans ?_
      have hid : idS s (i : Int) = true := by unfold idS; rw [decide_eq_true (show (0 : Int) ≤ i by omega), decide_eq_true (show (i : Int) < s.size by omega)]; rfl
      have hcu : cutTwo s (fr : Int) (i : Int) = true := by unfold cutTwo; rw [decide_eq_true (show (0 : Int) ≤ i by omega), decide_eq_true (show (i : Int) ≤ s.size by omega), decide_eq_true (show (0 : Int) ≤ fr by omega), decide_eq_true (show (fr : Int) ≤ i by omega)]; rfl
      rw [lt_t hi, hid, byI_eq hc, hcu, Int.toNat_natCast, Int.toNat_natCast, hrm _ (by rw [List.length_append, List.length_singleton]; omega), W_id (n := (i : Int) + 1) (by omega) (by omega)]
      unfold step93
      cases hx : (s.get! i == cU c) <;> rfl)) (fun i a a' hi ⟨fr, hf, hle, hl⟩ h => by
      cases h
      cases hx : (s.get! i == cU c) with
      | true => exact ⟨i + 1, rfl, Nat.le_refl _, by simp; omega⟩
      | false => exact ⟨fr, hf, by omega, by simp only [cond_false]; omega⟩)
    (fun a _ => .leaf (by obtain ⟨x, o⟩ := a; refine (round93 s c _ x o).trans ?_; rw [ge_f]; rfl)) (a0 := ((0 : Int), ([] : SLs))) ⟨0, rfl, Nat.le_refl _, Nat.le_refl _⟩ h1
  have hb := body93 (w0 := w0) s c (((s.size : Nat) : Int), (fr : Int), o)
  have hco : cutOk s (fr : Int) = true := by unfold cutOk; rw [decide_eq_true (show (0 : Int) ≤ fr by omega), decide_eq_true (show (fr : Int) ≤ s.size by omega)]; rfl
  simp only at hb
  rw [hco, Int.toNat_natCast, hrm _ (by rw [List.length_append, List.length_singleton]; omega), h4] at hb
  exact fnD_lp (cfg_ok w0) h0 (cs := []) trivial (g := 93) (fd := fnOf Tryz.f93) rfl hb hld
def splC (c : UInt8) (s : ByteArray) : SLs := (spl c (bl s)).map tupS
def c93 : Ct := ct 93 [.c .str, .c (.int .u8)] fun a => .br (smS a.1) (.br (okU a.2.1) (.leaf (.vec sK1 (splC (cU a.2.1) a.1))) .bad) .bad
theorem gd93 (h0 : Lib0 w0) : Gd (cfg w0) c93 := gd_sig fun a d hd => by
  obtain ⟨s, c, u⟩ := a
  obtain ⟨h1, hd⟩ := br_run hd
  obtain ⟨h2, hd⟩ := br_run hd
  cases hd
  exact fn93 h0 s c h1 h2
end
end Go.Proofs.YtmlglimahbjgbaaGreatDoor

namespace Go.Proofs.YtmlglimahbjgbaaGreatDoor
open Go Go.Am Go.RowKit Go.Town
set_option maxRecDepth 100000
variable {w0 : World}
noncomputable section


def itoB (n : Int) : ByteArray := mkB (itoaL n)
def in64 (n : Int) : Bool := decide (-1000000000000000 ≤ n) && decide (n ≤ 1000000000000000)
def c150 : Ct := ct 150 [.c ik] fun a => .br (in64 a.1) (.leaf (St_ (itoB a.1))) .bad
theorem in64_le {n : Int} (h : in64 n = true) : -1000000000000000 ≤ n ∧ n ≤ 1000000000000000 := by
  unfold in64 at h
  simpa only [Bool.and_eq_true, decide_eq_true_eq] using h
theorem itoaF_eq {n : Int} (h : in64 n = true) : itoaF [.val (.int .i64 n)] = some (St_ (itoB n)) := by
  obtain ⟨h1, h2⟩ := in64_le h
  unfold itoaF
  simp only []
  rw [decide_eq_true (show -9223372036854775808 ≤ n by omega), decide_eq_true (show n ≤ 9223372036854775807 by omega)]
  rfl
theorem gd150 (h0 : Lib0 w0) : Gd (cfg w0) c150 := gd_sig fun a d hd => by
  obtain ⟨n, u⟩ := a
  obtain ⟨hg, hd⟩ := br_run hd
  cases hd
  have hm : (cfg w0).mode 150 = .spec itoaF := rfl
  exact h0.1 150 itoaF hm [.val (.int .i64 n)] (St_ (itoB n)) (itoaF_eq hg)


def rel156 : List (Nat × Cv) := [(0, .id), (3, .id), (4, .id)]
def st156 (n : Int) (a : Int × ByteArray) : List D := [I n, St_ a.2, I a.1]
def chr (k : Int) : ByteArray := ⟨#[UInt8.ofNat (IntKind.u8.wrap (IntKind.i64.wrap (48 + (if IntKind.i64.wrap (0 - k.tmod 10) > k.tmod 10 then IntKind.i64.wrap (0 - k.tmod 10) else k.tmod 10)))).toNat]⟩
def catB (a b : ByteArray) : Bool := Nat.ble (a.size + b.size) 9223372036854775807
theorem round156 (n k : Int) (s : ByteArray) : rndD ((cfg w0).at []) 40 [] 40 (fnOf Tryz.f156).ntmps rel156 (lpB 0 (fnOf Tryz.f156).body) (st156 n (k, s)) =
    bif k != 0 then bif catB (chr k) s then some ([], .normal, st156 n (IntKind.i64.wrap (k.tdiv 10), chr k ++ s)) else none else some ([], .exit 0, st156 n (k, s)) := by kernel_rfl
def minB : ByteArray := ⟨#[45]⟩
def ld156 (n : Int) (p : Int × ByteArray) : Ld := ldP 0 (fnOf Tryz.f156).ntmps rel156 .normal (st156 n p)
def ob156 (n : Int) (p : Int × ByteArray) : Obs := [(ld156 n p, .loop (lpB 0 (fnOf Tryz.f156).body), st156 n (n, mtL))]
theorem body156 (n : Int) (p : Int × ByteArray) : bodyT ((cfg w0).at []) 40 [ld156 n p] 40 (fnOf Tryz.f156) [I n] =
    bif n == 0 then some ([], St_ ⟨#[48]⟩) else bif decide (n < 0) then bif catB minB p.2 then some (ob156 n p, St_ (minB ++ p.2)) else none else some (ob156 n p, St_ p.2) := by kernel_rfl
def lpL : Nat → Nat → List UInt8 → List UInt8
  | 0, _, acc => acc
  | f + 1, m, acc => if m = 0 then acc else lpL f (m / 10) (UInt8.ofNat (48 + m % 10) :: acc)
theorem lpL_zero : ∀ (f : Nat) (acc : List UInt8), lpL f 0 acc = acc
  | 0, _ => rfl
  | _ + 1, _ => rfl
theorem digs_lp : ∀ (f m : Nat) (acc : List UInt8), m ≠ 0 → m < 10 ^ (f + 1) → digs (f + 1) m acc = lpL (f + 1) m acc
  | f, m, acc, h0, h => by
    unfold digs lpL
    rw [if_neg h0]
    by_cases hm : m < 10
    · have hb : Nat.blt m 10 = true := by rw [Nat.blt_eq]; exact hm
      rw [hb, show m / 10 = 0 by omega, lpL_zero, show m % 10 = m by omega]
    · have hb : Nat.blt m 10 = false := by cases hx : Nat.blt m 10 with | false => rfl | true => rw [Nat.blt_eq] at hx; omega
      rw [hb]
      cases f with
      | zero => have h : m < 10 := h; omega
      | succ f => exact digs_lp f (m / 10) _ (by omega) (by rw [Nat.pow_succ] at h; omega)
def nx156 (a : Int × ByteArray) : X × (Int × ByteArray) := bif a.1 != 0 then (.normal, a.1.tdiv 10, chr a.1 ++ a.2) else (.exit 0, a)
theorem chr_eq (m : Nat) : chr (m : Int) = mkB [UInt8.ofNat (48 + m % 10)] := by
  have h1 : ((m : Int)).tmod 10 = ((m % 10 : Nat) : Int) := by rw [Int.tmod_eq_emod_of_nonneg (by omega)]; omega
  unfold chr
  rw [h1, W_id (n := 0 - ((m % 10 : Nat) : Int)) (by omega) (by omega), if_neg (by omega), W_id (by omega) (by omega), show IntKind.u8.wrap (48 + ((m % 10 : Nat) : Int)) = 48 + ((m % 10 : Nat) : Int) from IntWalk.u8_in _ ⟨by omega, by omega⟩]
  rw [show (48 + ((m % 10 : Nat) : Int)).toNat = 48 + m % 10 by omega]
  rfl
theorem tdiv_nat (m : Nat) : ((m : Int)).tdiv 10 = ((m / 10 : Nat) : Int) := by
  rw [Int.tdiv_eq_ediv_of_nonneg (by omega)]; omega
theorem chr_neg (m : Nat) : chr (-(m : Int)) = mkB [UInt8.ofNat (48 + m % 10)] := by
  have h1 : (-(m : Int)).tmod 10 = -((m % 10 : Nat) : Int) := by rw [Int.neg_tmod, Int.tmod_eq_emod_of_nonneg (by omega)]; omega
  unfold chr
  rw [h1, W_id (n := 0 - -((m % 10 : Nat) : Int)) (by omega) (by omega)]
  have h2 : (if 0 - -((m % 10 : Nat) : Int) > -((m % 10 : Nat) : Int) then 0 - -((m % 10 : Nat) : Int) else -((m % 10 : Nat) : Int)) = ((m % 10 : Nat) : Int) := by split <;> omega
  rw [h2, W_id (by omega) (by omega), show IntKind.u8.wrap (48 + ((m % 10 : Nat) : Int)) = 48 + ((m % 10 : Nat) : Int) from IntWalk.u8_in _ ⟨by omega, by omega⟩]
  rw [show (48 + ((m % 10 : Nat) : Int)).toNat = 48 + m % 10 by omega]
  rfl
theorem tdiv_neg (m : Nat) : (-(m : Int)).tdiv 10 = -((m / 10 : Nat) : Int) := by
  rw [Int.neg_tdiv, tdiv_nat]
def sgn (b : Bool) (m : Nat) : Int := bif b then -(m : Int) else (m : Int)
theorem chr_sgn (b : Bool) (m : Nat) : chr (sgn b m) = mkB [UInt8.ofNat (48 + m % 10)] := by
  cases b
  · exact chr_eq m
  · exact chr_neg m
theorem tdiv_sgn (b : Bool) (m : Nat) : (sgn b m).tdiv 10 = sgn b (m / 10) := by
  cases b
  · exact tdiv_nat m
  · exact tdiv_neg m
theorem sgn_ne {b : Bool} {m : Nat} (h : m ≠ 0) : (sgn b m != 0) = true := by
  rw [bne_iff_ne]
  cases b
  · show (m : Int) ≠ 0; omega
  · show -(m : Int) ≠ 0; omega
theorem sgn_zero (b : Bool) : sgn b 0 = 0 := by cases b <;> rfl
theorem it156 (b : Bool) : ∀ (f m : Nat) (s : ByteArray), m < 10 ^ f → ∃ g, iterN nx156 g (sgn b m, s) = some (.exit 0, ((0 : Int), mkB (lpL f m (bl s))))
  | 0, m, s, h => ⟨1, by
    have h0 : m = 0 := by have : m < 1 := h; omega
    subst h0
    unfold iterN nx156
    rw [sgn_zero]
    show some (X.exit 0, ((0 : Int), s)) = _
    unfold lpL
    rw [mkB_bl]⟩
  | f + 1, m, s, h => by
    by_cases h0 : m = 0
    · subst h0
      refine ⟨1, ?_⟩
      unfold iterN nx156
      rw [sgn_zero]
      show some (X.exit 0, ((0 : Int), s)) = _
      rw [lpL_zero, mkB_bl]
    · obtain ⟨g, hg⟩ := it156 b f (m / 10) (chr (sgn b m) ++ s) (by rw [Nat.pow_succ] at h; omega)
      refine ⟨g + 1, ?_⟩
      have e : nx156 (sgn b m, s) = (.normal, (sgn b (m / 10), chr (sgn b m) ++ s)) := by
        unfold nx156
        rw [sgn_ne h0, tdiv_sgn]
        rfl
      unfold iterN
      rw [e]
      simp only
      rw [hg, bl_append, chr_sgn, bl_mkB]
      unfold lpL
      rw [if_neg h0]
      cases f <;> rfl
theorem size_app (a b : ByteArray) : (a ++ b).size = a.size + b.size := by rw [← bl_len, bl_append, List.length_append, bl_len, bl_len]
theorem sgn_of (n : Int) : ∃ b m, n = sgn b m ∧ (b = true → 0 < m) := by
  rcases Int.le_total 0 n with h | h
  · exact ⟨false, n.toNat, by show n = (n.toNat : Int); omega, fun h => by cases h⟩
  · rcases Int.lt_or_eq_of_le h with h | h
    · exact ⟨true, (-n).toNat, by show n = -((-n).toNat : Int); omega, fun _ => by omega⟩
    · exact ⟨false, 0, h, fun h => by cases h⟩
theorem ld156_ok (h0 : Lib0 w0) (n : Int) {b : Bool} {m : Nat} (hm : m ≤ 1000000000000000) {g : Nat} (hit : iterN nx156 g (sgn b m, mtL) = some (.exit 0, ((0 : Int), mkB (lpL 20 m (bl mtL))))) :
    LdT ((cfg w0).at []) (ld156 n (0, mkB (lpL 20 m (bl mtL)))) (.loop (lpB 0 (fnOf Tryz.f156).body)) (st156 n (sgn b m, mtL)) :=
  ldT_iter (at_ok (cfg_ok w0) []) (at_sp h0 (cs := []) trivial) (N := (fnOf Tryz.f156).ntmps) (rel := rel156) (B := lpB 0 (fnOf Tryz.f156).body) (id := 0) (st156 n) nx156 (fun a => ∃ (k j : Nat), a.1 = sgn b k ∧ k < 10 ^ j ∧ a.2.size + j ≤ 16)
      (fun a ⟨k, j, hk, hj, hs⟩ => .leaf (by
        obtain ⟨x, s⟩ := a
        have hk : x = sgn b k := hk
        have hs : s.size + j ≤ 16 := hs
        subst hk
        refine (round156 _ _ _).trans ?_
        unfold nx156
        have hp : k < 10 ^ 16 := Nat.lt_of_lt_of_le hj (Nat.pow_le_pow_right (by omega) (by omega))
        have hc : catB (chr (sgn b k)) s = true := (Nat.ble_eq ..).mpr (by have : (chr (sgn b k)).size = 1 := rfl; omega)
        have hw : IntKind.i64.wrap (sgn b (k / 10)) = sgn b (k / 10) := by
          cases b
          · exact W_id (by show _ ≤ ((k / 10 : Nat) : Int); omega) (by show ((k / 10 : Nat) : Int) ≤ _; omega)
          · exact W_id (by show _ ≤ -((k / 10 : Nat) : Int); omega) (by show -((k / 10 : Nat) : Int) ≤ _; omega)
        rw [hc, tdiv_sgn, hw]
        cases (sgn b k != 0) <;> rfl))
      (fun a a' ⟨k, j, hk, hj, hs⟩ hn => by
        obtain ⟨x, s⟩ := a
        have hk : x = sgn b k := hk
        have hs : s.size + j ≤ 16 := hs
        subst hk
        unfold nx156 at hn
        by_cases hz : k = 0
        · subst hz
          rw [sgn_zero] at hn
          cases hn
        · rw [show ((sgn b k, s).1 != 0) = true from sgn_ne hz] at hn
          cases hn
          cases j with
          | zero => have : k < 1 := hj; omega
          | succ j => exact ⟨k / 10, j, tdiv_sgn b k, by rw [Nat.pow_succ] at hj; omega, by show (chr (sgn b k) ++ s).size + j ≤ 16; rw [size_app]; have : (chr (sgn b k)).size = 1 := rfl; omega⟩)
      (a0 := (sgn b m, mtL)) ⟨m, 16, rfl, by omega, by show (0 : Nat) + 16 ≤ 16; omega⟩ hit
theorem itoaL_neg {m : Nat} (h : 0 < m) : itoaL (-(m : Int)) = 45 :: digs 20 m [] := by
  obtain ⟨k, rfl⟩ : ∃ k, m = k + 1 := ⟨m - 1, by omega⟩
  rfl
theorem lpL_len : ∀ (f m : Nat) (acc : List UInt8), (lpL f m acc).length ≤ acc.length + f
  | 0, _, acc => Nat.le_add_right _ _
  | f + 1, m, acc => by
    unfold lpL
    split
    · omega
    · have := lpL_len f (m / 10) (UInt8.ofNat (48 + m % 10) :: acc)
      simp only [List.length_cons] at this
      omega
theorem fn156 (h0 : Lib0 w0) (n : Int) (hg : in64 n = true) : FnD (cfg w0) 156 [I n] (St_ (itoB n)) := by
  obtain ⟨h1, h2⟩ := in64_le hg
  obtain ⟨b, m, hn, hb1⟩ := sgn_of n
  have hm : m ≤ 1000000000000000 := by
    cases b
    · have : n = (m : Int) := hn
      omega
    · have : n = -(m : Int) := hn
      omega
  by_cases hz : m = 0
  · subst hz
    rw [sgn_zero] at hn
    subst hn
    have hb := body156 (w0 := w0) 0 (0, mtL)
    exact fnD_t (cfg_ok w0) h0 (cs := []) trivial (fd := fnOf Tryz.f156) rfl (o := []) (d := St_ (itoB 0)) (hb.trans (by kernel_rfl)) trivial
  · obtain ⟨g, hit⟩ := it156 b 20 m mtL (by omega)
    have hld := ld156_ok h0 n hm hit
    rw [← hn] at hld
    have hb := body156 (w0 := w0) n (0, mkB (lpL 20 m (bl mtL)))
    have hnz : (n == 0) = false := by
      rw [beq_eq_false_iff_ne, hn]
      have := sgn_ne (b := b) hz
      rwa [bne_iff_ne] at this
    rw [hnz] at hb
    have hd : digs 20 m [] = lpL 20 m (bl mtL) := digs_lp 19 m (bl mtL) hz (by omega)
    cases b with
    | false =>
      have hn : n = (m : Int) := hn
      rw [decide_eq_false (show ¬ n < 0 by omega)] at hb
      have e : itoB n = mkB (lpL 20 m (bl mtL)) := by
        unfold itoB
        rw [hn, ← hd]
        rfl
      rw [e]
      exact fnD_lp (cfg_ok w0) h0 (cs := []) trivial (g := 156) (fd := fnOf Tryz.f156) rfl hb hld
    | true =>
      have hn : n = -(m : Int) := hn
      have hsz : (mkB (lpL 20 m (bl mtL))).size ≤ 20 := by
        rw [← bl_len, bl_mkB]
        have := lpL_len 20 m (bl mtL)
        have e : (bl mtL).length = 0 := rfl
        omega
      have hcat : catB minB (mkB (lpL 20 m (bl mtL))) = true := (Nat.ble_eq ..).mpr (by have : minB.size = 1 := rfl; omega)
      rw [decide_eq_true (show n < 0 by omega), hcat] at hb
      have e : itoB n = minB ++ mkB (lpL 20 m (bl mtL)) := by
        unfold itoB
        rw [hn, itoaL_neg (by omega), hd]
        exact bl_inj (by rw [bl_append, bl_mkB, bl_mkB]; rfl)
      rw [e]
      exact fnD_lp (cfg_ok w0) h0 (cs := []) trivial (g := 156) (fd := fnOf Tryz.f156) rfl hb hld
def c156 : Ct := ct 156 [.c ik] fun a => .br (in64 a.1) (.leaf (St_ (itoB a.1))) .bad
theorem gd156 (h0 : Lib0 w0) : Gd (cfg w0) c156 := gd_sig fun a d hd => by
  obtain ⟨n, u⟩ := a
  obtain ⟨hg, hd⟩ := br_run hd
  cases hd
  exact fn156 h0 n hg
end
end Go.Proofs.YtmlglimahbjgbaaGreatDoor
