/-
 A part of the proof of the statement that the claim names: see the last file.
-/
import Derived.Test.YtmlglimahbjgbaaGreatDoorS1
import Derived.Test.YtmlglimahbjgbaaGreatDoorAm4
import Derived.Test.YtmlglimahbjgbaaGreatDoorAm5
namespace Go.Proofs.YtmlglimahbjgbaaGreatDoor
open Go Go.Am Go.RowKit Go.Town
set_option maxRecDepth 100000
variable {w0 : World}
noncomputable section
def decC (s : ByteArray) (pos : Nat) : Int := (((Utf8.decode s pos).1 : Nat) : Int)
def nxN (n c : Int) : Int := IntKind.i64.wrap (IntKind.i64.wrap (10 * n) + IntKind.i64.wrap (IntKind.i32.wrap (c - 48)))
def scan : List UInt8 → Int → Int × Bool
 | [], n => (n, false)
 | b :: l, n => bif decide (((b.toNat : Nat) : Int) < 48) || decide (((b.toNat : Nat) : Int) > 57) then (n, true) else scan l (10 * n + (b.toNat - 48))
def num0 (l : List UInt8) (dg : Int) : Bool := decide (l.length = 0) || (decide ((l.length : Int) > dg) || (decide (l.length > 1) && l.head? == some 48))
def numL (l : List UInt8) (dg : Int) : Int × Bool := bif num0 l dg then (0, true) else scan l 0
theorem drop_get {s : ByteArray} {i : Nat} (h : i < s.size) : (bl s).drop i = s.get! i :: (bl s).drop (i + 1) := by
 have h' : i < (bl s).length := by rw [bl_len]; exact h
 rw [List.drop_eq_getElem_cons h']
 congr 1
 have h2 : i < s.data.size := h
 show s.data.toList[i] = s.get! i
 rw [Array.getElem_toList]
 show s.data[i] = s.data[i]!
 rw [getElem!_pos s.data i h2]
theorem pow_mono {a b : Nat} (h : a ≤ b) : (10 : Int) ^ a ≤ 10 ^ b := by
 have : (10 : Nat) ^ a ≤ 10 ^ b := Nat.pow_le_pow_right (by omega) h
 exact_mod_cast this
def miB : ByteArray := ⟨#[45]⟩
def isMi (s : ByteArray) : Bool := s.data.toList == [45]
theorem isMi_eq {s : ByteArray} (h : isMi s = true) : s = miB := by
 unfold isMi at h
 have h : s.data.toList = [45] := by simpa using h
 cases s with
 | mk d =>
   have : d = #[45] := by rw [← Array.toArray_toList (xs := d)]; exact congrArg List.toArray h
   rw [this]; rfl
def miH (l : List UInt8) : Bool := l.head? == some 45
def cutMi (s : ByteArray) : ByteArray := bif miH (bl s) then mkB (bl s).tail else s
def okMi (s : ByteArray) : Bool := decide (0 ≤ ((miB.size : Nat) : Int)) && decide (((miB.size : Nat) : Int) ≤ s.size)
theorem run210 (s : ByteArray) : bodyK ((cfg w0).at []) 40 (fnOf Tryz.f210) [St_ s, St_ miB] =
  bif decide (((s.size : Nat) : Int) ≥ (miB.size : Nat)) then bif okMi s then bif !((s.extract 0 ((miB.size : Nat) : Int).toNat).toList == miB.toList) then some (.tup [St_ s, Bo false]) else
   bif okMi s then some (.tup [St_ (s.extract ((miB.size : Nat) : Int).toNat s.size), Bo true]) else none else none else some (.tup [St_ s, Bo false]) := by kernel_rfl
theorem run210' (s : ByteArray) : bodyK ((cfg w0).at []) 40 (fnOf Tryz.f210) [St_ s, St_ miB] = some (.tup [St_ (cutMi s), Bo (miH (bl s))]) := by
 have hm : ((miB.size : Nat) : Int) = 1 := rfl
 rw [run210, hm]
 unfold cutMi okMi
 rw [hm]
 by_cases h : 1 ≤ s.size
 ·rw [decide_eq_true (show ((s.size : Nat) : Int) ≥ 1 by omega), decide_eq_true (show (0 : Int) ≤ 1 by omega), show (1 : Int).toNat = 1 from rfl, ext_0, ext_e, str_eq, bl_mkB]
  have hd := drop_get (s := s) (i := 0) (by omega)
  rw [List.drop_zero] at hd
  rw [hd]
  have e : miH (s.get! 0 :: (bl s).drop (0 + 1)) = ((s.get! 0 :: (bl s).drop (0 + 1)).take 1 == bl miB) := by
   show (some (s.get! 0) == some (45 : UInt8)) = ([s.get! 0] == [45])
   simp
  rw [e]
  cases ((s.get! 0 :: (bl s).drop (0 + 1)).take 1 == bl miB) <;> rfl
 ·rw [decide_eq_false (show ¬ ((s.size : Nat) : Int) ≥ 1 by omega)]
  have h1 : bl s = [] := List.length_eq_zero_iff.1 (by rw [bl_len]; omega)
  rw [h1]
  rfl
def c210 : Ct := ct 210 [.c .str, .c .str] fun a => .br (isMi a.2.1) (.leaf (.tup [St_ (cutMi a.1), Bo (miH (bl a.1))])) .bad
theorem gd210 (h0 : Lib0 w0) : Gd (cfg w0) c210 := gd_sig fun a d hd => by
 obtain ⟨s, sep, u⟩ := a
 obtain ⟨h1, hd⟩ := br_run hd
 cases hd
 cases isMi_eq h1
 exact fnD_k (cfg_ok w0) h0 (cs := []) trivial (fd := fnOf Tryz.f210) rfl (n := 40) (run210' s)
section
variable {α : Type} (z y : α) (s : ByteArray) (k : Int → α)
def ciE (y : α) (next : Nat → Int → α) (pos : Nat) (n : Int) : α := bif Nat.blt pos s.size then bif decide (decC s pos < 48) then y else bif decide (decC s pos > 57) then y else bif decide (((s.size : Nat) : Int) > 9) then y else next (pos + (Utf8.decode s pos).2) (nxN n (decC s pos)) else k n
def chi : Nat → Nat → Int → α
 | 0 => ciE s k z (ciE s k z fun _ _ => z)
 | R + 1 => fun pos n => bif Nat.blt pos s.size then bif decide (decC s pos < 48) then y else bif decide (decC s pos > 57) then y else bif decide (((s.size : Nat) : Int) > 9) then y else chi R (pos + (Utf8.decode s pos).2) (nxN n (decC s pos)) else k n
end
abbrev OD := Option D
def r0I : OD := some (.tup [I 0, Bo false])
def rnI (n : Int) : OD := some (.tup [I n, Bo true])
def mnIs (m : Bool) (n : Int) : OD := bif m then rnI (IntKind.i64.wrap (0 - n)) else rnI n
def tlI (m : Bool) (n : Int) : OD := bif m then bif n == 0 then r0I else mnIs m n else mnIs m n
def id0 (s : ByteArray) : Bool := decide ((0 : Int) ≤ 0) && decide ((0 : Int) < s.size)
def kI (s : ByteArray) (m : Bool) (n : Int) : OD := bif s.toList == mtL.toList then r0I else bif decide (((s.size : Nat) : Int) > 1) then bif id0 s then bif (((s.get! (Int.toNat 0)).toNat : Nat) : Int) == 48 then r0I else tlI m n else none else tlI m n
theorem run190 (s : ByteArray) : bodyK ((cfg w0).at [c210]) 27 (fnOf Tryz.f190) [St_ s] = chi none r0I (cutMi s) (kI (cutMi s) (miH (bl s))) 12 0 0 := by kernel_rfl
theorem chi_f {α : Type} (z y : α) (s : ByteArray) (k : Int → α) : ∀ (R pos : Nat) (n : Int), s.size - pos ≤ R → pos ≤ s.size → s.size ≤ 9 → 0 ≤ n → n < 10 ^ pos → chi z y s k R pos n = bif (scan ((bl s).drop pos) n).2 then y else k (scan ((bl s).drop pos) n).1
 | R, pos, n, h, hp, h9, hn0, hn => by
   rcases Nat.lt_or_ge pos s.size with hlt | hge
   ·cases R with
    | zero => omega
    | succ R =>
      rw [drop_get hlt]
      have hb : Nat.blt pos s.size = true := by rw [Nat.blt_eq]; exact hlt
      unfold chi scan
      rw [hb, decide_eq_false (show ¬ ((s.size : Nat) : Int) > 9 by omega)]
      simp only [cond_true, cond_false]
      have hp15 : (10 : Int) ^ pos ≤ 10 ^ 9 := pow_mono (by omega)
      by_cases hc : (s.get! pos).toNat < 128
      ·have hd := dec_small hc
       unfold decC
       rw [hd]
       simp only
       cases h1 : decide (((s.get! pos).toNat : Int) < 48) with
       | true => rfl
       | false =>
         cases h2 : decide (((s.get! pos).toNat : Int) > 57) with
         | true => rfl
         | false =>
           simp only [Bool.or_false, cond_false]
           have h1 := of_decide_eq_false h1
           have h2 := of_decide_eq_false h2
           have e : nxN n ((s.get! pos).toNat : Int) = 10 * n + ((s.get! pos).toNat - 48) := by
            unfold nxN
            rw [show IntKind.i32.wrap (((s.get! pos).toNat : Int) - 48) = ((s.get! pos).toNat : Int) - 48 from IntWalk.i32_in _ ⟨by omega, by omega⟩, W_id (n := 10 * n) (by omega) (by omega), W_id (n := ((s.get! pos).toNat : Int) - 48) (by omega) (by omega), W_id (by omega) (by omega)]
           rw [e]
           refine chi_f z y s k R (pos + 1) _ (by omega) (by omega) h9 (by omega) ?_
           rw [Int.pow_succ]
           omega
      ·have hd := dec_big hc
       have e1 : decide (decC s pos < 48) = false := decide_eq_false (by unfold decC; omega)
       have e2 : decide (decC s pos > 57) = true := decide_eq_true (by unfold decC; omega)
       rw [e1, e2, decide_eq_true (show ((s.get! pos).toNat : Int) > 57 by omega), Bool.or_true]
       rfl
   ·have hb : Nat.blt pos s.size = false := by cases hb : Nat.blt pos s.size with | false => rfl | true => rw [Nat.blt_eq] at hb; omega
    rw [List.drop_eq_nil_of_le (by rw [bl_len]; exact hge)]
    cases R with
    | zero => unfold chi ciE; rw [hb]; rfl
    | succ R => unfold chi; rw [hb]; rfl
theorem chi_long {α : Type} (z y : α) (s : ByteArray) (k : Int → α) (R : Nat) (h9 : 9 < s.size) (n : Int) : chi z y s k (R + 1) 0 n = y := by
 unfold chi
 rw [show Nat.blt 0 s.size = true by rw [Nat.blt_eq]; omega, decide_eq_true (show ((s.size : Nat) : Int) > 9 by omega)]
 cases decide (decC s 0 < 48) <;> cases decide (decC s 0 > 57) <;> rfl
def dgL (l : List UInt8) (dg : Int) : Int × Bool := bif (numL l dg).2 then (0, false) else ((numL l dg).1, true)
def sgL (l : List UInt8) : Int × Bool := bif miH l then (0 - (dgL l.tail 9).1, (dgL l.tail 9).2 && decide ((dgL l.tail 9).1 > 0)) else dgL l 9
theorem scan_ge : ∀ (l : List UInt8) (n : Int), 0 ≤ n → 0 ≤ (scan l n).1
 | [], n, h => h
 | b :: l, n, h => by
   unfold scan
   cases h1 : (decide (((b.toNat : Nat) : Int) < 48) || decide (((b.toNat : Nat) : Int) > 57)) with
   | true => exact h
   | false =>
     simp only [Bool.or_eq_false_iff, decide_eq_false_iff_not] at h1
     exact scan_ge l _ (by omega)
theorem scan_lt : ∀ (l : List UInt8) (n : Int) (p : Nat), 0 ≤ n → n < 10 ^ p → (scan l n).1 < 10 ^ (p + l.length)
 | [], n, p, h, hp => hp
 | b :: l, n, p, h, hp => by
   unfold scan
   cases h1 : (decide (((b.toNat : Nat) : Int) < 48) || decide (((b.toNat : Nat) : Int) > 57)) with
   | true => exact Int.lt_of_lt_of_le hp (pow_mono (by omega))
   | false =>
     simp only [Bool.or_eq_false_iff, decide_eq_false_iff_not] at h1
     have := scan_lt l (10 * n + (b.toNat - 48)) (p + 1) (by omega) (by rw [Int.pow_succ]; omega)
     rw [List.length_cons, show p + (l.length + 1) = p + 1 + l.length by omega]
     exact this
theorem numL_rg (l : List UInt8) : 0 ≤ (numL l 9).1 ∧ (numL l 9).1 < 1000000000 := by
 unfold numL
 cases h : num0 l 9 with
 | true => exact ⟨Int.le_refl _, by show (0 : Int) < _; omega⟩
 | false =>
   refine ⟨scan_ge l 0 (Int.le_refl _), ?_⟩
   unfold num0 at h
   simp only [Bool.or_eq_false_iff, decide_eq_false_iff_not] at h
   have := scan_lt l 0 0 (Int.le_refl _) (by decide)
   exact Int.lt_of_lt_of_le this (Int.le_trans (pow_mono (show 0 + l.length ≤ 9 by omega)) (by decide))
theorem get0_eq {s : ByteArray} (h : 0 < s.size) : ((bl s).head? == some 48) = (((((s.get! (Int.toNat 0)).toNat : Nat) : Int)) == 48) := by
 have hd := drop_get (s := s) (i := 0) h
 rw [List.drop_zero] at hd
 rw [hd, show Int.toNat 0 = 0 from rfl]
 show (s.get! 0 == 48) = _
 cases hx : (s.get! 0 == 48) with
 | true => rw [eq_of_beq hx]; rfl
 | false =>
   symm
   rw [beq_eq_false_iff_ne] at hx ⊢
   intro e
   exact hx (UInt8.toNat_inj.1 (by show (s.get! 0).toNat = 48; omega))
theorem chi_num (s : ByteArray) (m : Bool) : chi none r0I s (kI s m) 12 0 0 = bif (numL (bl s) 9).2 then r0I else tlI m (numL (bl s) 9).1 := by
 by_cases h9 : 9 < s.size
 ·rw [chi_long none r0I s _ 11 h9]
  have : num0 (bl s) 9 = true := by
   unfold num0
   rw [bl_len, decide_eq_true (show ((s.size : Nat) : Int) > 9 by omega)]
   simp
  unfold numL
  rw [this]
  rfl
 ·rw [chi_f none r0I s _ 12 0 0 (by omega) (by omega) (by omega) (Int.le_refl _) (by decide), List.drop_zero]
  unfold numL num0 kI
  rw [bl_len, show (s.toList == mtL.toList) = decide (s.size = 0) from empty_bytes s, decide_eq_false (show ¬ ((s.size : Nat) : Int) > 9 by omega)]
  by_cases h0 : s.size = 0
  ·rw [decide_eq_true h0]
   have : bl s = [] := List.length_eq_zero_iff.1 (by rw [bl_len]; exact h0)
   rw [this]
   rfl
  ·rw [decide_eq_false h0]
   simp only [cond_false, Bool.false_or]
   by_cases h2 : s.size > 1
   ·rw [decide_eq_true (show ((s.size : Nat) : Int) > 1 by omega), decide_eq_true h2, get0_eq (by omega)]
    have hid : id0 s = true := by unfold id0; rw [decide_eq_true (show (0 : Int) ≤ 0 by omega), decide_eq_true (show (0 : Int) < (s.size : Nat) by omega)]; rfl
    rw [hid]
    simp only [cond_true, Bool.true_and]
    cases ((((s.get! (Int.toNat 0)).toNat : Nat) : Int) == 48) <;> cases hsc : (scan (bl s) 0).2 <;> simp [hsc]
   ·rw [decide_eq_false (show ¬ ((s.size : Nat) : Int) > 1 by omega), decide_eq_false h2]
    simp only [cond_false, Bool.false_and]
theorem bl_cutMi (s : ByteArray) : bl (cutMi s) = bif miH (bl s) then (bl s).tail else bl s := by
 unfold cutMi
 cases miH (bl s)
 ·rfl
 ·exact bl_mkB _
theorem run190' (s : ByteArray) : bodyK ((cfg w0).at [c210]) 27 (fnOf Tryz.f190) [St_ s] = some (.tup [I (sgL (bl s)).1, Bo (sgL (bl s)).2]) := by
 rw [run190, chi_num, bl_cutMi]
 unfold sgL dgL
 cases hm : miH (bl s) with
 | false =>
   simp only [cond_false]
   cases (numL (bl s) 9).2 <;> rfl
 | true =>
   simp only [cond_true]
   cases hn : (numL (bl s).tail 9).2 with
   | true => rfl
   | false =>
     have hr := numL_rg (bl s).tail
     unfold tlI mnIs
     simp only [cond_true, cond_false, Bool.true_and]
     by_cases hz : (numL (bl s).tail 9).1 = 0
     ·rw [hz]; rfl
     ·rw [show ((numL (bl s).tail 9).1 == 0) = false by rw [beq_eq_false_iff_ne]; exact hz, W_id (by omega) (by omega), decide_eq_true (show (numL (bl s).tail 9).1 > 0 by omega)]
      rfl
def c190 : Ct := ct 190 [.c .str] fun a => .leaf (.tup [I (sgL (bl a.1)).1, Bo (sgL (bl a.1)).2])
theorem gd190 (h0 : Lib0 w0) : Gd (cfg w0) c190 := gd_sig fun a d hd => by
 obtain ⟨s, u⟩ := a
 cases hd
 exact fnD_k (cfg_ok w0) h0 (cs := [c210]) ⟨gd210 h0, trivial⟩ (fd := fnOf Tryz.f190) rfl (n := 27) (run190' s)
end
end Go.Proofs.YtmlglimahbjgbaaGreatDoor
namespace Go.Proofs.YtmlglimahbjgbaaGreatDoor
open Go Go.Am Go.RowKit Go.Town
set_option maxRecDepth 100000
variable {w0 : World}
noncomputable section
def idS (s : ByteArray) (i : Int) : Bool := decide (0 ≤ i) && decide (i < s.size)
def byI (s : ByteArray) (i : Int) : Int := (((s.get! i.toNat).toNat : Nat) : Int)
def dgtB (b : UInt8) : Bool := decide (((b.toNat : Nat) : Int) < 48) || decide (((b.toNat : Nat) : Int) > 57)
def stepG (s : ByteArray) (i : Nat) (n : Int) : X × Int := bif dgtB (s.get! i) then (.ret, n) else (.normal, 10 * n + ((s.get! i).toNat - 48))
end
end Go.Proofs.YtmlglimahbjgbaaGreatDoor
namespace Go.Proofs.YtmlglimahbjgbaaGreatDoor
open Go Go.Am Go.RowKit Go.Town
set_option maxRecDepth 100000
variable {w0 : World}
noncomputable section
def rel93 : List (Nat × Cv) := [(0, .id), (1, .id), (5, .ov sK1), (6, .id), (7, .id)]
def st93 (s : ByteArray) (c : Int) (a : Int × Int × SLs) : List D := [St_ s, .val (.int .u8 c), .ovec sK1 a.2.2, I a.2.1, I a.1]
def rmS (o : SLs) : Bool := Nat.ble (o.length * 16) 1000000000000 && Nat.ble o.length 1000000000000
def cutTwo (s : ByteArray) (i j : Int) : Bool := decide (0 ≤ j) && (decide (j ≤ s.size) && (decide (0 ≤ i) && decide (i ≤ j)))
theorem round93 (s : ByteArray) (c i fr : Int) (o : SLs) : rndD ((cfg w0).at []) 40 [] 40 (fnOf Tryz.f93).ntmps rel93 (lpB 0 (fnOf Tryz.f93).body) (st93 s c (i, fr, o)) =
  bif decide (i < s.size) then bif idS s i then bif byI s i == c then bif cutTwo s fr i then bif rmS (o ++ [tS (s.extract fr.toNat i.toNat)]) then
   some ([], .normal, st93 s c (W (i + 1), IntKind.i64.wrap (i + 1), o ++ [tS (s.extract fr.toNat i.toNat)])) else none else none
  else some ([], .normal, st93 s c (W (i + 1), fr, o)) else none else some ([], .exit 0, st93 s c (i, fr, o)) := by kernel_rfl
def ld93 (s : ByteArray) (c : Int) (p : Int × Int × SLs) : Ld := ldP 0 (fnOf Tryz.f93).ntmps rel93 .normal (st93 s c p)
theorem body93 (s : ByteArray) (c : Int) (p : Int × Int × SLs) : bodyT ((cfg w0).at []) 40 [ld93 s c p] 40 (fnOf Tryz.f93) [St_ s, .val (.int .u8 c)] =
  bif cutOk s p.2.1 then bif rmS (p.2.2 ++ [tS (s.extract p.2.1.toNat s.size)]) then some ([(ld93 s c p, .loop (lpB 0 (fnOf Tryz.f93).body), st93 s c (0, 0, []))], .vec sK1 (p.2.2 ++ [tS (s.extract p.2.1.toNat s.size)])) else none else none := by kernel_rfl
theorem spl_app {c : UInt8} : ∀ {a b : List UInt8}, a.count c = 0 → spl c (a ++ c :: b) = a :: spl c b
 | [], b, _ => spl_t (by simp)
 | x :: a, b, h => by
   rw [List.count_cons] at h
   have hx : (x == c) = false := by
    cases hx : (x == c) with
    | false => rfl
    | true => rw [hx] at h; simp at h
   rw [hx] at h
   show spl c (x :: (a ++ c :: b)) = _
   rw [spl_f hx, spl_app (by simpa using h)]
   rfl
def step93 (s : ByteArray) (c : UInt8) (i : Nat) (a : Int × SLs) : X × (Int × SLs) := (.normal, bif s.get! i == c then (((i + 1 : Nat) : Int), a.2 ++ [tS (s.extract a.1.toNat i)]) else a)
theorem run93 (s : ByteArray) (c : UInt8) : ∀ (f i fr : Nat) (o : SLs), i + f = s.size → fr ≤ i → ((((bl s).drop fr).take (i - fr)).count c = 0) → o.length ≤ i →
  ∃ (fr' : Nat) (o' : SLs), rgRun 0 (step93 s c) f i ((fr : Int), o) = (.exit 0, ((s.size : Nat) : Int), (fr' : Int), o') ∧ fr' ≤ s.size ∧ o'.length ≤ s.size ∧ o' ++ [tS (s.extract fr' s.size)] = o ++ (spl c ((bl s).drop fr)).map tupS
 | 0, i, fr, o, h, hf, hc, ho => by
   refine ⟨fr, o, ?_, by omega, by omega, ?_⟩
   ·show (X.exit 0, ((i : Int), ((fr : Int), o))) = _
    rw [show i = s.size by omega]
   ·rw [List.take_of_length_le (by rw [List.length_drop, bl_len]; omega)] at hc
    rw [spl_none hc, ext_e]
    rfl
 | f + 1, i, fr, o, h, hf, hc, ho => by
   unfold rgRun
   have hi : i < s.size := by omega
   cases hx : (s.get! i == c) with
   | true =>
     have e : step93 s c i ((fr : Int), o) = (.normal, (((i + 1 : Nat) : Int), o ++ [tS (s.extract fr i)])) := by unfold step93; rw [hx]; rfl
     rw [e]
     simp only
     obtain ⟨fr', o', h1, h2, h3, h4⟩ := run93 s c f (i + 1) (i + 1) (o ++ [tS (s.extract fr i)]) (by omega) (Nat.le_refl _) (by rw [Nat.sub_self]; rfl) (by simp; omega)
     refine ⟨fr', o', h1, h2, h3, ?_⟩
     rw [h4]
     have hsp : (bl s).drop fr = ((bl s).drop fr).take (i - fr) ++ c :: (bl s).drop (i + 1) := by
      have h5 := List.take_append_drop (i - fr) ((bl s).drop fr)
      rw [List.drop_drop, show fr + (i - fr) = i by omega, drop_get hi, eq_of_beq hx] at h5
      exact h5.symm
     rw [List.append_assoc]
     congr 1
     rw [hsp, spl_app hc]
     show [tS (s.extract fr i)] ++ _ = tS (mkB _) :: _
     have e2 : s.extract fr i = mkB (((bl s).drop fr).take (i - fr)) := bl_inj (by rw [bl_extract, bl_mkB])
     rw [e2]
     rfl
   | false =>
     have e : step93 s c i ((fr : Int), o) = (.normal, ((fr : Int), o)) := by unfold step93; rw [hx]; rfl
     rw [e]
     simp only
     refine run93 s c f (i + 1) fr o (by omega) (by omega) ?_ (by omega)
     rw [show i + 1 - fr = (i - fr) + 1 by omega]
     have hl : i - fr < ((bl s).drop fr).length := by rw [List.length_drop, bl_len]; omega
     rw [List.take_succ_eq_append_getElem hl, List.count_append, hc]
     have h5 : ((bl s).drop fr).drop (i - fr) = s.get! i :: (bl s).drop (i + 1) := by rw [List.drop_drop, show fr + (i - fr) = i by omega, drop_get hi]
     rw [List.drop_eq_getElem_cons hl] at h5
     rw [(List.cons.inj h5).1, List.count_singleton, hx]
     rfl
def okU (c : Int) : Bool := decide (0 ≤ c) && decide (c ≤ 255)
def cU (c : Int) : UInt8 := UInt8.ofNat c.toNat
theorem byI_eq {s : ByteArray} {c : Int} (h : okU c = true) (i : Nat) : (byI s (i : Int) == c) = (s.get! i == cU c) := by
 unfold okU at h
 simp only [Bool.and_eq_true, decide_eq_true_eq] at h
 have hc : ((cU c).toNat : Int) = c := by
  unfold cU
  rw [UInt8.toNat_ofNat', Nat.mod_eq_of_lt (by omega)]
  omega
 show (((s.get! i).toNat : Int) == c) = _
 cases hx : (s.get! i == cU c) with
 | true => rw [eq_of_beq hx, hc]; simp
 | false =>
   rw [beq_eq_false_iff_ne] at hx ⊢
   intro e
   exact hx (UInt8.toNat_inj.1 (by omega))
theorem fn93 (h0 : Lib0 w0) (s : ByteArray) (c : Int) (hg : smS s = true) (hc : okU c = true) : FnD (cfg w0) 93 [St_ s, .val (.int .u8 c)] (.vec sK1 ((spl (cU c) (bl s)).map tupS)) := by
 have hs : s.size ≤ 100000 := Nat.le_of_ble_eq_true hg
 obtain ⟨fr, o, h1, h2, h3, h4⟩ := run93 s (cU c) s.size 0 0 [] (by omega) (Nat.le_refl _) rfl (Nat.le_refl _)
 have hrm : ∀ l : SLs, l.length ≤ 200000 → rmS l = true := fun l hl => by
  unfold rmS
  rw [(Nat.ble_eq ..).mpr (by omega), (Nat.ble_eq ..).mpr (by omega)]
  rfl
 have hld := ldT_rg (at_ok (cfg_ok w0) []) (at_sp h0 (cs := []) trivial) (N := (fnOf Tryz.f93).ntmps) (rel := rel93) (B := lpB 0 (fnOf Tryz.f93).body) (id := 0) (k := s.size) (by omega) (st93 s c) (step93 s (cU c)) (fun i a => ∃ fr : Nat, a.1 = (fr : Int) ∧ fr ≤ i ∧ a.2.length ≤ i)
  (fun i a hi ⟨fr, hf, hle, hl⟩ => .leaf (by
   obtain ⟨x, o⟩ := a
   have hf : x = (fr : Int) := hf
   have hl : o.length ≤ i := hl
   subst hf
   refine (round93 s c (i : Int) (fr : Int) o).trans ?_
   have hid : idS s (i : Int) = true := by unfold idS; rw [decide_eq_true (show (0 : Int) ≤ i by omega), decide_eq_true (show (i : Int) < s.size by omega)]; rfl
   have hcu : cutTwo s (fr : Int) (i : Int) = true := by unfold cutTwo; rw [decide_eq_true (show (0 : Int) ≤ i by omega), decide_eq_true (show (i : Int) ≤ s.size by omega), decide_eq_true (show (0 : Int) ≤ fr by omega), decide_eq_true (show (fr : Int) ≤ i by omega)]; rfl
   rw [lt_t hi, hid, byI_eq hc, hcu, Int.toNat_natCast, Int.toNat_natCast, hrm _ (by rw [List.length_append, List.length_singleton]; omega), W_id (n := (i : Int) + 1) (by omega) (by omega)]
   unfold step93
   cases hx : (s.get! i == cU c) <;> rfl)) (fun i a a' hi ⟨fr, hf, hle, hl⟩ h => by
   cases h
   cases hx : (s.get! i == cU c) with
   | true => exact ⟨i + 1, rfl, Nat.le_refl _, by simp; omega⟩
   | false => exact ⟨fr, hf, by omega, by simp only [cond_false]; omega⟩)
  (fun a _ => .leaf (by obtain ⟨x, o⟩ := a; refine (round93 s c _ x o).trans ?_; rw [ge_f]; rfl)) (a0 := ((0 : Int), ([] : SLs))) ⟨0, rfl, Nat.le_refl _, Nat.le_refl _⟩ h1
 have hb := body93 (w0 := w0) s c (((s.size : Nat) : Int), (fr : Int), o)
 have hco : cutOk s (fr : Int) = true := by unfold cutOk; rw [decide_eq_true (show (0 : Int) ≤ fr by omega), decide_eq_true (show (fr : Int) ≤ s.size by omega)]; rfl
 simp only at hb
 rw [hco, Int.toNat_natCast, hrm _ (by rw [List.length_append, List.length_singleton]; omega), h4] at hb
 exact fnD_lp (cfg_ok w0) h0 (cs := []) trivial (g := 93) (fd := fnOf Tryz.f93) rfl hb hld
def splC (c : UInt8) (s : ByteArray) : SLs := (spl c (bl s)).map tupS
def c93 : Ct := ct 93 [.c .str, .c (.int .u8)] fun a => .br (smS a.1) (.br (okU a.2.1) (.leaf (.vec sK1 (splC (cU a.2.1) a.1))) .bad) .bad
theorem gd93 (h0 : Lib0 w0) : Gd (cfg w0) c93 := gd_sig fun a d hd => by
 obtain ⟨s, c, u⟩ := a
 obtain ⟨h1, hd⟩ := br_run hd
 obtain ⟨h2, hd⟩ := br_run hd
 cases hd
 exact fn93 h0 s c h1 h2
end
end Go.Proofs.YtmlglimahbjgbaaGreatDoor
namespace Go.Proofs.YtmlglimahbjgbaaGreatDoor
open Go Go.Am Go.RowKit Go.Town
set_option maxRecDepth 100000
variable {w0 : World}
noncomputable section
def itoB (n : Int) : ByteArray := mkB (itoaL n)
def in64 (n : Int) : Bool := decide (-1000000000000000 ≤ n) && decide (n ≤ 1000000000000000)
def itC : Ct := ct 150 [.c ik] fun a => .br (in64 a.1) (.leaf (St_ (itoB a.1))) .bad
theorem in64_le {n : Int} (h : in64 n = true) : -1000000000000000 ≤ n ∧ n ≤ 1000000000000000 := by
 unfold in64 at h
 simpa only [Bool.and_eq_true, decide_eq_true_eq] using h
theorem itoaF_eq {n : Int} (h : in64 n = true) : itoaF [.val (.int .i64 n)] = some (St_ (itoB n)) := by
 obtain ⟨h1, h2⟩ := in64_le h
 unfold itoaF
 simp only []
 rw [decide_eq_true (show -9223372036854775808 ≤ n by omega), decide_eq_true (show n ≤ 9223372036854775807 by omega)]
 rfl
theorem gditC (h0 : Lib0 w0) : Gd (cfg w0) itC := gd_sig fun a d hd => by
 obtain ⟨n, u⟩ := a
 obtain ⟨hg, hd⟩ := br_run hd
 cases hd
 have hm : (cfg w0).mode 150 = .spec itoaF := rfl
 exact h0.1 150 itoaF hm [.val (.int .i64 n)] (St_ (itoB n)) (itoaF_eq hg)
def catB (a b : ByteArray) : Bool := Nat.ble (a.size + b.size) 9223372036854775807
theorem size_app (a b : ByteArray) : (a ++ b).size = a.size + b.size := by rw [← bl_len, bl_append, List.length_append, bl_len, bl_len]
end
end Go.Proofs.YtmlglimahbjgbaaGreatDoor
