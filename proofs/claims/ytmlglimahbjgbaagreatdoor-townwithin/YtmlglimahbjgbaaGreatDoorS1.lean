/-
 A part of the proof of the statement that the claim names: see the last file.
-/
import Derived.Test.YtmlglimahbjgbaaGreatDoorD2
import Derived.Test.YtmlglimahbjgbaaGreatDoorT5
import Derived.Lib.Bytealg
import Derived.Laws.Strings
import Derived.Test.YtmlglimahbjgbaaGreatDoorAm4
namespace Go.Proofs.YtmlglimahbjgbaaGreatDoor
open Go Go.Am Go.RowKit
set_option maxRecDepth 100000
theorem W_id {n : Int} (h1 : -9223372036854775808 ≤ n) (h2 : n ≤ 9223372036854775807) : IntKind.i64.wrap n = n := IntWalk.i64_in _ ⟨by omega, by omega⟩
noncomputable section
abbrev Rn' := Option (Obs × X × List D)
def gN (b : Bool) (k : Rn') : Rn' := bif b then k else none
def mtL : ByteArray := ⟨#[]⟩
end
end Go.Proofs.YtmlglimahbjgbaaGreatDoor
namespace Go.Proofs.YtmlglimahbjgbaaGreatDoor
open Go
def bl (s : ByteArray) : List UInt8 := s.data.toList
def mkB (l : List UInt8) : ByteArray := ⟨l.toArray⟩
theorem bl_mkB (l : List UInt8) : bl (mkB l) = l := by simp [bl, mkB]
theorem mkB_bl (s : ByteArray) : mkB (bl s) = s := by cases s; simp [bl, mkB]
theorem bl_inj {s t : ByteArray} (h : bl s = bl t) : s = t := by rw [← mkB_bl s, ← mkB_bl t, h]
theorem bl_len (s : ByteArray) : (bl s).length = s.size := by cases s; simp [bl, ByteArray.size]
theorem bl_extract (s : ByteArray) (i j : Nat) : bl (s.extract i j) = ((bl s).drop i).take (j - i) := by
 unfold bl
 rw [ByteArray.data_extract]
 simp [Array.toList_extract, List.extract_eq_take_drop]
theorem ext_0 (s : ByteArray) (j : Nat) : s.extract 0 j = mkB ((bl s).take j) := bl_inj (by rw [bl_extract, bl_mkB]; simp)
theorem ext_e (s : ByteArray) (i : Nat) : s.extract i s.size = mkB ((bl s).drop i) := bl_inj (by
 rw [bl_extract, bl_mkB]
 exact List.take_of_length_le (by rw [List.length_drop, bl_len]; omega))
theorem bl_append (s t : ByteArray) : bl (s ++ t) = bl s ++ bl t := by
 simp [bl]
theorem str_eq (a b : ByteArray) : (a.toList == b.toList) = (bl a == bl b) := by
 rw [ByteArray.toList_eq, ByteArray.toList_eq]
 rfl
def consH (b : UInt8) : List (List UInt8) → List (List UInt8)
 | [] => [[b]]
 | x :: xs => (b :: x) :: xs
def spl (c : UInt8) : List UInt8 → List (List UInt8)
 | [] => [[]]
 | b :: l => if b == c then [] :: spl c l else consH b (spl c l)
theorem spl_t {c b : UInt8} {l : List UInt8} (h : (b == c) = true) : spl c (b :: l) = [] :: spl c l := if_pos h
theorem spl_f {c b : UInt8} {l : List UInt8} (h : (b == c) = false) : spl c (b :: l) = consH b (spl c l) := if_neg (by rw [h]; decide)
theorem spl_none {c : UInt8} : ∀ {l : List UInt8}, l.count c = 0 → spl c l = [l]
 | [], _ => rfl
 | b :: l, h => by
   rw [List.count_cons] at h
   have hb : (b == c) = false := by
    cases hb : (b == c) with
    | false => rfl
    | true => rw [hb] at h; simp at h
   rw [hb] at h
   rw [spl_f hb, spl_none (l := l) (by simpa using h)]
   rfl
theorem ix_cut {c : UInt8} : ∀ {l : List UInt8}, 0 < l.count c → ∃ m : Nat, Lib.indexByte l c = (m : Int) ∧ m < l.length ∧ l.count c = (l.drop (m + 1)).count c + 1 ∧ spl c l = l.take m :: spl c (l.drop (m + 1)) ∧ (l.take m).count c = 0 ∧ l.drop m = c :: l.drop (m + 1)
 | [], h => by simp at h
 | b :: l, h => by
   rw [List.count_cons] at h
   cases hb : (b == c) with
   | true =>
     refine ⟨0, ?_, by simp, ?_, ?_, by simp, ?_⟩
     ·unfold Lib.indexByte; rw [hb]; rfl
     ·rw [List.count_cons, hb]; simp
     ·rw [spl_t hb]; rfl
     ·simp only [List.drop_zero, List.drop_succ_cons]; rw [eq_of_beq hb]
   | false =>
     rw [hb] at h
     obtain ⟨m, h1, h2, h3, h4, h5, h6⟩ := ix_cut (c := c) (l := l) (by simpa using h)
     refine ⟨m + 1, ?_, by simpa using h2, ?_, ?_, ?_, ?_⟩
     ·unfold Lib.indexByte
      rw [hb, h1]
      have : ((m : Int) == -1) = false := by rw [beq_eq_false_iff_ne]; omega
      rw [this]
      simp
     ·rw [List.count_cons, hb]
      simp only [List.drop_succ_cons]
      simpa using h3
     ·rw [spl_f hb, h4]
      rfl
     ·rw [List.take_succ_cons, List.count_cons, hb]
      simpa using h5
     ·simp only [List.drop_succ_cons]; exact h6
theorem ix_none {c : UInt8} : ∀ {l : List UInt8}, l.count c = 0 → Lib.indexByte l c = -1
 | [], _ => rfl
 | b :: l, h => by
   rw [List.count_cons] at h
   have hb : (b == c) = false := by
    cases hb : (b == c) with
    | false => rfl
    | true => rw [hb] at h; simp at h
   rw [hb] at h
   unfold Lib.indexByte
   rw [hb, ix_none (l := l) (by simpa using h)]
   rfl
theorem spl_len (c : UInt8) : ∀ l : List UInt8, (spl c l).length = l.count c + 1
 | [] => rfl
 | b :: l => by
   have ih := spl_len c l
   rw [List.count_cons]
   cases hb : (b == c) with
   | true => rw [spl_t hb]; simp [ih]
   | false =>
     rw [spl_f hb]
     cases hs : spl c l with
     | nil => rw [hs] at ih; simp at ih
     | cons x xs => rw [hs] at ih; simpa [consH] using ih
end Go.Proofs.YtmlglimahbjgbaaGreatDoor
namespace Go.Proofs.YtmlglimahbjgbaaGreatDoor
open Go Go.Am Go.RowKit Go.Town
set_option maxRecDepth 100000
variable {w0 : World}
noncomputable section
abbrev sK1 : List Kd := [.str]
abbrev SLs := List (Tup sK1)
abbrev St_ (s : ByteArray) : D := .val (.string s)
def ixI (s : ByteArray) (c : Int) : Int := Lib.indexByte s.data.toList c.toNat.toUInt8
def ctI (s : ByteArray) (c : Int) : Int := (Lib.countByte s.data.toList c.toNat.toUInt8 : Nat)
theorem Tryz.ix222 (s : ByteArray) (c : Int) (w : World) : (callFunc 222 #[.string s, .int .u8 c]).run Tryz.prog w = .ok (.value (.int .i64 (ixI s c))) w := by
 rw [run_callFunc_extern Tryz.func222 (by kernel_rfl) (by kernel_rfl) (by kernel_rfl) (e := Extern.BytealgIndexByte.indexByte) (by kernel_rfl), Lib.run_indexByteString]
 rfl
theorem Tryz.ct225 (s : ByteArray) (c : Int) (w : World) : (callFunc 225 #[.string s, .int .u8 c]).run Tryz.prog w = .ok (.value (.int .i64 (ctI s c))) w := by
 rw [run_callFunc_extern Tryz.func225 (by kernel_rfl) (by kernel_rfl) (by kernel_rfl) (e := Extern.BytealgCount.count) (by kernel_rfl), Lib.run_countString]
 rfl
theorem Tryz.call205 (s : ByteArray) (c : Int) (w : World) : Calls Tryz.prog 205 #[.string s, .int .u8 c] w fun e w' => e = .returned (.int .i64 (ixI s c)) ∧ w = w' := by
 have h := Tryz.ix222
 go_enter Tryz.func205, Tryz.ntmps205
 go_wp2_with (simp only [h])
 all_goals go_ret
 all_goals exact ⟨rfl, rfl⟩
theorem Tryz.call208 (s : ByteArray) (w : World) : Calls Tryz.prog 208 #[.string s, .string ⟨#[32]⟩] w fun e w' => e = .returned (.int .i64 (ctI s 32)) ∧ w = w' := by
 have h := Tryz.ct225
 go_enter Tryz.func208, Tryz.ntmps208
 go_wp2_with (simp only [h])
 all_goals go_ret
 all_goals exact ⟨rfl, rfl⟩
def c205 : Ct := ct 205 [.c .str, .c (.int .u8)] fun a => .leaf (I (ixI a.1 a.2.1))
theorem gd205 : Gd (cfg w0) c205 := gd_sig fun a d hd => by
 obtain ⟨s, c, u⟩ := a
 cases hd
 refine FnD.scal (vs := [.string s, .int .u8 c]) (by simp [scal]) rfl fun w hw => ?_
 refine (Tryz.call205 s c w).mono fun e w' ⟨h1, h2⟩ => ⟨h1, ?_⟩
 rw [← h2]; exact Below.refl _ _
def spB : ByteArray := ⟨#[32]⟩
def nlB : ByteArray := ⟨#[10]⟩
def isSp (s : ByteArray) : Bool := s.data.toList == [32]
theorem isSp_eq {s : ByteArray} (h : isSp s = true) : s = spB := by
 unfold isSp at h
 have h : s.data.toList = [32] := by simpa using h
 cases s with
 | mk d =>
   have : d = #[32] := by rw [← Array.toArray_toList (xs := d)]; exact congrArg List.toArray h
   rw [this]; rfl
def c208 : Ct := ct 208 [.c .str, .c .str] fun a => .br (isSp a.2.1) (.leaf (I (ctI a.1 32))) .bad
theorem gd208 : Gd (cfg w0) c208 := gd_sig fun a d hd => by
 obtain ⟨s, c, u⟩ := a
 obtain ⟨hg, hd⟩ := br_run hd
 cases hd
 cases isSp_eq hg
 refine FnD.scal (vs := [.string s, .string spB]) (by simp [scal]) rfl fun w hw => ?_
 refine (Tryz.call208 s w).mono fun e w' ⟨h1, h2⟩ => ⟨h1, ?_⟩
 rw [← h2]; exact Below.refl _ _
def cs189 : List Ct := [c205, c208]
def rel189 : List (Nat × Cv) := [(0, .id), (1, .id), (2, .id), (3, .id), (9, .ov sK1), (10, .id)]
def st189 (n : Int) (a : Int × ByteArray × SLs) : List D := [St_ a.2.1, St_ spB, I 0, I n, .ovec sK1 a.2.2, I a.1]
def inL (a : SLs) (j : Int) : Bool := Nat.beq 1 1 && (decide (0 ≤ j) && decide (j < a.length))
theorem inL_nat {a : SLs} {j : Nat} (h : j < a.length) : inL a (j : Int) = true := inb 1 h
def cutOk (s : ByteArray) (i : Int) : Bool := decide (0 ≤ i) && decide (i ≤ s.size)
def tS (s : ByteArray) : Tup sK1 := (s, ())
def setL (a : SLs) (j : Int) (s : ByteArray) : SLs := List.set a (j.toNat + 0) (tS s)
theorem setL_len (a : SLs) (j : Int) (s : ByteArray) : (setL a j s).length = a.length := List.length_set ..
theorem setL_nat (a : SLs) (j : Nat) (s : ByteArray) : setL a (j : Int) s = List.set a j (tS s) := rfl
theorem set_last {α : Type} (x : α) : ∀ (n : Nat) (l : List α), l.length = n + 1 → l.set n x = l.take n ++ [x]
 | 0, [a], _ => rfl
 | n + 1, a :: l, h => by
   show a :: l.set n x = a :: l.take n ++ [x]
   rw [set_last x n l (by simpa using h)]
   rfl
theorem take_set {α : Type} (x : α) : ∀ (n : Nat) (l : List α), n < l.length → (l.set n x).take (n + 1) = l.take n ++ [x]
 | 0, a :: l, _ => rfl
 | n + 1, a :: l, h => by
   show a :: (l.set n x).take (n + 1) = a :: l.take n ++ [x]
   rw [take_set x n l (by simpa using h)]
   rfl
theorem round189 (n i : Int) (s : ByteArray) (a : SLs) : rndD ((cfg w0).at cs189).ps 40 [] 40 (fnOf Tryz.f189).ntmps rel189 (lpB 0 (fnOf Tryz.f189).body) (st189 n (i, s, a)) =
  bif decide (i < n) then
   bif spB.toList == s.toList then bif inL a i then bif cutOk s (IntKind.i64.wrap (0 + (spB.size : Nat))) then
    some ([], .normal, st189 n (W (i + 1), s.extract (IntKind.i64.wrap (0 + (spB.size : Nat))).toNat s.size, setL a i (s.extract 0 (IntKind.i64.wrap (0 + 0)).toNat))) else none else none
   else bif decide (ixI s 32 < 0) then some ([], .exit 0, st189 n (i, s, a)) else
    bif cutOk s (IntKind.i64.wrap (ixI s 32 + 0)) then bif inL a i then bif cutOk s (IntKind.i64.wrap (ixI s 32 + (spB.size : Nat))) then
     some ([], .normal, st189 n (W (i + 1), s.extract (IntKind.i64.wrap (ixI s 32 + (spB.size : Nat))).toNat s.size, setL a i (s.extract 0 (IntKind.i64.wrap (ixI s 32 + 0)).toNat)))
    else none else none else none
  else some ([], .exit 0, st189 n (i, s, a)) := by kernel_rfl
def mnS (s : ByteArray) : Int := if IntKind.i64.wrap ((s.size : Nat) + 1) < IntKind.i64.wrap (ctI s 32 + 1) then IntKind.i64.wrap ((s.size : Nat) + 1) else IntKind.i64.wrap (ctI s 32 + 1)
def mkS (n : Int) : Bool := decide (0 ≤ n) && (decide (n = n) && (decide (n ≤ 10000000) && (Nat.ble (n.toNat * 1) 10000000 && Nat.ble (n.toNat * 16) 1000000000000)))
def posS (a : SLs) (i : Int) : Bool := (decide ((0 : Int) ≤ 0) && (decide (0 ≤ i) && decide (i ≤ a.length))) && Nat.blt 0 (i.toNat - Int.toNat 0)
def nS (s : ByteArray) : Int := IntKind.i64.wrap (mnS s - 1)
def ld189 (s : ByteArray) (x : Int × ByteArray × SLs) : Ld := ldP 0 (fnOf Tryz.f189).ntmps rel189 .normal (st189 (nS s) x)
theorem body189 (s : ByteArray) (x : Int × ByteArray × SLs) : bodyT ((cfg w0).at cs189).ps 40 [ld189 s x] 40 (fnOf Tryz.f189) [St_ s, St_ spB, I 0, I (-1)] =
  bif mkS (mnS s) then bif inL x.2.2 x.1 then bif posS x.2.2 (IntKind.i64.wrap (x.1 + 1)) then
   some ([(ld189 s x, .loop (lpB 0 (fnOf Tryz.f189).body), st189 (nS s) (0, s, List.replicate (mnS s).toNat (tS ByteArray.empty)))], .vec sK1 (List.take ((IntKind.i64.wrap (x.1 + 1)).toNat - Int.toNat 0 - 1 + 1) (List.drop 0 (setL x.2.2 x.1 x.2.1))))
  else none else none else none := by kernel_rfl
def tupS (l : List UInt8) : Tup sK1 := tS (mkB l)
def mIx (s : ByteArray) : Nat := (ixI s 32).toNat
def step189 (i : Nat) (x : ByteArray × SLs) : X × (ByteArray × SLs) := (.normal, (mkB ((bl x.1).drop (mIx x.1 + 1)), setL x.2 (i : Int) (mkB ((bl x.1).take (mIx x.1)))))
theorem ix_some {s : ByteArray} (h : 0 < (bl s).count 32) : ixI s 32 = (mIx s : Int) ∧ mIx s < s.size ∧ (bl s).count 32 = ((bl s).drop (mIx s + 1)).count 32 + 1 ∧ spl 32 (bl s) = (bl s).take (mIx s) :: spl 32 ((bl s).drop (mIx s + 1)) := by
 obtain ⟨m, h1, h2, h3, h4, _, _⟩ := ix_cut h
 have e : ixI s 32 = (m : Int) := h1
 have em : mIx s = m := by unfold mIx; rw [e]; rfl
 rw [em]
 exact ⟨e, by rwa [bl_len] at h2, h3, h4⟩
theorem run189 : ∀ (f i : Nat) (s : ByteArray) (a : SLs), (bl s).count 32 = f → i + f + 1 = a.length → ∃ s' a', rgRun 0 step189 f i (s, a) = (.exit 0, (((i + f : Nat) : Int), (s', a'))) ∧ a'.length = a.length ∧ setL a' ((i + f : Nat) : Int) s' = a.take i ++ (spl 32 (bl s)).map tupS
 | 0, i, s, a, hc, hl => ⟨s, a, rfl, rfl, by
   rw [spl_none hc]
   rw [setL_nat, Nat.add_zero, set_last (tS s) i a (by omega)]
   show _ = a.take i ++ [tS (mkB (bl s))]
   rw [mkB_bl]⟩
 | f + 1, i, s, a, hc, hl => by
   obtain ⟨h1, h2, h3, h4⟩ := ix_some (s := s) (by omega)
   obtain ⟨s', a', r1, r2, r3⟩ := run189 f (i + 1) (mkB ((bl s).drop (mIx s + 1))) (setL a (i : Int) (mkB ((bl s).take (mIx s)))) (by rw [bl_mkB]; omega) (by rw [setL_len]; omega)
   refine ⟨s', a', ?_, ?_, ?_⟩
   ·show rgRun 0 step189 f (i + 1) _ = _
    rw [r1]
    congr 3
    omega
   ·rw [r2, setL_len]
   ·rw [show i + (f + 1) = i + 1 + f by omega, r3, bl_mkB, h4]
    rw [setL_nat, take_set _ i a (by omega), List.append_assoc]
    rfl
theorem spB_size : ((spB.size : Nat) : Int) = 1 := rfl
theorem is_sp {s : ByteArray} (h : (spB.toList == s.toList) = true) : ixI s 32 = 0 := by
 rw [str_eq] at h
 have h : bl spB = bl s := by simpa using h
 unfold ixI
 rw [show s.data.toList = [32] from h.symm]
 rfl
def smS (s : ByteArray) : Bool := Nat.ble s.size 100000
theorem fn189 (h0 : Lib0 w0) (s : ByteArray) (hg : smS s = true) : FnD (cfg w0) 189 [St_ s, St_ spB, I 0, I (-1)] (.vec sK1 ((spl 32 (bl s)).map tupS)) := by
 have hs : s.size ≤ 100000 := Nat.le_of_ble_eq_true hg
 have hcl : (bl s).count 32 ≤ s.size := by rw [← bl_len]; exact List.count_le_length
 have hct : ctI s 32 = ((bl s).count 32 : Nat) := rfl
 have hmn : mnS s = (((bl s).count 32 + 1 : Nat) : Int) := by
  unfold mnS
  rw [hct, W_id (n := (s.size : Int) + 1) (by omega) (by omega), W_id (n := ((bl s).count 32 : Int) + 1) (by omega) (by omega), if_neg (by omega)]
  rfl
 have hns : nS s = ((bl s).count 32 : Nat) := by unfold nS; rw [hmn, W_id (by omega) (by omega)]; omega
 obtain ⟨s', a', r1, r2, r3⟩ := run189 ((bl s).count 32) 0 s (List.replicate (mnS s).toNat (tS ByteArray.empty)) rfl (by rw [List.length_replicate, hmn, Int.toNat_natCast]; omega)
 have r2 : a'.length = (bl s).count 32 + 1 := by rw [r2, List.length_replicate, hmn, Int.toNat_natCast]
 have hcs : Gds (cfg w0) cs189 := ⟨gd205, gd208, trivial⟩
 have hld := ldT_rg (ps_ok (cfg_ok w0) cs189) (ps_sp h0 hcs) (N := (fnOf Tryz.f189).ntmps) (rel := rel189) (B := lpB 0 (fnOf Tryz.f189).body) (id := 0) (k := (bl s).count 32) (by omega) (st189 (nS s)) step189 (fun i x => i + (bl x.1).count 32 = (bl s).count 32 ∧ x.2.length = (bl s).count 32 + 1 ∧ x.1.size ≤ 100000)
  (fun i x hi ⟨hx1, hx2, hx3⟩ => .leaf (by
   obtain ⟨t, a⟩ := x
   have hx1 : i + (bl t).count 32 = (bl s).count 32 := hx1
   have hx2 : a.length = (bl s).count 32 + 1 := hx2
   have hx3 : t.size ≤ 100000 := hx3
   obtain ⟨h1, h2, h3, h4⟩ := ix_some (s := t) (by omega)
   refine (round189 (nS s) (i : Int) t a).trans ?_
   rw [hns, lt_t hi, inL_nat (by omega), h1, spB_size]
   have w0 : IntKind.i64.wrap ((mIx t : Int) + 0) = (mIx t : Int) := by rw [Int.add_zero]; exact W_id (by omega) (by omega)
   have w1 : IntKind.i64.wrap ((mIx t : Int) + 1) = ((mIx t + 1 : Nat) : Int) := by rw [W_id (by omega) (by omega)]; omega
   have c0 : cutOk t (mIx t : Int) = true := by unfold cutOk; rw [decide_eq_true (show (0 : Int) ≤ mIx t by omega), decide_eq_true (show (mIx t : Int) ≤ t.size by omega)]; rfl
   have c1 : cutOk t ((mIx t + 1 : Nat) : Int) = true := by unfold cutOk; rw [decide_eq_true (show (0 : Int) ≤ ((mIx t + 1 : Nat) : Int) by omega), decide_eq_true (show ((mIx t + 1 : Nat) : Int) ≤ t.size by omega)]; rfl
   rw [w0, w1, c0, c1, Int.toNat_natCast, Int.toNat_natCast, decide_eq_false (show ¬ (mIx t : Int) < 0 by omega)]
   cases hsp : (spB.toList == t.toList) with
   | false =>
     simp only [cond_true, cond_false]
     rw [ext_e, ext_0]
     rfl
   | true =>
     simp only [cond_true]
     have hz : mIx t = 0 := by have := is_sp hsp; omega
     have v0 : IntKind.i64.wrap (0 + 0) = 0 := rfl
     have v1 : IntKind.i64.wrap (0 + 1) = 1 := rfl
     rw [hz] at c1
     rw [v0, v1, show cutOk t 1 = true from c1, show Int.toNat 1 = 1 from rfl, show Int.toNat 0 = 0 from rfl, ext_e, ext_0]
     unfold step189
     simp only [hz]
     rfl)) (fun i x x' hi ⟨hx1, hx2, hx3⟩ h => by
   cases h
   obtain ⟨t, a⟩ := x
   have hx1 : i + (bl t).count 32 = (bl s).count 32 := hx1
   have hx2 : a.length = (bl s).count 32 + 1 := hx2
   obtain ⟨h1, h2, h3, h4⟩ := ix_some (s := t) (by omega)
   refine ⟨?_, ?_, ?_⟩
   ·show i + 1 + (bl (mkB ((bl t).drop (mIx t + 1)))).count 32 = _
    rw [bl_mkB]; omega
   ·exact (setL_len ..).trans hx2
   ·show (mkB _).size ≤ _
    rw [← bl_len, bl_mkB, List.length_drop, bl_len]
    have : t.size ≤ 100000 := hx3
    omega)
  (fun x _ => .leaf (by obtain ⟨t, a⟩ := x; refine (round189 (nS s) _ t a).trans ?_; rw [hns, ge_f]; rfl)) (a0 := (s, List.replicate (mnS s).toNat (tS ByteArray.empty))) ⟨Nat.zero_add _, by rw [List.length_replicate, hmn, Int.toNat_natCast], hs⟩ r1
 have hb := body189 (w0 := w0) s (((0 + (bl s).count 32 : Nat) : Int), s', a')
 have hmk : mkS (mnS s) = true := by
  rw [hmn]
  unfold mkS
  rw [decide_eq_true (show (0 : Int) ≤ (((bl s).count 32 + 1 : Nat) : Int) by omega), decide_eq_true rfl, decide_eq_true (show (((bl s).count 32 + 1 : Nat) : Int) ≤ 10000000 by omega), Int.toNat_natCast, (Nat.ble_eq ..).mpr (show ((bl s).count 32 + 1) * 1 ≤ 10000000 by omega), (Nat.ble_eq ..).mpr (show ((bl s).count 32 + 1) * 16 ≤ 1000000000000 by omega)]
  rfl
 have w1 : IntKind.i64.wrap (((0 + (bl s).count 32 : Nat) : Int) + 1) = (((bl s).count 32 + 1 : Nat) : Int) := by rw [W_id (by omega) (by omega)]; omega
 have hpos : posS a' (((bl s).count 32 + 1 : Nat) : Int) = true := by
  unfold posS
  rw [decide_eq_true (show (0 : Int) ≤ 0 by omega), decide_eq_true (show (0 : Int) ≤ (((bl s).count 32 + 1 : Nat) : Int) by omega), decide_eq_true (show (((bl s).count 32 + 1 : Nat) : Int) ≤ a'.length by rw [r2]; omega), Int.toNat_natCast, show Nat.blt 0 ((bl s).count 32 + 1 - Int.toNat 0) = true from rfl]
  rfl
 simp only [] at hb
 rw [hmk, show inL a' ((0 + (bl s).count 32 : Nat) : Int) = true from inL_nat (by omega), w1, hpos, r3] at hb
 have hfin : List.take ((((bl s).count 32 + 1 : Nat) : Int).toNat - Int.toNat 0 - 1 + 1) (List.drop 0 (List.take 0 (List.replicate (mnS s).toNat (tS ByteArray.empty)) ++ (spl 32 (bl s)).map tupS)) = (spl 32 (bl s)).map tupS := by
  rw [List.take_zero, List.nil_append, List.drop_zero]
  refine List.take_of_length_le ?_
  rw [List.length_map, spl_len, Int.toNat_natCast]
  show _ ≤ (bl s).count 32 + 1 - 0 - 1 + 1
  omega
 refine fnD_p (cfg_ok w0) h0 hcs (g := 189) (fd := fnOf Tryz.f189) rfl (o := [(ld189 s (((0 + (bl s).count 32 : Nat) : Int), s', a'), .loop (lpB 0 (fnOf Tryz.f189).body), st189 (nS s) (0, s, List.replicate (mnS s).toNat (tS ByteArray.empty)))]) (hb.trans ?_) ⟨hld, trivial⟩
 rw [hfin]
 rfl
def isZ (n : Int) : Bool := n == 0
def isM (n : Int) : Bool := n == -1
theorem isZ_eq {n : Int} (h : isZ n = true) : n = 0 := eq_of_beq h
theorem isM_eq {n : Int} (h : isM n = true) : n = -1 := eq_of_beq h
def splT (s : ByteArray) : SLs := (spl 32 (bl s)).map tupS
def g189 (s sep : ByteArray) (n m : Int) : Bool := isSp sep && (smS s && (isZ n && isM m))
def c189 : Ct := ct 189 [.c .str, .c .str, .c ik, .c ik] fun a => .br (g189 a.1 a.2.1 a.2.2.1 a.2.2.2.1) (.leaf (.vec sK1 (splT a.1))) .bad
theorem gd189 (h0 : Lib0 w0) : Gd (cfg w0) c189 := gd_sig fun a d hd => by
 obtain ⟨s, sep, n, m, u⟩ := a
 obtain ⟨hg, hd⟩ := br_run hd
 cases hd
 have hg : g189 s sep n m = true := hg
 unfold g189 at hg
 rw [Bool.and_eq_true, Bool.and_eq_true, Bool.and_eq_true] at hg
 obtain ⟨h1, h2, h3, h4⟩ := hg
 cases isSp_eq h1
 have h3 : n = (0 : Int) := isZ_eq h3
 have h4 : m = (-1 : Int) := isM_eq h4
 subst h3
 subst h4
 exact fn189 h0 s h2
theorem run153 (s : ByteArray) : bodyK ((cfg w0).at [c189]) 40 (fnOf Tryz.f153) [St_ s, St_ spB] = bif g189 s spB 0 (-1) then some (.vec sK1 (splT s)) else none := by kernel_rfl
def c153 : Ct := ct 153 [.c .str, .c .str] fun a => .br (isSp a.2.1) (.br (smS a.1) (.leaf (.vec sK1 (splT a.1))) .bad) .bad
theorem gd153 (h0 : Lib0 w0) : Gd (cfg w0) c153 := gd_sig fun a d hd => by
 obtain ⟨s, sep, u⟩ := a
 obtain ⟨h1, hd⟩ := br_run hd
 obtain ⟨h2, hd⟩ := br_run hd
 cases hd
 have h2 : smS s = true := h2
 cases isSp_eq h1
 refine fnD_k (cfg_ok w0) h0 (cs := [c189]) ⟨gd189 h0, trivial⟩ (fd := fnOf Tryz.f153) rfl (n := 40) ((run153 s).trans ?_)
 rw [show g189 s spB 0 (-1) = true by unfold g189; rw [h2]; rfl]
 rfl
end
end Go.Proofs.YtmlglimahbjgbaaGreatDoor
namespace Go.Proofs.YtmlglimahbjgbaaGreatDoor
open Go Go.Am Go.RowKit Go.Town
set_option maxRecDepth 100000
variable {w0 : World}
noncomputable section
def endL (l : List UInt8) : Bool := l.getLast? == some 10
def cutN (s : ByteArray) : ByteArray := bif endL (bl s) then mkB (bl s).dropLast else s
def isNl (s : ByteArray) : Bool := s.data.toList == [10]
theorem isNl_eq {s : ByteArray} (h : isNl s = true) : s = nlB := by
 unfold isNl at h
 have h : s.data.toList = [10] := by simpa using h
 cases s with
 | mk d =>
   have : d = #[10] := by rw [← Array.toArray_toList (xs := d)]; exact congrArg List.toArray h
   rw [this]; rfl
def cutOne (s : ByteArray) : Int := IntKind.i64.wrap ((s.size : Nat) - (nlB.size : Nat))
theorem run152 (s : ByteArray) : bodyK ((cfg w0).at []) 40 (fnOf Tryz.f152) [St_ s, St_ nlB] =
  bif decide (((s.size : Nat) : Int) ≥ (nlB.size : Nat)) then bif cutOk s (cutOne s) then bif !((s.extract (cutOne s).toNat s.size).toList == nlB.toList) then some (.tup [St_ s, Bo false]) else
   bif cutOk s (cutOne s) then some (.tup [St_ (s.extract 0 (cutOne s).toNat), Bo true]) else none else none else some (.tup [St_ s, Bo false]) := by kernel_rfl
theorem getLast_drop {α : Type} : ∀ (l : List α), 0 < l.length → ∃ x, l.drop (l.length - 1) = [x] ∧ l.getLast? = some x
 | [x], _ => ⟨x, rfl, rfl⟩
 | a :: b :: l, _ => by
   obtain ⟨x, h1, h2⟩ := getLast_drop (b :: l) (by simp)
   refine ⟨x, ?_, ?_⟩
   ·show (a :: b :: l).drop ((b :: l).length - 1 + 1) = [x]
    exact h1
   ·rw [List.getLast?_cons_cons]; exact h2
theorem run152' (s : ByteArray) (hg : smS s = true) : bodyK ((cfg w0).at []) 40 (fnOf Tryz.f152) [St_ s, St_ nlB] = some (.tup [St_ (cutN s), Bo (endL (bl s))]) := by
 have hs : s.size ≤ 100000 := Nat.le_of_ble_eq_true hg
 have hn : ((nlB.size : Nat) : Int) = 1 := rfl
 rw [run152, hn]
 unfold cutN
 by_cases h : 1 ≤ s.size
 ·have hc : cutOne s = ((s.size - 1 : Nat) : Int) := by unfold cutOne; rw [hn, W_id (by omega) (by omega)]; omega
  have hk : cutOk s ((s.size - 1 : Nat) : Int) = true := by unfold cutOk; rw [decide_eq_true (show (0 : Int) ≤ ((s.size - 1 : Nat) : Int) by omega), decide_eq_true (show ((s.size - 1 : Nat) : Int) ≤ s.size by omega)]; rfl
  rw [decide_eq_true (show ((s.size : Nat) : Int) ≥ 1 by omega), hc, hk, Int.toNat_natCast, ext_e, ext_0, str_eq, bl_mkB]
  obtain ⟨x, h1, h2⟩ := getLast_drop (bl s) (by rw [bl_len]; omega)
  rw [bl_len] at h1
  rw [h1, show endL (bl s) = ([x] == bl nlB) by unfold endL; rw [h2]; show (x == 10) = ([x] == [10]); simp]
  have h3 : (bl s).take (s.size - 1) = (bl s).dropLast := by rw [List.dropLast_eq_take, bl_len]
  rw [h3]
  cases ([x] == bl nlB) <;> rfl
 ·rw [decide_eq_false (show ¬ ((s.size : Nat) : Int) ≥ 1 by omega)]
  have h1 : bl s = [] := List.length_eq_zero_iff.1 (by rw [bl_len]; omega)
  rw [h1]
  rfl
def c152 : Ct := ct 152 [.c .str, .c .str] fun a => .br (isNl a.2.1) (.br (smS a.1) (.leaf (.tup [St_ (cutN a.1), Bo (endL (bl a.1))])) .bad) .bad
theorem gd152 (h0 : Lib0 w0) : Gd (cfg w0) c152 := gd_sig fun a d hd => by
 obtain ⟨s, sep, u⟩ := a
 obtain ⟨h1, hd⟩ := br_run hd
 obtain ⟨h2, hd⟩ := br_run hd
 cases hd
 cases isNl_eq h1
 exact fnD_k (cfg_ok w0) h0 (cs := []) trivial (fd := fnOf Tryz.f152) rfl (n := 40) (run152' s h2)
end
end Go.Proofs.YtmlglimahbjgbaaGreatDoor
