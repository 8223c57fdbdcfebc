/-
 A part of the proof of the statement that the claim names: see the last file.
-/
import Derived.Test.YthcpfignhalffaaGreatDoorC7
import Derived.Lib.Bytealg
import Derived.Laws.Strings
import Derived.Test.YthcpfignhalffaaGreatDoorC6
import Derived.Test.YthcpfignhalffaaGreatDoorC5
import Derived.Test.YthcpfignhalffaaGreatDoorAm5
namespace Go.Proofs.YthcpfignhalffaaGreatDoor
open Go Go.Am
set_option maxRecDepth 100000
variable {w0 : World}
noncomputable section
abbrev Rn := Option (Obs × X × List D)
def inO (o : List (Tup intK)) (j : Int) : Bool := Nat.beq 1 1 && (decide (0 ≤ j) && decide (j < o.length))
theorem inO_nat {o : List (Tup intK)} {j : Nat} (h : j < o.length) : inO o (j : Int) = true := inb 1 h
abbrev flK : List Kd := [boK]
def b1 (x : Tup flK) : Bool := x.1
def tb1 (b : Bool) : Tup flK := (b, ())
def abE (n : Int) (x : Tup intK) : Tup flK := tb1 (decide (levR (i1 x) ≥ n))
end
end Go.Proofs.YthcpfignhalffaaGreatDoor
namespace Go.Proofs.YthcpfignhalffaaGreatDoor
open Go
def bl (s : ByteArray) : List UInt8 := s.data.toList
def mkB (l : List UInt8) : ByteArray := ⟨l.toArray⟩
theorem bl_mkB (l : List UInt8) : bl (mkB l) = l := by simp [bl, mkB]
theorem mkB_bl (s : ByteArray) : mkB (bl s) = s := by cases s; simp [bl, mkB]
theorem bl_inj {s t : ByteArray} (h : bl s = bl t) : s = t := by rw [← mkB_bl s, ← mkB_bl t, h]
theorem bl_len (s : ByteArray) : (bl s).length = s.size := by cases s; simp [bl, ByteArray.size]
theorem bl_extract (s : ByteArray) (i j : Nat) : bl (s.extract i j) = ((bl s).drop i).take (j - i) := by
 unfold bl
 rw [ByteArray.data_extract]
 simp [Array.toList_extract, List.extract_eq_take_drop]
theorem ext_0 (s : ByteArray) (j : Nat) : s.extract 0 j = mkB ((bl s).take j) := bl_inj (by rw [bl_extract, bl_mkB]; simp)
theorem ext_e (s : ByteArray) (i : Nat) : s.extract i s.size = mkB ((bl s).drop i) := bl_inj (by
 rw [bl_extract, bl_mkB]
 exact List.take_of_length_le (by rw [List.length_drop, bl_len]; omega))
theorem bl_append (s t : ByteArray) : bl (s ++ t) = bl s ++ bl t := by
 simp [bl]
theorem str_eq (a b : ByteArray) : (a.toList == b.toList) = (bl a == bl b) := by
 rw [ByteArray.toList_eq, ByteArray.toList_eq]
 rfl
def consH (b : UInt8) : List (List UInt8) → List (List UInt8)
 | [] => [[b]]
 | x :: xs => (b :: x) :: xs
def spl (c : UInt8) : List UInt8 → List (List UInt8)
 | [] => [[]]
 | b :: l => if b == c then [] :: spl c l else consH b (spl c l)
theorem spl_t {c b : UInt8} {l : List UInt8} (h : (b == c) = true) : spl c (b :: l) = [] :: spl c l := if_pos h
theorem spl_f {c b : UInt8} {l : List UInt8} (h : (b == c) = false) : spl c (b :: l) = consH b (spl c l) := if_neg (by rw [h]; decide)
theorem spl_none {c : UInt8} : ∀ {l : List UInt8}, l.count c = 0 → spl c l = [l]
 | [], _ => rfl
 | b :: l, h => by
   rw [List.count_cons] at h
   have hb : (b == c) = false := by
    cases hb : (b == c) with
    | false => rfl
    | true => rw [hb] at h; simp at h
   rw [hb] at h
   rw [spl_f hb, spl_none (l := l) (by simpa using h)]
   rfl
theorem ix_cut {c : UInt8} : ∀ {l : List UInt8}, 0 < l.count c → ∃ m : Nat, Lib.indexByte l c = (m : Int) ∧ m < l.length ∧ l.count c = (l.drop (m + 1)).count c + 1 ∧ spl c l = l.take m :: spl c (l.drop (m + 1)) ∧ (l.take m).count c = 0 ∧ l.drop m = c :: l.drop (m + 1)
 | [], h => by simp at h
 | b :: l, h => by
   rw [List.count_cons] at h
   cases hb : (b == c) with
   | true =>
     refine ⟨0, ?_, by simp, ?_, ?_, by simp, ?_⟩
     ·unfold Lib.indexByte; rw [hb]; rfl
     ·rw [List.count_cons, hb]; simp
     ·rw [spl_t hb]; rfl
     ·simp only [List.drop_zero, List.drop_succ_cons]; rw [eq_of_beq hb]
   | false =>
     rw [hb] at h
     obtain ⟨m, h1, h2, h3, h4, h5, h6⟩ := ix_cut (c := c) (l := l) (by simpa using h)
     refine ⟨m + 1, ?_, by simpa using h2, ?_, ?_, ?_, ?_⟩
     ·unfold Lib.indexByte
      rw [hb, h1]
      have : ((m : Int) == -1) = false := by rw [beq_eq_false_iff_ne]; omega
      rw [this]
      simp
     ·rw [List.count_cons, hb]
      simp only [List.drop_succ_cons]
      simpa using h3
     ·rw [spl_f hb, h4]
      rfl
     ·rw [List.take_succ_cons, List.count_cons, hb]
      simpa using h5
     ·simp only [List.drop_succ_cons]; exact h6
theorem ix_none {c : UInt8} : ∀ {l : List UInt8}, l.count c = 0 → Lib.indexByte l c = -1
 | [], _ => rfl
 | b :: l, h => by
   rw [List.count_cons] at h
   have hb : (b == c) = false := by
    cases hb : (b == c) with
    | false => rfl
    | true => rw [hb] at h; simp at h
   rw [hb] at h
   unfold Lib.indexByte
   rw [hb, ix_none (l := l) (by simpa using h)]
   rfl
theorem spl_len (c : UInt8) : ∀ l : List UInt8, (spl c l).length = l.count c + 1
 | [] => rfl
 | b :: l => by
   have ih := spl_len c l
   rw [List.count_cons]
   cases hb : (b == c) with
   | true => rw [spl_t hb]; simp [ih]
   | false =>
     rw [spl_f hb]
     cases hs : spl c l with
     | nil => rw [hs] at ih; simp at ih
     | cons x xs => rw [hs] at ih; simpa [consH] using ih
end Go.Proofs.YthcpfignhalffaaGreatDoor
namespace Go.Proofs.YthcpfignhalffaaGreatDoor
open Go Go.Am Go.RowKit
set_option maxRecDepth 100000
theorem W_id {n : Int} (h1 : -9223372036854775808 ≤ n) (h2 : n ≤ 9223372036854775807) : IntKind.i64.wrap n = n := by
 rw [IntKind.wrap_i64]
 omega
theorem dec_small {s : ByteArray} {i : Nat} (h : (s.get! i).toNat < 128) : Utf8.decode s i = ((s.get! i).toNat, 1) := by
 unfold Utf8.decode
 simp only [Nat.add_zero]
 rw [if_pos h]
theorem fst_ite {p : Prop} [Decidable p] {x y : Nat × Nat} (hx : p → 128 ≤ x.1) (hy : ¬ p → 128 ≤ y.1) : 128 ≤ (if p then x else y).1 := by
 split
 ·rename_i h; exact hx h
 ·rename_i h; exact hy h
theorem and_ge {c k : Nat} {b : Bool} (h : (decide (c ≥ k) && b) = true) : k ≤ c := by
 simp only [Bool.and_eq_true, decide_eq_true_eq] at h; exact h.1
theorem dec_big {s : ByteArray} {i : Nat} (h : ¬ (s.get! i).toNat < 128) : 128 ≤ (Utf8.decode s i).1 := by
 unfold Utf8.decode
 refine fst_ite (fun h' => absurd h' h) fun _ => fst_ite (fun _ => fst_ite (fun h2 => h2) fun _ => ?_) fun _ => fst_ite (fun _ => fst_ite (fun h2 => Nat.le_trans (by decide) (and_ge h2)) fun _ => ?_) fun _ => fst_ite (fun _ => fst_ite (fun h2 => Nat.le_trans (by decide) (and_ge h2)) fun _ => ?_) fun _ => ?_
 all_goals (show 128 ≤ 65533; decide)
theorem empty_bytes (s : ByteArray) : (s.toList == (ByteArray.mk #[]).toList) = decide (s.size = 0) := by
 rw [← beq_toListBytes]
 obtain ⟨⟨x⟩⟩ := s
 cases x with
 | nil => rfl
 | cons a l => rfl
end Go.Proofs.YthcpfignhalffaaGreatDoor
namespace Go.Proofs.YthcpfignhalffaaGreatDoor
open Go Go.Am Go.RowKit
set_option maxRecDepth 100000
variable {w0 : World}
noncomputable section
abbrev sK1 : List Kd := [.str]
abbrev SLs := List (Tup sK1)
abbrev St_ (s : ByteArray) : D := .val (.string s)
def ixI (s : ByteArray) (c : Int) : Int := Lib.indexByte s.data.toList c.toNat.toUInt8
def ctI (s : ByteArray) (c : Int) : Int := (Lib.countByte s.data.toList c.toNat.toUInt8 : Nat)
theorem Tryz.ix241 (s : ByteArray) (c : Int) (w : World) : (callFunc 241 #[.string s, .int .u8 c]).run Tryz.prog w = .ok (.value (.int .i64 (ixI s c))) w := by
 rw [run_callFunc_extern Tryz.func241 (by kernel_rfl) (by kernel_rfl) (by kernel_rfl) (e := Extern.BytealgIndexByte.indexByte) (by kernel_rfl), Lib.run_indexByteString]
 rfl
theorem Tryz.ct244 (s : ByteArray) (c : Int) (w : World) : (callFunc 244 #[.string s, .int .u8 c]).run Tryz.prog w = .ok (.value (.int .i64 (ctI s c))) w := by
 rw [run_callFunc_extern Tryz.func244 (by kernel_rfl) (by kernel_rfl) (by kernel_rfl) (e := Extern.BytealgCount.count) (by kernel_rfl), Lib.run_countString]
 rfl
theorem Tryz.call224 (s : ByteArray) (c : Int) (w : World) : Calls Tryz.prog 224 #[.string s, .int .u8 c] w fun e w' => e = .returned (.int .i64 (ixI s c)) ∧ w = w' := by
 have h := Tryz.ix241
 go_enter Tryz.func224, Tryz.ntmps224
 go_wp2_with (simp only [h])
 all_goals go_ret
 all_goals exact ⟨rfl, rfl⟩
theorem Tryz.call227 (s : ByteArray) (w : World) : Calls Tryz.prog 227 #[.string s, .string ⟨#[32]⟩] w fun e w' => e = .returned (.int .i64 (ctI s 32)) ∧ w = w' := by
 have h := Tryz.ct244
 go_enter Tryz.func227, Tryz.ntmps227
 go_wp2_with (simp only [h])
 all_goals go_ret
 all_goals exact ⟨rfl, rfl⟩
def c224 : Ct := ct 224 [.c .str, .c (.int .u8)] fun a => .leaf (I (ixI a.1 a.2.1))
theorem gd224 : Gd (cfg w0) c224 := gd_sig fun a d hd => by
 obtain ⟨s, c, u⟩ := a
 cases hd
 refine FnD.scal (vs := [.string s, .int .u8 c]) (by simp [scal]) rfl fun w hw => ?_
 refine (Tryz.call224 s c w).mono fun e w' ⟨h1, h2⟩ => ⟨h1, ?_⟩
 rw [← h2]; exact Below.refl _ _
def spB : ByteArray := ⟨#[32]⟩
def nlB : ByteArray := ⟨#[10]⟩
def isSp (s : ByteArray) : Bool := s.data.toList == [32]
theorem isSp_eq {s : ByteArray} (h : isSp s = true) : s = spB := by
 unfold isSp at h
 have h : s.data.toList = [32] := by simpa using h
 cases s with
 | mk d =>
   have : d = #[32] := by rw [← Array.toArray_toList (xs := d)]; exact congrArg List.toArray h
   rw [this]; rfl
def c227 : Ct := ct 227 [.c .str, .c .str] fun a => .br (isSp a.2.1) (.leaf (I (ctI a.1 32))) .bad
theorem gd227 : Gd (cfg w0) c227 := gd_sig fun a d hd => by
 obtain ⟨s, c, u⟩ := a
 obtain ⟨hg, hd⟩ := br_run hd
 cases hd
 cases isSp_eq hg
 refine FnD.scal (vs := [.string s, .string spB]) (by simp [scal]) rfl fun w hw => ?_
 refine (Tryz.call227 s w).mono fun e w' ⟨h1, h2⟩ => ⟨h1, ?_⟩
 rw [← h2]; exact Below.refl _ _
def cs194 : List Ct := [c224, c227]
def rel194 : List (Nat × Cv) := [(0, .id), (1, .id), (2, .id), (3, .id), (9, .ov sK1), (10, .id)]
def st194 (n : Int) (a : Int × ByteArray × SLs) : List D := [St_ a.2.1, St_ spB, I 0, I n, .ovec sK1 a.2.2, I a.1]
def inL (a : SLs) (j : Int) : Bool := Nat.beq 1 1 && (decide (0 ≤ j) && decide (j < a.length))
theorem inL_nat {a : SLs} {j : Nat} (h : j < a.length) : inL a (j : Int) = true := inb 1 h
def cutOk (s : ByteArray) (i : Int) : Bool := decide (0 ≤ i) && decide (i ≤ s.size)
def tS (s : ByteArray) : Tup sK1 := (s, ())
def setL (a : SLs) (j : Int) (s : ByteArray) : SLs := List.set a (j.toNat + 0) (tS s)
theorem setL_len (a : SLs) (j : Int) (s : ByteArray) : (setL a j s).length = a.length := List.length_set ..
theorem setL_nat (a : SLs) (j : Nat) (s : ByteArray) : setL a (j : Int) s = List.set a j (tS s) := rfl
theorem set_last {α : Type} (x : α) : ∀ (n : Nat) (l : List α), l.length = n + 1 → l.set n x = l.take n ++ [x]
 | 0, [a], _ => rfl
 | n + 1, a :: l, h => by
   show a :: l.set n x = a :: l.take n ++ [x]
   rw [set_last x n l (by simpa using h)]
   rfl
theorem take_set {α : Type} (x : α) : ∀ (n : Nat) (l : List α), n < l.length → (l.set n x).take (n + 1) = l.take n ++ [x]
 | 0, a :: l, _ => rfl
 | n + 1, a :: l, h => by
   show a :: (l.set n x).take (n + 1) = a :: l.take n ++ [x]
   rw [take_set x n l (by simpa using h)]
   rfl
theorem round194 (n i : Int) (s : ByteArray) (a : SLs) : rndD ((cfg w0).at cs194).ps 40 [] 40 (fnOf Tryz.f194).ntmps rel194 (lpB 0 (fnOf Tryz.f194).body) (st194 n (i, s, a)) =
  bif decide (i < n) then
   bif spB.toList == s.toList then bif inL a i then bif cutOk s (IntKind.i64.wrap (0 + (spB.size : Nat))) then
    some ([], .normal, st194 n (W (i + 1), s.extract (IntKind.i64.wrap (0 + (spB.size : Nat))).toNat s.size, setL a i (s.extract 0 (IntKind.i64.wrap (0 + 0)).toNat))) else none else none
   else bif decide (ixI s 32 < 0) then some ([], .exit 0, st194 n (i, s, a)) else
    bif cutOk s (IntKind.i64.wrap (ixI s 32 + 0)) then bif inL a i then bif cutOk s (IntKind.i64.wrap (ixI s 32 + (spB.size : Nat))) then
     some ([], .normal, st194 n (W (i + 1), s.extract (IntKind.i64.wrap (ixI s 32 + (spB.size : Nat))).toNat s.size, setL a i (s.extract 0 (IntKind.i64.wrap (ixI s 32 + 0)).toNat)))
    else none else none else none
  else some ([], .exit 0, st194 n (i, s, a)) := by kernel_rfl
def mnS (s : ByteArray) : Int := if IntKind.i64.wrap ((s.size : Nat) + 1) < IntKind.i64.wrap (ctI s 32 + 1) then IntKind.i64.wrap ((s.size : Nat) + 1) else IntKind.i64.wrap (ctI s 32 + 1)
def mkS (n : Int) : Bool := decide (0 ≤ n) && (decide (n = n) && (decide (n ≤ 10000000) && (Nat.ble (n.toNat * 1) 10000000 && Nat.ble (n.toNat * 16) 1000000000000)))
def posS (a : SLs) (i : Int) : Bool := (decide ((0 : Int) ≤ 0) && (decide (0 ≤ i) && decide (i ≤ a.length))) && Nat.blt 0 (i.toNat - Int.toNat 0)
def nS (s : ByteArray) : Int := IntKind.i64.wrap (mnS s - 1)
def ld194 (s : ByteArray) (x : Int × ByteArray × SLs) : Ld := ldP 0 (fnOf Tryz.f194).ntmps rel194 .normal (st194 (nS s) x)
theorem body194 (s : ByteArray) (x : Int × ByteArray × SLs) : bodyT ((cfg w0).at cs194).ps 40 [ld194 s x] 40 (fnOf Tryz.f194) [St_ s, St_ spB, I 0, I (-1)] =
  bif mkS (mnS s) then bif inL x.2.2 x.1 then bif posS x.2.2 (IntKind.i64.wrap (x.1 + 1)) then
   some ([(ld194 s x, .loop (lpB 0 (fnOf Tryz.f194).body), st194 (nS s) (0, s, List.replicate (mnS s).toNat (tS ByteArray.empty)))], .vec sK1 (List.take ((IntKind.i64.wrap (x.1 + 1)).toNat - Int.toNat 0 - 1 + 1) (List.drop 0 (setL x.2.2 x.1 x.2.1))))
  else none else none else none := by kernel_rfl
def tupS (l : List UInt8) : Tup sK1 := tS (mkB l)
def mIx (s : ByteArray) : Nat := (ixI s 32).toNat
def step194 (i : Nat) (x : ByteArray × SLs) : X × (ByteArray × SLs) := (.normal, (mkB ((bl x.1).drop (mIx x.1 + 1)), setL x.2 (i : Int) (mkB ((bl x.1).take (mIx x.1)))))
theorem ix_some {s : ByteArray} (h : 0 < (bl s).count 32) : ixI s 32 = (mIx s : Int) ∧ mIx s < s.size ∧ (bl s).count 32 = ((bl s).drop (mIx s + 1)).count 32 + 1 ∧ spl 32 (bl s) = (bl s).take (mIx s) :: spl 32 ((bl s).drop (mIx s + 1)) := by
 obtain ⟨m, h1, h2, h3, h4, _, _⟩ := ix_cut h
 have e : ixI s 32 = (m : Int) := h1
 have em : mIx s = m := by unfold mIx; rw [e]; rfl
 rw [em]
 exact ⟨e, by rwa [bl_len] at h2, h3, h4⟩
theorem run194 : ∀ (f i : Nat) (s : ByteArray) (a : SLs), (bl s).count 32 = f → i + f + 1 = a.length → ∃ s' a', rgRun 0 step194 f i (s, a) = (.exit 0, (((i + f : Nat) : Int), (s', a'))) ∧ a'.length = a.length ∧ setL a' ((i + f : Nat) : Int) s' = a.take i ++ (spl 32 (bl s)).map tupS
 | 0, i, s, a, hc, hl => ⟨s, a, rfl, rfl, by
   rw [spl_none hc]
   rw [setL_nat, Nat.add_zero, set_last (tS s) i a (by omega)]
   show _ = a.take i ++ [tS (mkB (bl s))]
   rw [mkB_bl]⟩
 | f + 1, i, s, a, hc, hl => by
   obtain ⟨h1, h2, h3, h4⟩ := ix_some (s := s) (by omega)
   obtain ⟨s', a', r1, r2, r3⟩ := run194 f (i + 1) (mkB ((bl s).drop (mIx s + 1))) (setL a (i : Int) (mkB ((bl s).take (mIx s)))) (by rw [bl_mkB]; omega) (by rw [setL_len]; omega)
   refine ⟨s', a', ?_, ?_, ?_⟩
   ·show rgRun 0 step194 f (i + 1) _ = _
    rw [r1]
    congr 3
    omega
   ·rw [r2, setL_len]
   ·rw [show i + (f + 1) = i + 1 + f by omega, r3, bl_mkB, h4]
    rw [setL_nat, take_set _ i a (by omega), List.append_assoc]
    rfl
theorem spB_size : ((spB.size : Nat) : Int) = 1 := rfl
theorem is_sp {s : ByteArray} (h : (spB.toList == s.toList) = true) : ixI s 32 = 0 := by
 rw [str_eq] at h
 have h : bl spB = bl s := by simpa using h
 unfold ixI
 rw [show s.data.toList = [32] from h.symm]
 rfl
def smS (s : ByteArray) : Bool := Nat.ble s.size 100000
theorem fn194 (h0 : Lib0 w0) (s : ByteArray) (hg : smS s = true) : FnD (cfg w0) 194 [St_ s, St_ spB, I 0, I (-1)] (.vec sK1 ((spl 32 (bl s)).map tupS)) := by
 have hs : s.size ≤ 100000 := Nat.le_of_ble_eq_true hg
 have hcl : (bl s).count 32 ≤ s.size := by rw [← bl_len]; exact List.count_le_length
 have hct : ctI s 32 = ((bl s).count 32 : Nat) := rfl
 have hmn : mnS s = (((bl s).count 32 + 1 : Nat) : Int) := by
  unfold mnS
  rw [hct, W_id (n := (s.size : Int) + 1) (by omega) (by omega), W_id (n := ((bl s).count 32 : Int) + 1) (by omega) (by omega), if_neg (by omega)]
  rfl
 have hns : nS s = ((bl s).count 32 : Nat) := by unfold nS; rw [hmn, W_id (by omega) (by omega)]; omega
 obtain ⟨s', a', r1, r2, r3⟩ := run194 ((bl s).count 32) 0 s (List.replicate (mnS s).toNat (tS ByteArray.empty)) rfl (by rw [List.length_replicate, hmn, Int.toNat_natCast]; omega)
 have r2 : a'.length = (bl s).count 32 + 1 := by rw [r2, List.length_replicate, hmn, Int.toNat_natCast]
 have hcs : Gds (cfg w0) cs194 := ⟨gd224, gd227, trivial⟩
 have hld := ldT_rg (ps_ok (cfg_ok w0) cs194) (ps_sp h0 hcs) (N := (fnOf Tryz.f194).ntmps) (rel := rel194) (B := lpB 0 (fnOf Tryz.f194).body) (id := 0) (k := (bl s).count 32) (by omega) (st194 (nS s)) step194 (fun i x => i + (bl x.1).count 32 = (bl s).count 32 ∧ x.2.length = (bl s).count 32 + 1 ∧ x.1.size ≤ 100000)
  (fun i x hi ⟨hx1, hx2, hx3⟩ => .leaf (by
   obtain ⟨t, a⟩ := x
   have hx1 : i + (bl t).count 32 = (bl s).count 32 := hx1
   have hx2 : a.length = (bl s).count 32 + 1 := hx2
   have hx3 : t.size ≤ 100000 := hx3
   obtain ⟨h1, h2, h3, h4⟩ := ix_some (s := t) (by omega)
   refine (round194 (nS s) (i : Int) t a).trans ?_
   rw [hns, lt_t hi, inL_nat (by omega), h1, spB_size]
   have w0 : IntKind.i64.wrap ((mIx t : Int) + 0) = (mIx t : Int) := by rw [Int.add_zero]; exact W_id (by omega) (by omega)
   have w1 : IntKind.i64.wrap ((mIx t : Int) + 1) = ((mIx t + 1 : Nat) : Int) := by rw [W_id (by omega) (by omega)]; omega
   have c0 : cutOk t (mIx t : Int) = true := by unfold cutOk; rw [decide_eq_true (show (0 : Int) ≤ mIx t by omega), decide_eq_true (show (mIx t : Int) ≤ t.size by omega)]; rfl
   have c1 : cutOk t ((mIx t + 1 : Nat) : Int) = true := by unfold cutOk; rw [decide_eq_true (show (0 : Int) ≤ ((mIx t + 1 : Nat) : Int) by omega), decide_eq_true (show ((mIx t + 1 : Nat) : Int) ≤ t.size by omega)]; rfl
   rw [w0, w1, c0, c1, Int.toNat_natCast, Int.toNat_natCast, decide_eq_false (show ¬ (mIx t : Int) < 0 by omega)]
   cases hsp : (spB.toList == t.toList) with
   | false =>
     simp only [cond_true, cond_false]
     rw [ext_e, ext_0]
     rfl
   | true =>
     simp only [cond_true]
     have hz : mIx t = 0 := by have := is_sp hsp; omega
     have v0 : IntKind.i64.wrap (0 + 0) = 0 := rfl
     have v1 : IntKind.i64.wrap (0 + 1) = 1 := rfl
     rw [hz] at c1
     rw [v0, v1, show cutOk t 1 = true from c1, show Int.toNat 1 = 1 from rfl, show Int.toNat 0 = 0 from rfl, ext_e, ext_0]
     unfold step194
     simp only [hz]
     rfl)) (fun i x x' hi ⟨hx1, hx2, hx3⟩ h => by
   cases h
   obtain ⟨t, a⟩ := x
   have hx1 : i + (bl t).count 32 = (bl s).count 32 := hx1
   have hx2 : a.length = (bl s).count 32 + 1 := hx2
   obtain ⟨h1, h2, h3, h4⟩ := ix_some (s := t) (by omega)
   refine ⟨?_, ?_, ?_⟩
   ·show i + 1 + (bl (mkB ((bl t).drop (mIx t + 1)))).count 32 = _
    rw [bl_mkB]; omega
   ·exact (setL_len ..).trans hx2
   ·show (mkB _).size ≤ _
    rw [← bl_len, bl_mkB, List.length_drop, bl_len]
    have : t.size ≤ 100000 := hx3
    omega)
  (fun x _ => .leaf (by obtain ⟨t, a⟩ := x; refine (round194 (nS s) _ t a).trans ?_; rw [hns, ge_f]; rfl)) (a0 := (s, List.replicate (mnS s).toNat (tS ByteArray.empty))) ⟨Nat.zero_add _, by rw [List.length_replicate, hmn, Int.toNat_natCast], hs⟩ r1
 have hb := body194 (w0 := w0) s (((0 + (bl s).count 32 : Nat) : Int), s', a')
 have hmk : mkS (mnS s) = true := by
  rw [hmn]
  unfold mkS
  rw [decide_eq_true (show (0 : Int) ≤ (((bl s).count 32 + 1 : Nat) : Int) by omega), decide_eq_true rfl, decide_eq_true (show (((bl s).count 32 + 1 : Nat) : Int) ≤ 10000000 by omega), Int.toNat_natCast, (Nat.ble_eq ..).mpr (show ((bl s).count 32 + 1) * 1 ≤ 10000000 by omega), (Nat.ble_eq ..).mpr (show ((bl s).count 32 + 1) * 16 ≤ 1000000000000 by omega)]
  rfl
 have w1 : IntKind.i64.wrap (((0 + (bl s).count 32 : Nat) : Int) + 1) = (((bl s).count 32 + 1 : Nat) : Int) := by rw [W_id (by omega) (by omega)]; omega
 have hpos : posS a' (((bl s).count 32 + 1 : Nat) : Int) = true := by
  unfold posS
  rw [decide_eq_true (show (0 : Int) ≤ 0 by omega), decide_eq_true (show (0 : Int) ≤ (((bl s).count 32 + 1 : Nat) : Int) by omega), decide_eq_true (show (((bl s).count 32 + 1 : Nat) : Int) ≤ a'.length by rw [r2]; omega), Int.toNat_natCast, show Nat.blt 0 ((bl s).count 32 + 1 - Int.toNat 0) = true from rfl]
  rfl
 simp only [] at hb
 rw [hmk, show inL a' ((0 + (bl s).count 32 : Nat) : Int) = true from inL_nat (by omega), w1, hpos, r3] at hb
 have hfin : List.take ((((bl s).count 32 + 1 : Nat) : Int).toNat - Int.toNat 0 - 1 + 1) (List.drop 0 (List.take 0 (List.replicate (mnS s).toNat (tS ByteArray.empty)) ++ (spl 32 (bl s)).map tupS)) = (spl 32 (bl s)).map tupS := by
  rw [List.take_zero, List.nil_append, List.drop_zero]
  refine List.take_of_length_le ?_
  rw [List.length_map, spl_len, Int.toNat_natCast]
  show _ ≤ (bl s).count 32 + 1 - 0 - 1 + 1
  omega
 refine fnD_p (cfg_ok w0) h0 hcs (g := 194) (fd := fnOf Tryz.f194) rfl (o := [(ld194 s (((0 + (bl s).count 32 : Nat) : Int), s', a'), .loop (lpB 0 (fnOf Tryz.f194).body), st194 (nS s) (0, s, List.replicate (mnS s).toNat (tS ByteArray.empty)))]) (hb.trans ?_) ⟨hld, trivial⟩
 rw [hfin]
 rfl
def isZ (n : Int) : Bool := n == 0
def isM (n : Int) : Bool := n == -1
theorem isZ_eq {n : Int} (h : isZ n = true) : n = 0 := eq_of_beq h
theorem isM_eq {n : Int} (h : isM n = true) : n = -1 := eq_of_beq h
def splT (s : ByteArray) : SLs := (spl 32 (bl s)).map tupS
def g194 (s sep : ByteArray) (n m : Int) : Bool := isSp sep && (smS s && (isZ n && isM m))
def c194 : Ct := ct 194 [.c .str, .c .str, .c ik, .c ik] fun a => .br (g194 a.1 a.2.1 a.2.2.1 a.2.2.2.1) (.leaf (.vec sK1 (splT a.1))) .bad
theorem gd194 (h0 : Lib0 w0) : Gd (cfg w0) c194 := gd_sig fun a d hd => by
 obtain ⟨s, sep, n, m, u⟩ := a
 obtain ⟨hg, hd⟩ := br_run hd
 cases hd
 have hg : g194 s sep n m = true := hg
 unfold g194 at hg
 rw [Bool.and_eq_true, Bool.and_eq_true, Bool.and_eq_true] at hg
 obtain ⟨h1, h2, h3, h4⟩ := hg
 cases isSp_eq h1
 have h3 : n = (0 : Int) := isZ_eq h3
 have h4 : m = (-1 : Int) := isM_eq h4
 subst h3
 subst h4
 exact fn194 h0 s h2
theorem run159 (s : ByteArray) : bodyK ((cfg w0).at [c194]) 40 (fnOf Tryz.f159) [St_ s, St_ spB] = bif g194 s spB 0 (-1) then some (.vec sK1 (splT s)) else none := by kernel_rfl
def c159 : Ct := ct 159 [.c .str, .c .str] fun a => .br (isSp a.2.1) (.br (smS a.1) (.leaf (.vec sK1 (splT a.1))) .bad) .bad
theorem gd159 (h0 : Lib0 w0) : Gd (cfg w0) c159 := gd_sig fun a d hd => by
 obtain ⟨s, sep, u⟩ := a
 obtain ⟨h1, hd⟩ := br_run hd
 obtain ⟨h2, hd⟩ := br_run hd
 cases hd
 have h2 : smS s = true := h2
 cases isSp_eq h1
 refine fnD_k (cfg_ok w0) h0 (cs := [c194]) ⟨gd194 h0, trivial⟩ (fd := fnOf Tryz.f159) rfl (n := 40) ((run159 s).trans ?_)
 rw [show g194 s spB 0 (-1) = true by unfold g194; rw [h2]; rfl]
 rfl
end
end Go.Proofs.YthcpfignhalffaaGreatDoor
namespace Go.Proofs.YthcpfignhalffaaGreatDoor
open Go Go.Am Go.RowKit
set_option maxRecDepth 100000
variable {w0 : World}
noncomputable section
def endL (l : List UInt8) : Bool := l.getLast? == some 10
def cutN (s : ByteArray) : ByteArray := bif endL (bl s) then mkB (bl s).dropLast else s
def isNl (s : ByteArray) : Bool := s.data.toList == [10]
theorem isNl_eq {s : ByteArray} (h : isNl s = true) : s = nlB := by
 unfold isNl at h
 have h : s.data.toList = [10] := by simpa using h
 cases s with
 | mk d =>
   have : d = #[10] := by rw [← Array.toArray_toList (xs := d)]; exact congrArg List.toArray h
   rw [this]; rfl
def cutOne (s : ByteArray) : Int := IntKind.i64.wrap ((s.size : Nat) - (nlB.size : Nat))
theorem run158 (s : ByteArray) : bodyK ((cfg w0).at []) 40 (fnOf Tryz.f158) [St_ s, St_ nlB] =
  bif decide (((s.size : Nat) : Int) ≥ (nlB.size : Nat)) then bif cutOk s (cutOne s) then bif !((s.extract (cutOne s).toNat s.size).toList == nlB.toList) then some (.tup [St_ s, Bo false]) else
   bif cutOk s (cutOne s) then some (.tup [St_ (s.extract 0 (cutOne s).toNat), Bo true]) else none else none else some (.tup [St_ s, Bo false]) := by kernel_rfl
theorem getLast_drop {α : Type} : ∀ (l : List α), 0 < l.length → ∃ x, l.drop (l.length - 1) = [x] ∧ l.getLast? = some x
 | [x], _ => ⟨x, rfl, rfl⟩
 | a :: b :: l, _ => by
   obtain ⟨x, h1, h2⟩ := getLast_drop (b :: l) (by simp)
   refine ⟨x, ?_, ?_⟩
   ·show (a :: b :: l).drop ((b :: l).length - 1 + 1) = [x]
    exact h1
   ·rw [List.getLast?_cons_cons]; exact h2
theorem run158' (s : ByteArray) (hg : smS s = true) : bodyK ((cfg w0).at []) 40 (fnOf Tryz.f158) [St_ s, St_ nlB] = some (.tup [St_ (cutN s), Bo (endL (bl s))]) := by
 have hs : s.size ≤ 100000 := Nat.le_of_ble_eq_true hg
 have hn : ((nlB.size : Nat) : Int) = 1 := rfl
 rw [run158, hn]
 unfold cutN
 by_cases h : 1 ≤ s.size
 ·have hc : cutOne s = ((s.size - 1 : Nat) : Int) := by unfold cutOne; rw [hn, W_id (by omega) (by omega)]; omega
  have hk : cutOk s ((s.size - 1 : Nat) : Int) = true := by unfold cutOk; rw [decide_eq_true (show (0 : Int) ≤ ((s.size - 1 : Nat) : Int) by omega), decide_eq_true (show ((s.size - 1 : Nat) : Int) ≤ s.size by omega)]; rfl
  rw [decide_eq_true (show ((s.size : Nat) : Int) ≥ 1 by omega), hc, hk, Int.toNat_natCast, ext_e, ext_0, str_eq, bl_mkB]
  obtain ⟨x, h1, h2⟩ := getLast_drop (bl s) (by rw [bl_len]; omega)
  rw [bl_len] at h1
  rw [h1, show endL (bl s) = ([x] == bl nlB) by unfold endL; rw [h2]; show (x == 10) = ([x] == [10]); simp]
  have h3 : (bl s).take (s.size - 1) = (bl s).dropLast := by rw [List.dropLast_eq_take, bl_len]
  rw [h3]
  cases ([x] == bl nlB) <;> rfl
 ·rw [decide_eq_false (show ¬ ((s.size : Nat) : Int) ≥ 1 by omega)]
  have h1 : bl s = [] := List.length_eq_zero_iff.1 (by rw [bl_len]; omega)
  rw [h1]
  rfl
def c158 : Ct := ct 158 [.c .str, .c .str] fun a => .br (isNl a.2.1) (.br (smS a.1) (.leaf (.tup [St_ (cutN a.1), Bo (endL (bl a.1))])) .bad) .bad
theorem gd158 (h0 : Lib0 w0) : Gd (cfg w0) c158 := gd_sig fun a d hd => by
 obtain ⟨s, sep, u⟩ := a
 obtain ⟨h1, hd⟩ := br_run hd
 obtain ⟨h2, hd⟩ := br_run hd
 cases hd
 cases isNl_eq h1
 exact fnD_k (cfg_ok w0) h0 (cs := []) trivial (fd := fnOf Tryz.f158) rfl (n := 40) (run158' s h2)
end
end Go.Proofs.YthcpfignhalffaaGreatDoor
namespace Go.Proofs.YthcpfignhalffaaGreatDoor
open Go Go.Am Go.RowKit
set_option maxRecDepth 100000
variable {w0 : World}
noncomputable section
def decC (s : ByteArray) (pos : Nat) : Int := (((Utf8.decode s pos).1 : Nat) : Int)
def nxN (n c : Int) : Int := IntKind.i64.wrap (IntKind.i64.wrap (10 * n) + IntKind.i64.wrap (IntKind.i32.wrap (c - 48)))
def scan : List UInt8 → Int → Int × Bool
 | [], n => (n, false)
 | b :: l, n => bif decide (((b.toNat : Nat) : Int) < 48) || decide (((b.toNat : Nat) : Int) > 57) then (n, true) else scan l (10 * n + (b.toNat - 48))
def num0 (l : List UInt8) (dg : Int) : Bool := decide (l.length = 0) || (decide ((l.length : Int) > dg) || (decide (l.length > 1) && l.head? == some 48))
def numL (l : List UInt8) (dg : Int) : Int × Bool := bif num0 l dg then (0, true) else scan l 0
theorem drop_get {s : ByteArray} {i : Nat} (h : i < s.size) : (bl s).drop i = s.get! i :: (bl s).drop (i + 1) := by
 have h' : i < (bl s).length := by rw [bl_len]; exact h
 rw [List.drop_eq_getElem_cons h']
 congr 1
 have h2 : i < s.data.size := h
 show s.data.toList[i] = s.get! i
 rw [Array.getElem_toList]
 show s.data[i] = s.data[i]!
 rw [getElem!_pos s.data i h2]
theorem pow_mono {a b : Nat} (h : a ≤ b) : (10 : Int) ^ a ≤ 10 ^ b := by
 have : (10 : Nat) ^ a ≤ 10 ^ b := Nat.pow_le_pow_right (by omega) h
 exact_mod_cast this
section
variable {α : Type} (z y : α) (s : ByteArray) (k : Int → α)
def ciE (y : α) (next : Nat → Int → α) (pos : Nat) (n : Int) : α := bif Nat.blt pos s.size then bif decide (decC s pos < 48) then y else bif decide (decC s pos > 57) then y else bif decide (((s.size : Nat) : Int) > 14) then y else next (pos + (Utf8.decode s pos).2) (nxN n (decC s pos)) else k n
def chi : Nat → Nat → Int → α
 | 0 => ciE s k z (ciE s k z fun _ _ => z)
 | R + 1 => fun pos n => bif Nat.blt pos s.size then bif decide (decC s pos < 48) then y else bif decide (decC s pos > 57) then y else bif decide (((s.size : Nat) : Int) > 14) then y else chi R (pos + (Utf8.decode s pos).2) (nxN n (decC s pos)) else k n
end
abbrev OD := Option D
theorem chi_f {α : Type} (z y : α) (s : ByteArray) (k : Int → α) : ∀ (R pos : Nat) (n : Int), s.size - pos ≤ R → pos ≤ s.size → s.size ≤ 14 → 0 ≤ n → n < 10 ^ pos → chi z y s k R pos n = bif (scan ((bl s).drop pos) n).2 then y else k (scan ((bl s).drop pos) n).1
 | R, pos, n, h, hp, h9, hn0, hn => by
   rcases Nat.lt_or_ge pos s.size with hlt | hge
   ·cases R with
    | zero => omega
    | succ R =>
      rw [drop_get hlt]
      have hb : Nat.blt pos s.size = true := by rw [Nat.blt_eq]; exact hlt
      unfold chi scan
      rw [hb, decide_eq_false (show ¬ ((s.size : Nat) : Int) > 14 by omega)]
      simp only [cond_true, cond_false]
      have hp15 : (10 : Int) ^ pos ≤ 10 ^ 14 := pow_mono (by omega)
      by_cases hc : (s.get! pos).toNat < 128
      ·have hd := dec_small hc
       unfold decC
       rw [hd]
       simp only
       cases h1 : decide (((s.get! pos).toNat : Int) < 48) with
       | true => rfl
       | false =>
         cases h2 : decide (((s.get! pos).toNat : Int) > 57) with
         | true => rfl
         | false =>
           simp only [Bool.or_false, cond_false]
           have h1 := of_decide_eq_false h1
           have h2 := of_decide_eq_false h2
           have e : nxN n ((s.get! pos).toNat : Int) = 10 * n + ((s.get! pos).toNat - 48) := by
            unfold nxN
            rw [show IntKind.i32.wrap (((s.get! pos).toNat : Int) - 48) = ((s.get! pos).toNat : Int) - 48 from IntWalk.i32_in _ ⟨by omega, by omega⟩, W_id (n := 10 * n) (by omega) (by omega), W_id (n := ((s.get! pos).toNat : Int) - 48) (by omega) (by omega), W_id (by omega) (by omega)]
           rw [e]
           refine chi_f z y s k R (pos + 1) _ (by omega) (by omega) h9 (by omega) ?_
           rw [Int.pow_succ]
           omega
      ·have hd := dec_big hc
       have e1 : decide (decC s pos < 48) = false := decide_eq_false (by unfold decC; omega)
       have e2 : decide (decC s pos > 57) = true := decide_eq_true (by unfold decC; omega)
       rw [e1, e2, decide_eq_true (show ((s.get! pos).toNat : Int) > 57 by omega), Bool.or_true]
       rfl
   ·have hb : Nat.blt pos s.size = false := by cases hb : Nat.blt pos s.size with | false => rfl | true => rw [Nat.blt_eq] at hb; omega
    rw [List.drop_eq_nil_of_le (by rw [bl_len]; exact hge)]
    cases R with
    | zero => unfold chi ciE; rw [hb]; rfl
    | succ R => unfold chi; rw [hb]; rfl
theorem chi_long {α : Type} (z y : α) (s : ByteArray) (k : Int → α) (R : Nat) (h9 : 14 < s.size) (n : Int) : chi z y s k (R + 1) 0 n = y := by
 unfold chi
 rw [show Nat.blt 0 s.size = true by rw [Nat.blt_eq]; omega, decide_eq_true (show ((s.size : Nat) : Int) > 14 by omega)]
 cases decide (decC s 0 < 48) <;> cases decide (decC s 0 > 57) <;> rfl
theorem get0_eq {s : ByteArray} (h : 0 < s.size) : ((bl s).head? == some 48) = (((((s.get! (Int.toNat 0)).toNat : Nat) : Int)) == 48) := by
 have hd := drop_get (s := s) (i := 0) h
 rw [List.drop_zero] at hd
 rw [hd, show Int.toNat 0 = 0 from rfl]
 show (s.get! 0 == 48) = _
 cases hx : (s.get! 0 == 48) with
 | true => rw [eq_of_beq hx]; rfl
 | false =>
   symm
   rw [beq_eq_false_iff_ne] at hx ⊢
   intro e
   exact hx (UInt8.toNat_inj.1 (by show (s.get! 0).toNat = 48; omega))
def mtL : ByteArray := ⟨#[]⟩
def r0I : OD := some (.tup [I 0, Bo false])
def id0 (s : ByteArray) : Bool := decide ((0 : Int) ≤ 0) && decide ((0 : Int) < s.size)
def kI (s : ByteArray) (n : Int) : OD := bif !(s.toList == mtL.toList) then bif ((s.size : Nat) : Int) == 1 then some (.tup [I n, Bo true]) else bif id0 s then some (.tup [I n, Bo ((((s.get! (Int.toNat 0)).toNat : Nat) : Int) != 48)]) else none else some (.tup [I n, Bo false])
theorem run195 (s : ByteArray) : bodyK ((cfg w0).at []) 30 (fnOf Tryz.f195) [St_ s] = chi none r0I s (kI s) 16 0 0 := by kernel_rfl
def intL (l : List UInt8) : Int × Bool := bif (scan l 0).2 || decide (l.length > 14) then (0, false) else ((scan l 0).1, !(num0 l 14))
theorem kI_eq (s : ByteArray) (h : s.size ≤ 14) (n : Int) : kI s n = some (.tup [I n, Bo (!(num0 (bl s) 14))]) := by
 unfold kI num0
 rw [bl_len, show (s.toList == mtL.toList) = decide (s.size = 0) from empty_bytes s, decide_eq_false (show ¬ ((s.size : Nat) : Int) > 14 by omega)]
 by_cases h0 : s.size = 0
 ·rw [decide_eq_true h0]; rfl
 ·rw [decide_eq_false h0]
  by_cases h1 : s.size = 1
  ·rw [h1]; rfl
  ·rw [show (((s.size : Nat) : Int) == 1) = false by rw [beq_eq_false_iff_ne]; omega, show id0 s = true by unfold id0; rw [decide_eq_true (show (0 : Int) ≤ 0 by omega), decide_eq_true (show (0 : Int) < s.size by omega)]; rfl, decide_eq_true (show s.size > 1 by omega), get0_eq (show 0 < s.size by omega)]
   rfl
theorem run195' (s : ByteArray) : bodyK ((cfg w0).at []) 30 (fnOf Tryz.f195) [St_ s] = some (.tup [I (intL (bl s)).1, Bo (intL (bl s)).2]) := by
 rw [run195]
 unfold intL
 by_cases h9 : 14 < s.size
 ·rw [chi_long none r0I s _ 15 h9, bl_len, decide_eq_true (show s.size > 14 from h9), Bool.or_true]
  rfl
 ·rw [chi_f none r0I s _ 16 0 0 (by omega) (by omega) (by omega) (Int.le_refl _) (by decide), List.drop_zero, kI_eq s (by omega), bl_len, decide_eq_false (show ¬ s.size > 14 by omega), Bool.or_false]
  cases (scan (bl s) 0).2 <;> rfl
def c195 : Ct := ct 195 [.c .str] fun a => .leaf (.tup [I (intL (bl a.1)).1, Bo (intL (bl a.1)).2])
theorem gd195 (h0 : Lib0 w0) : Gd (cfg w0) c195 := gd_k h0 (cs := []) trivial (fd := fnOf Tryz.f195) rfl (n := 30) fun a d hd => by
 obtain ⟨s, u⟩ := a
 cases hd
 exact run195' s
theorem intL_num (l : List UInt8) : (intL l).2 = !(numL l 14).2 ∧ ((intL l).2 = true → (intL l).1 = (numL l 14).1) := by
 unfold intL numL
 cases hn : num0 l 14 with
 | true =>
   cases hb : ((scan l 0).2 || decide (l.length > 14)) <;> exact ⟨rfl, fun h => by cases h⟩
 | false =>
   have hl : decide (l.length > 14) = false := by
    unfold num0 at hn
    simp only [Bool.or_eq_false_iff, decide_eq_false_iff_not] at hn
    exact decide_eq_false (by have := hn.2.1; omega)
   rw [hl, Bool.or_false]
   cases hs : (scan l 0).2 with
   | true => exact ⟨by simp only [cond_true, cond_false]; rw [hs]; rfl, fun h => by cases h⟩
   | false => exact ⟨by simp only [cond_false]; rw [hs], fun _ => rfl⟩
end
end Go.Proofs.YthcpfignhalffaaGreatDoor
namespace Go.Proofs.YthcpfignhalffaaGreatDoor
open Go Go.Am Go.RowKit
set_option maxRecDepth 100000
variable {w0 : World}
noncomputable section
def ob0 (lo n : Nat) (wr : Bool) : AObj := .row [.slice (some ⟨K0 + 1, 2, some lo⟩) n 1, .bool wr] true none
def inM (m : Nat) : Bool := Nat.beq 1 1 && (decide ((0 : Int) ≤ 0) && decide ((0 : Int) < (m : Nat)))
def cutM (m : Nat) : Bool := decide ((0 : Int) ≤ 1) && (decide ((1 : Int) ≤ (m : Nat)) && decide (((m : Nat) : Int) ≤ (m : Nat)))
abbrev VO := Option (Value × AObj)
def gVs (b : Bool) (k : VO) : VO := bif b then k else none
def wrd (l : SLs) (lo : Nat) : ByteArray := (nth l (Int.toNat 0 + lo)).1
theorem q_run {g : FuncId} {fd : AFn} {C : Cfg} (ok : CfgOk C) (sp : SpecOK C) (hfd : C.fn g = some fd) {f : Nat} {argv : List Value} {h : Heap} {v : Value} {o : AObj}
  (hq : bodyGo C (none : VO) (evK C (none : VO) f) fd argv h (fun v h => some (v, h.at K0)) = some (v, o)) : ∃ h', CallI C g argv h v h' ∧ h'.at K0 = o := by
 have hE : OkE (z := (none : VO)) (ev C f) (evK C none f) := evK_eq f
 rw [bodyGo_eq hE] at hq
 cases hc : callBody C (ev C f) fd argv h with
 | none => rw [hc] at hq; cases hq
 | some p =>
   obtain ⟨v', h'⟩ := p
   rw [hc] at hq
   have hq : some (v', h'.at K0) = some (v, o) := hq
   cases hq
   exact ⟨h', callBody_sound (C := C) ok (ev_sound ok sp f) (g := g) (fd := fd) hfd hc, rfl⟩
theorem okm_sub (lo n : Nat) (wr : Bool) : ∀ c ∈ [Value.slice (some ⟨K0 + 1, 2, some lo⟩) n 1, Value.bool wr], okm c = true := fun c hc => by
 simp only [List.mem_cons, List.not_mem_nil, or_false] at hc
 rcases hc with rfl | rfl <;> rfl
theorem two_cells {P : Nat → Value → Prop} {a b : Value} (h0 : P 0 a) (h1 : P 1 b) : ∀ (j : Nat) (c : Value), [a, b][j]? = some c → P j c := fun j c hj => by
 match j, hj with
 | 0, hj => cases hj; exact h0
 | 1, hj => cases hj; exact h1
 | j + 2, hj => simp at hj
theorem callI_part {C : Cfg} {g : FuncId} {argv : List Value} {h h1 : Heap} {v : Value} {b bw o lo n : Nat} {wr : Bool} (hb : h.at b = .row [.slice (some ⟨bw, o, some lo⟩) n 1, .bool wr] true none)
  (H : CallI C g argv (h.put b (.row [.slice (some ⟨bw, 2, some lo⟩) n 1, .bool wr] true none)) v h1) : CallI C g argv h v h1 :=
 CallI.before H hb rfl fun r _ _ => two_cells (P := fun j c' => ∃ c, [Value.slice (some ⟨bw, o, some lo⟩) n 1, Value.bool wr][j]? = some c ∧ ∀ u, VR r c u → VR r c' u) ⟨_, rfl, fun _ hu => hu.part⟩ ⟨_, rfl, fun _ hu => hu⟩
def isN (l : SLs) (lo : Nat) : Int × Bool := intL (bl (wrd l lo))
def nmB (l : SLs) (lo : Nat) (wr : Bool) : Bool := bif wr then true else !(isN l lo).2
def t160 (l : SLs) (lo n : Nat) (wr : Bool) : VO := gVs (inM n) (gVs (cutM n) (bif wr then some (.int .i64 (isN l lo).1, ob0 (lo + Int.toNat 1) (((n : Nat) : Int).toNat - Int.toNat 1) true) else some (.int .i64 (isN l lo).1, ob0 (lo + Int.toNat 1) (((n : Nat) : Int).toNat - Int.toNat 1) (!(isN l lo).2))))
def q160 (w0 : World) (f : Nat) (l : SLs) (lo n : Nat) (wr : Bool) : VO := bodyGo ((cfg w0).at [c195]) none (evK ((cfg w0).at [c195]) none f) (fnOf Tryz.f160) [.pointer (some ⟨K0, 0, none⟩)] [ob0 lo n wr, .vec sK1 l false] fun v h => some (v, h.at K0)
theorem run160 (l : SLs) (lo n : Nat) (wr : Bool) : q160 w0 36 l lo n wr = t160 l lo n wr := by kernel_rfl
def nmH : List Value → Heap → FT (Value × Heap) := fun argv h =>
 match argv with
 | [.pointer (some ⟨b, 0, none⟩)] => match h.at b with
   | .row [.slice (some ⟨bw, _, some lo⟩) n 1, .bool wr] true none => match h.at bw with
     | .vec ks l _ => match recast ks sK1 l with
       | some l => .br (Nat.blt 0 n) (.leaf (.int .i64 (isN l lo).1, h.put b (.row [.slice (some ⟨bw, 2, some (lo + 1)⟩) (n - 1) 1, .bool (nmB l lo wr)] true none))) .bad
       | none => .bad
     | _ => .bad
   | _ => .bad
 | _ => .bad
def nmC : Nat × (List Value → Heap → FT (Value × Heap)) := (160, nmH)
theorem t160_eq (l : SLs) (lo n : Nat) (wr : Bool) (hn : 0 < n) : t160 l lo n wr = some (.int .i64 (isN l lo).1, ob0 (lo + 1) (n - 1) (nmB l lo wr)) := by
 have e1 : inM n = true := by unfold inM; rw [decide_eq_true (show (0 : Int) ≤ 0 by omega), decide_eq_true (show (0 : Int) < (n : Nat) by omega)]; rfl
 have e2 : cutM n = true := by unfold cutM; rw [decide_eq_true (show (0 : Int) ≤ 1 by omega), decide_eq_true (show (1 : Int) ≤ (n : Nat) by omega), decide_eq_true (show ((n : Nat) : Int) ≤ (n : Nat) by omega)]; rfl
 unfold t160 nmB gVs
 rw [e1, e2, Int.toNat_natCast]
 cases wr <;> rfl
theorem gdH160 (h0 : Lib0 w0) : GdH (cfg w0) nmC := fun argv h v h' hd => by
 replace hd : (nmH argv h).run = some (v, h') := hd
 unfold nmH at hd
 split at hd
 ·rename_i b
  split at hd
  ·rename_i bw o' lo n wr hb
   split at hd
   ·rename_i ks l o hw
    split at hd
    ·rename_i l' hl
     obtain ⟨e, hl'⟩ := recast_eq hl
     subst e
     cases hl'
     cases hn : Nat.blt 0 n with
     | false => rw [hn] at hd; cases hd
     | true =>
     rw [hn] at hd
     cases hd
     rw [Nat.blt_eq] at hn
     obtain ⟨kb, lb⟩ := at_lt (h := h) (b := b) (by rw [hb]; rfl)
     have hne : bw ≠ b := fun e => by rw [e, hb] at hw; cases hw
     refine callI_part (o := o') hb ?_
     have hb2 : (h.put b (.row [.slice (some ⟨bw, 2, some lo⟩) n 1, .bool wr] true none)).at b = .row ([.slice (some ⟨K0 + 1, 2, some lo⟩) n 1, .bool wr].map (lft bw)) true none := by rw [at_put kb lb, if_pos rfl]; rfl
     have hw2 : (h.put b (.row [.slice (some ⟨bw, 2, some lo⟩) n 1, .bool wr] true none)).at bw = .vec sK1 l o := by rw [at_put kb lb, if_neg hne]; exact hw
     obtain ⟨h1, hI, hat⟩ := q_run (at_ok (cfg_ok w0) [c195]) (at_sp h0 (cs := [c195]) ⟨gd195 h0, trivial⟩) (g := 160) (fd := fnOf Tryz.f160) rfl (f := 36) ((run160 (w0 := w0) l lo n wr).trans (t160_eq l lo n wr hn))
     have hI : CallI (cfg w0) 160 [.pointer (some ⟨K0, 0, none⟩)] [ob0 lo n wr, .vec sK1 l false] (.int .i64 (isN l lo).1) h1 := CallI.sy.1 hI
     have := callI_meth (C := cfg w0) (cells' := [.slice (some ⟨K0 + 1, 2, some (lo + 1)⟩) (n - 1) 1, .bool (nmB l lo wr)]) hb2 hw2 (okm_sub lo n wr) (okm_sub _ _ _) (avs := []) (fun a ha => by cases ha) rfl rfl hI hat
     rwa [put_put] at this
    ·cases hd
   ·cases hd
  ·cases hd
 ·cases hd
end
end Go.Proofs.YthcpfignhalffaaGreatDoor
