/-
 A part of the proof of the statement that the claim names: see the last file.
-/
import Derived.Test.YtmlglimahbjgbaaGreatDoorT4
import Derived.Test.YtmlglimahbjgbaaGreatDoorT6
namespace Go.Proofs.YtmlglimahbjgbaaGreatDoor
open Go Go.Am Go.RowKit
set_option maxRecDepth 100000
theorem digs_eq : ∀ (f n : Nat) (acc : List UInt8), n < 10 ^ (f + 1) → digs (f + 1) n acc = Lib.decDigits n ++ acc
 | 0, n, acc, h => by
   unfold digs
   rw [Lib.decDigits]
   have hn : n < 10 := by simpa using h
   have hb : Nat.blt n 10 = true := by rw [Nat.blt_eq]; exact hn
   rw [hb, dif_pos hn]; rfl
 | f + 1, n, acc, h => by
   unfold digs
   rw [Lib.decDigits]
   split
   ·rename_i hb
    rw [Nat.blt_eq] at hb
    rw [dif_pos hb]; rfl
   ·rename_i hb
    have hb' : ¬ n < 10 := fun h => by rw [← Nat.blt_eq] at h; rw [hb] at h; cases h
    rw [dif_neg hb', digs_eq f (n / 10) _ (by rw [Nat.pow_succ] at h; omega)]
    simp
theorem itoaL_eq {n : Int} (h1 : -9223372036854775808 ≤ n) (h2 : n ≤ 9223372036854775807) : itoaL n = Lib.itoa n := by
 unfold Lib.itoa
 have e20 : (10 : Nat) ^ 20 = 100000000000000000000 := by decide
 cases n with
 | ofNat m =>
   have hm : ¬ ((Int.ofNat m : Int) < 0) := by simp
   rw [if_neg hm]
   show digs 20 m [] = _
   rw [digs_eq 19 m [] (by rw [e20]; have : (m : Int) ≤ 9223372036854775807 := h2; omega)]
   simp
 | negSucc m =>
   have hm : (Int.negSucc m : Int) < 0 := Int.negSucc_lt_zero m
   rw [if_pos hm]
   show 45 :: digs 20 (m + 1) [] = _
   rw [digs_eq 19 (m + 1) [] (by rw [e20]; have : -9223372036854775808 ≤ Int.negSucc m := h1; omega)]
   simp
theorem below_grow (w : World) (k : Nat) (os : Array Obj) : Below w.heap.size w (Go.Sort.grow (w.drewN k) os) :=
 ⟨rfl, rfl, rfl, by simp [Go.Sort.grow], fun i hi => by simp [Go.Sort.grow, Array.getElem?_append, hi]⟩
theorem itoa_fn {w0 : World} (hT : ∀ w : World, (∀ k, k < 7 → w.heap[k]? = w0.heap[k]?) → ∀ n : Int, -9223372036854775808 ≤ n → n ≤ 9223372036854775807 →
  Calls Tryz.prog 150 #[.int .i64 n] w fun e w' => e = .returned (.string ⟨(Lib.itoa n).toArray⟩) ∧ ∃ k os, w' = Go.Sort.grow (w.drewN k) os) (ds : List D) (d : D) (h : itoaF ds = some d) : FnD (cfg w0) 150 ds d := by
 unfold itoaF at h
 split at h
 ·rename_i n
  split at h
  ·rename_i hb
   simp only [Bool.and_eq_true, decide_eq_true_eq] at hb
   cases h
   refine FnD.scal (vs := [.int .i64 n]) (by simp [scal]) rfl fun w hw => ?_
   refine (hT w (fun k hk => hw.1.2 k hk) n hb.1 hb.2).mono fun e w' ⟨h1, k, os, h2⟩ => ⟨?_, ?_⟩
   ·rw [itoaL_eq hb.1 hb.2]; exact h1
   ·rw [h2]; exact below_grow w k os
  ·cases h
 ·cases h
theorem strsOf_inv : ∀ {ds : List D} {ss : List ByteArray}, strsOf ds = some ss → ds = ss.map fun x => .val (.string x)
 | [], ss, h => by simp [strsOf] at h; subst h; rfl
 | d :: ds, ss, h => by
   unfold strsOf at h
   split at h
   ·rename_i e; cases e
   ·rename_i s ds' e
    cases e
    cases hr : strsOf ds with
    | none => simp [hr] at h
    | some ts =>
      simp [hr] at h
      subst h
      rw [strsOf_inv hr]; rfl
   ·cases h
theorem joinB_eq (sep : List UInt8) : ∀ (xs : List (List UInt8)), joinB sep xs = Lib.join xs sep
 | [] => rfl
 | [x] => by rw [Lib.join_one]; rfl
 | x :: y :: r => by
   rw [Lib.join_cons]
   show x ++ (sep ++ joinB sep (y :: r)) = _
   rw [joinB_eq sep (y :: r), Lib.join_cons]
   simp [Lib.joinTail]
theorem join_fn {w0 : World} (ds : List D) (d : D) (h : joinF ds = some d) : FnD (cfg w0) 148 ds d := by
 unfold joinF at h
 split at h
 ·rename_i n sz cs sep
  cases hs : strsOf cs with
  | none => simp [hs] at h
  | some ss =>
    simp only [hs] at h
    split at h
    ·rename_i hb
     simp only [Bool.and_eq_true, Nat.beq_eq, Nat.ble_eq] at hb
     obtain ⟨⟨⟨e1, e2⟩, e3⟩, e4⟩ := hb
     cases h
     rw [strsOf_inv hs, e1, e2]
     intro w args hw himp
     obtain ⟨bk, o, cap, ea, hbk, hcap, hcells⟩ := imps_strs hw (sep := .string sep) rfl himp
     have ea : args = #[.slice (some ⟨bk, o, none⟩) ss.length cap, .string sep] := by rw [← Array.toArray_toList (xs := args), ea]
     rw [ea]
     have hj : joinL sep ss = Lib.join (ss.map (·.data.toList)) sep.data.toList := joinB_eq _ _
     rw [hj] at e4 ⊢
     exact (Tryz.strings_Join bk o cap ss sep w hcells hbk (by omega) hcap (by omega)).mono fun e w' ⟨h1, h2⟩ => ⟨_, h1, give_below h2 rfl⟩
    ·cases h
 ·cases h
theorem lib0 {w0 : World} (hT : ∀ w : World, (∀ k, k < 7 → w.heap[k]? = w0.heap[k]?) → ∀ n : Int, -9223372036854775808 ≤ n → n ≤ 9223372036854775807 →
  Calls Tryz.prog 150 #[.int .i64 n] w fun e w' => e = .returned (.string ⟨(Lib.itoa n).toArray⟩) ∧ ∃ k os, w' = Go.Sort.grow (w.drewN k) os) : Lib0 w0 := by
 refine ⟨fun g Fn hm ds d hd => ?_, fun g Fn hm => ?_, fun g Fn hm => ?_, fun g Fn hm => ?_⟩
 ·have hm : modeF g = .spec Fn := hm
  unfold modeF at hm
  split at hm
  ·rename_i e; rw [Nat.beq_eq] at e; cases hm; rw [e]; exact join_fn ds d hd
  ·split at hm
   ·rename_i e; rw [Nat.beq_eq] at e; cases hm; rw [e]; exact itoa_fn hT ds d hd
   ·split at hm <;> cases hm
 ·have hm : modeF g = .specG Fn := hm
  unfold modeF at hm
  split at hm
  ·cases hm
  ·split at hm
   ·cases hm
   ·split at hm <;> cases hm
 ·have hm : modeF g = .specT Fn := hm
  unfold modeF at hm
  split at hm
  ·cases hm
  ·split at hm
   ·cases hm
   ·split at hm <;> cases hm
 ·have hm : modeF g = .specH Fn := hm
  unfold modeF at hm
  split at hm
  ·cases hm
  ·split at hm
   ·cases hm
   ·split at hm <;> cases hm
end Go.Proofs.YtmlglimahbjgbaaGreatDoor
