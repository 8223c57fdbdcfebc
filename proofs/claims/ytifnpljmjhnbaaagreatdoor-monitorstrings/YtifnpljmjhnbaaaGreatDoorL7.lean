/-
  A part of the proof of the statement that the claim names: see the last file.
-/
import Derived.Test.YtifnpljmjhnbaaaGreatDoorL6
namespace Go.Proofs.YtifnpljmjhnbaaaGreatDoor
open Go Go.Am Go.RowKit
set_option maxRecDepth 100000
variable {w0 : World}
noncomputable section


theorem nth_map {l : List (List UInt8)} {i : Nat} (h : i < l.length) : (nth (l.map tupS) i).1 = mkB l[i] := by
  unfold nth
  rw [List.getD_eq_getElem?_getD, List.getElem?_map, List.getElem?_eq_getElem h]
  rfl
theorem w0_eq {l : List UInt8} {a : List UInt8} {aa : List (List UInt8)} (h : spl 32 l = a :: aa) : w0L (splW l) = mkB a := by
  unfold w0L splW
  rw [h]
  rfl
theorem one_word {l : List UInt8} (h : Nat.beq (splW l).length 1 = true) : w0L (splW l) = mkB l := by
  rw [Nat.beq_eq] at h
  unfold splW at h
  rw [List.length_map, spl_len] at h
  exact w0_eq (spl_none (by omega))
theorem wd_ne {l : List UInt8} {w : ByteArray} (hw : (bl w).count 32 = 0) (h : Nat.beq (splW l).length 1 = false) : ((mkB l).toList == w.toList) = false := by
  rw [str_eq, bl_mkB]
  cases hx : (l == bl w) with
  | false => rfl
  | true =>
    have : l = bl w := by simpa using hx
    unfold splW at h
    rw [List.length_map, spl_len, this, hw] at h
    cases h
def ln82 (L : SLs) (en : Int) (q : Qz) (ok : Bool) (p : Pz) : Rn' := bif ok then some ([], .normal, st82 L en ⟨p.o, p.k, IntKind.i64.wrap (q.i + 1), q.r, q.e⟩) else rt82 L en q
theorem tl82_eq {L : SLs} {en : Int} {q : Qz} {l : List UInt8} (ho : q.o.length ≤ 5000) (hm : (q.i == 0) = false → misW (splW l) = true → Nat.beq (splW l).length 1 = false) :
    tl82 L en q (splW l) = ln82 L en q (lineOk ⟨q.o, q.i, q.k⟩ true (splW l)) (nxP ⟨q.o, q.i, q.k⟩ l) := by
  have hr : ∀ x : Int, rm80 (q.o ++ [t1 x]) = true := fun x => by
    unfold rm80
    rw [List.length_append, List.length_singleton, (Nat.ble_eq ..).mpr (by omega), (Nat.ble_eq ..).mpr (by omega)]
    rfl
  have hw1 : ∀ dg, nmW (splW l) dg = numL (bl (wd1 (splW l))) dg := fun dg => rfl
  have hw0 : w0L (splW l) = wd0 (splW l) := rfl
  unfold tl82 ln82 nxP lineE lineOk wrB valW rt82 nm82 gN
  simp only [Bool.true_and]
  by_cases h2 : (splW l).length = 2
  · rw [h2, show inL (splW l) 1 = true from inL_nat (j := 1) (by omega), show inL (splW l) 0 = true from inL_nat (j := 0) (by omega), hr]
    rw [show (((2 : Nat) : Int) != 2) = false from rfl, show Nat.beq 2 1 = false from rfl, show Nat.ble 2 2 = true from rfl, show Nat.ble 2 1 = false from rfl]
    simp only [cond_true, cond_false, Bool.and_true]
    rw [hw1, hw1, hw0]
    unfold dgL
    cases hq : (q.i == 0) with
    | true =>
      simp only [cond_true]
      cases (numL (bl (wd1 (splW l))) 9).2 with
      | true => rfl
      | false => cases ((wd0 (splW l)).toList != recB.toList) <;> rfl
    | false =>
      simp only [cond_false]
      cases hmis : misW (splW l) with
      | true =>
        have e : (wd0 (splW l)).toList = misBy.toList := by
          unfold misW at hmis
          rw [hw0] at hmis
          exact eq_of_beq hmis
        simp only [cond_true]
        have hne : ((wd0 (splW l)).toList != secB.toList) = true := by rw [e]; kernel_rfl
        rw [hne]
        cases (numL (bl (wd1 (splW l))) 15).2 <;> rfl
      | false =>
        simp only [cond_false]
        cases (numL (bl (wd1 (splW l))) 15).2 with
        | true => rfl
        | false => cases ((wd0 (splW l)).toList != secB.toList) <;> rfl
  · have hne : (((splW l).length : Int) != 2) = true := by rw [bne_iff_ne]; omega
    rw [hne]
    simp only [cond_true]
    have hpos : 0 < (splW l).length := by unfold splW; rw [List.length_map, spl_len]; omega
    by_cases h1 : (splW l).length = 1
    · rw [h1, show Nat.beq 1 1 = true from rfl]
      simp only [cond_true]
      cases hq : (q.i == 0) with
      | true => rfl
      | false =>
        cases hmis : misW (splW l) with
        | true => have := hm hq hmis; rw [h1] at this; cases this
        | false => rfl
    · have hb2 : Nat.ble (splW l).length 2 = false := by cases hx : Nat.ble (splW l).length 2 with | false => rfl | true => rw [Nat.ble_eq] at hx; omega
      have hb1 : Nat.ble (splW l).length 1 = false := by cases hx : Nat.ble (splW l).length 1 with | false => rfl | true => rw [Nat.ble_eq] at hx; omega
      rw [hb1, hb2, Bool.and_false, Bool.and_false]
      cases (q.i == 0) with
      | true => rfl
      | false => cases misW (splW l) <;> rfl
theorem tree82_eq {P : List (List UInt8)} {q : Qz} {i : Nat} (hi : q.i = (i : Int)) (hlt : i + 1 < P.length) (ho : q.o.length ≤ 5000) (hs : P[i].length ≤ 5000) (hP : P.length ≤ 5000) :
    tree82 (P.map tupS) (((P.length - 1 : Nat) : Int)) q = ln82 (P.map tupS) (((P.length - 1 : Nat) : Int)) q (lineOk ⟨q.o, q.i, q.k⟩ true (splW P[i])) (nxP ⟨q.o, q.i, q.k⟩ P[i]) := by
  have hln : lnL (P.map tupS) q.i = mkB P[i] := by unfold lnL; rw [hi, Int.toNat_natCast, nth_map (by omega)]
  have hsp : splC (cU 32) (mkB P[i]) = splW P[i] := by
    unfold splC splW
    rw [bl_mkB]
    rfl
  have hin : inL (P.map tupS) q.i = true := by rw [hi]; exact inL_nat (by rw [List.length_map]; omega)
  have hsm : smS (mkB P[i]) = true := (Nat.ble_eq ..).mpr (by rw [← bl_len, bl_mkB]; omega)
  have hr : rm80 (q.o ++ [t1 (-1)]) = true := by
    unfold rm80
    rw [List.length_append, List.length_singleton, (Nat.ble_eq ..).mpr (by omega), (Nat.ble_eq ..).mpr (by omega)]
    rfl
  unfold tree82 gN
  rw [decide_eq_true (show q.i < ((P.length - 1 : Nat) : Int) by omega), hin, hln, hsm, hsp, hr, show okU 32 = true by decide]
  simp only [cond_true]
  by_cases h0 : i = 0
  · have hz : (q.i == 0) = true := by rw [hi, h0]; rfl
    rw [decide_eq_false (show ¬ q.i > 0 by omega)]
    exact tl82_eq ho fun h => by rw [hz] at h; cases h
  · have hz : (q.i == 0) = false := by rw [beq_eq_false_iff_ne]; omega
    rw [decide_eq_true (show q.i > 0 by omega)]
    simp only [cond_true]
    cases hw : Nat.beq (splW P[i]).length 1 with
    | true =>
      have h1 := one_word hw
      cases hmis : ((mkB P[i]).toList == misBy.toList) with
      | true =>
        have hm : misW (splW P[i]) = true := by unfold misW; rw [h1]; exact hmis
        have hble : Nat.ble (splW P[i]).length 1 = true := by rw [Nat.beq_eq] at hw; rw [hw]; rfl
        unfold ln82 lineOk nxP lineE
        simp only [hz, hm, hble]
        rfl
      | false =>
        exact tl82_eq ho fun _ hm => by
          unfold misW at hm
          rw [h1, hmis] at hm
          cases hm
    | false =>
      rw [wd_ne (w := misBy) (by decide) hw]
      exact tl82_eq ho fun _ _ => hw
end
end Go.Proofs.YtifnpljmjhnbaaaGreatDoor
