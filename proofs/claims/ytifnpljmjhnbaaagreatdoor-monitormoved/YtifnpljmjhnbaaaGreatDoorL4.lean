/-
  A part of the proof of the statement that the claim names: see the last file.
-/
import Derived.Test.YtifnpljmjhnbaaaGreatDoorL1
namespace Go.Proofs.YtifnpljmjhnbaaaGreatDoor
open Go Go.Am
set_option maxRecDepth 100000
noncomputable section


theorem allS_0 : allS 0 250 = true := by kernel_rfl
theorem allS_250 : allS 250 250 = true := by kernel_rfl
theorem allS_500 : allS 500 250 = true := by kernel_rfl
theorem allS_750 : allS 750 250 = true := by kernel_rfl
theorem allS_1000 : allS 1000 250 = true := by kernel_rfl
theorem allS_1250 : allS 1250 250 = true := by kernel_rfl
theorem allS_1500 : allS 1500 250 = true := by kernel_rfl
theorem allS_1750 : allS 1750 250 = true := by kernel_rfl
theorem allS_2000 : allS 2000 250 = true := by kernel_rfl
theorem allS_2250 : allS 2250 250 = true := by kernel_rfl
theorem allS_2500 : allS 2500 250 = true := by kernel_rfl
theorem allS_2750 : allS 2750 250 = true := by kernel_rfl
theorem allS_3000 : allS 3000 250 = true := by kernel_rfl
theorem allS_3250 : allS 3250 250 = true := by kernel_rfl
theorem allS_3500 : allS 3500 250 = true := by kernel_rfl
theorem allS_3750 : allS 3750 250 = true := by kernel_rfl
theorem allS_4000 : allS 4000 1 = true := by kernel_rfl
theorem allS_get {s n k : Nat} (h : allS s n = true) (h1 : s ≤ k) (h2 : k < s + n) : atS k = true := by
  unfold allS at h
  exact List.all_eq_true.1 h k (List.mem_range'_1.2 ⟨h1, h2⟩)
theorem atS_all (k : Nat) (h : k ≤ 4000) : atS k = true := by
  by_cases h0 : k < 250
  · exact allS_get allS_0 (by omega) (by omega)
  by_cases h250 : k < 500
  · exact allS_get allS_250 (by omega) (by omega)
  by_cases h500 : k < 750
  · exact allS_get allS_500 (by omega) (by omega)
  by_cases h750 : k < 1000
  · exact allS_get allS_750 (by omega) (by omega)
  by_cases h1000 : k < 1250
  · exact allS_get allS_1000 (by omega) (by omega)
  by_cases h1250 : k < 1500
  · exact allS_get allS_1250 (by omega) (by omega)
  by_cases h1500 : k < 1750
  · exact allS_get allS_1500 (by omega) (by omega)
  by_cases h1750 : k < 2000
  · exact allS_get allS_1750 (by omega) (by omega)
  by_cases h2000 : k < 2250
  · exact allS_get allS_2000 (by omega) (by omega)
  by_cases h2250 : k < 2500
  · exact allS_get allS_2250 (by omega) (by omega)
  by_cases h2500 : k < 2750
  · exact allS_get allS_2500 (by omega) (by omega)
  by_cases h2750 : k < 3000
  · exact allS_get allS_2750 (by omega) (by omega)
  by_cases h3000 : k < 3250
  · exact allS_get allS_3000 (by omega) (by omega)
  by_cases h3250 : k < 3500
  · exact allS_get allS_3250 (by omega) (by omega)
  by_cases h3500 : k < 3750
  · exact allS_get allS_3500 (by omega) (by omega)
  by_cases h3750 : k < 4000
  · exact allS_get allS_3750 (by omega) (by omega)
  exact allS_get allS_4000 (by omega) (by omega)
theorem smp_ok {n : Int} (h1 : -2000 ≤ n) (h2 : n ≤ 2000) : smpB n = true ∧ isS (smp n) = true ∧ lvl (smp n) = n := by
  have h := atS_all (n + 2000).toNat (by omega)
  unfold atS at h
  rw [show (((n + 2000).toNat : Nat) : Int) - 2000 = n by omega, Bool.and_eq_true] at h
  obtain ⟨a, b⟩ := h
  have e : ∀ (m : Nat) (k : Nat → Bool), crs m k = k m := fun m k => by cases m <;> rfl
  rw [e, Bool.and_eq_true, beq_iff_eq] at b
  exact ⟨a, b⟩
end
end Go.Proofs.YtifnpljmjhnbaaaGreatDoor
