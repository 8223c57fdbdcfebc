/-
 A part of the proof of the statement that the claim names: see the last file.
-/
import Derived.Test.YtifnpljmjhnbaaaGreatDoorM5
import Derived.Test.YtifnpljmjhnbaaaGreatDoorM6
namespace Go.Proofs.YtifnpljmjhnbaaaGreatDoor
open Go Go.Am
set_option maxRecDepth 100000
variable {w0:World}
noncomputable section
theorem within_zero {n lo hi:Int} (h:withinZ n lo hi = 0):lo ≤ n∧n ≤ hi:=by
 unfold withinZ whenZ at h
 cases hb:(decide (n < lo) || decide (n > hi)) with
 | true=>rw [hb] at h;cases h
 | false=>simp only [Bool.or_eq_false_iff,decide_eq_false_iff_not] at hb;omega
theorem first_zero {x y:Int} (h:(bif x != 0 then x else y) = 0):x = 0∧y = 0:=by
 cases hx:(x != 0) with
 | true=>rw [hx] at h;simp only [cond_true] at h;rw [h] at hx;simp at hx
 | false=>rw [hx] at h;exact ⟨by simpa using hx,h⟩
theorem W_id {n:Int} (h1:-9223372036854775808 ≤ n) (h2:n ≤ 9223372036854775807):IntKind.i64.wrap n = n:=by
 rw [IntKind.wrap_i64]
 omega
end
end Go.Proofs.YtifnpljmjhnbaaaGreatDoor
