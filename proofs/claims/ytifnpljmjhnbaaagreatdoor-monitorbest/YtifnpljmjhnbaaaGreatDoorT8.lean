/-
 A part of the proof of the statement that the claim names: see the last file.
-/
import Derived.Test.YtifnpljmjhnbaaaGreatDoorT4
import Derived.Test.YtifnpljmjhnbaaaGreatDoorT6
import Derived.Test.YtifnpljmjhnbaaaGreatDoorT7
namespace Go.Proofs.YtifnpljmjhnbaaaGreatDoor
open Go Go.Am
set_option maxRecDepth 100000
variable {w0 : World}
noncomputable section
def bx (a b : TLi) : D := .obox [.vec intK a,.vec intK b]
end
end Go.Proofs.YtifnpljmjhnbaaaGreatDoor
namespace Go.Proofs.YtifnpljmjhnbaaaGreatDoor
open Go Go.Am
set_option maxRecDepth 100000
variable {w0 : World}
noncomputable section
theorem shortP_few {l : List (Tup evK)} {p : List (Tup paK)} {s : Int} (h : shortP p = true) : p.length ≤ 4 ∨ (allZ l p s != 0) = true := by
 unfold shortP at h
 simp only [Bool.and_eq_true,Bool.or_eq_true,decide_eq_true_eq,beq_iff_eq] at h
 rcases h.2 with h | h
 ·left; omega
 ·right
  have : chkPa p = 5 := by
   unfold chkPa
   rw [decide_eq_true (by omega)]; rfl
  unfold allZ firstZ firstZ
  rw [this]
  cases hc : (chkEv l != 0) with
  | true => simpa using hc
  | false => rfl
end
end Go.Proofs.YtifnpljmjhnbaaaGreatDoor
