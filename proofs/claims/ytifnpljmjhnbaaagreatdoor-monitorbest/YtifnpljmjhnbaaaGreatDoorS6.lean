/-
 A part of the proof of the statement that the claim names: see the last file.
-/
import Derived.Test.YtifnpljmjhnbaaaGreatDoorS5
namespace Go.Proofs.YtifnpljmjhnbaaaGreatDoor
open Go Go.Am
set_option maxRecDepth 100000
variable {w0 : World}
noncomputable section
theorem firstZ_zero : ∀ {l : List Int},firstZ l = 0 → ∀ e ∈ l,e = 0
 | [],_,e,h => by cases h
 | x :: xs,hz,e,h => by
   unfold firstZ at hz
   obtain ⟨h1,h2⟩ := first_zero hz
   rcases List.mem_cons.1 h with rfl | h
   ·exact h1
   ·exact firstZ_zero h2 e h
theorem ev_ok {e : Tup evK} (h : chkEv [e] = 0) : 0 ≤ ef e ∧ ef e < et e ∧ et e ≤ 100000 ∧ ef e ≤ ea e ∧ ea e ≤ et e - 1 := by
 have h : (bif errI [e] 0 != 0 then errI [e] 0 else 0) = 0 := h
 obtain ⟨h,_⟩ := first_zero h
 obtain ⟨h1,h⟩ := first_zero (show (bif spanE e != 0 then spanE e else bif ovl [e] 0 then 15 else r5 e) = 0 from h)
 obtain ⟨a,b,c⟩ := span_zero h1
 have h : r5 e = 0 := h
 have := within_zero (firstZ_zero h (atE e) (by simp))
 rw [W_id (by omega) (by omega)] at this
 exact ⟨a,b,c,this.1,this.2⟩
end
end Go.Proofs.YtifnpljmjhnbaaaGreatDoor
