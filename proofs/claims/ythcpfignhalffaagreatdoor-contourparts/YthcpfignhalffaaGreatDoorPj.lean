/-
 ContourParts: a valid grid of at most 36 cells, its tile cut and laid over, its levels, its hottest cells and its text; the law of the card holds.
-/
import Derived.Test.YthcpfignhalffaaGreatDoorPi
import Derived.Test.YthcpfignhalffaaGreatDoorCards
import Derived.Test.YthcpfignhalffaaGreatDoorTie
import Derived.SevenTiedAt
namespace Go.Proofs.YthcpfignhalffaaGreatDoor
open Go
set_option maxRecDepth 100000
theorem contourParts_card : Rows.ContourPartsCardSaid :=
 Claim7.holds_tied_plain_at .later [] [.data, .data, .data, .data, .data, .data, .pinned] true Rows.contourPartsCard.stood.harness false
  contourParts_row (fun _ h => by cases h) (by kernel_rfl) (fun _ h => by cases h) contourParts_row_tie rfl ⟨rfl, rfl⟩ (by kernel_rfl) rfl
  (fun f fn hf hfn => by
   obtain rfl : f = 11 := Option.some.inj ((show Tryz.prog.funcNamed Rows.contourPartsRow.func = some 11 by kernel_rfl).symm.trans hf) |>.symm
   obtain rfl : fn = Tryz.f11 := (Option.some.inj (Tryz.func11.symm.trans hfn)).symm
   exact ⟨by kernel_rfl, fun j t ht => by
    rw [Tryz.params11] at ht
    have hm : t ∈ [24, 158] := by simpa using Array.mem_of_getElem? ht
    have hall : ([24, 158].all fun u => !Tryz.prog.wantsStandIn u) = true := by kernel_rfl
    exact (show Tryz.prog.wantsStandIn t = false by simpa using List.all_eq_true.1 hall t hm)⟩)
  (by kernel_rfl)
#print axioms contourParts_card
end Go.Proofs.YthcpfignhalffaaGreatDoor
