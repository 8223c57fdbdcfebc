/-
 ContourGrows of flyoverlaw06 returns true for every input: the tied card of the given statement. No conditions.
-/
import Derived.Test.YthcpfignhalffaaGreatDoorPs
import Derived.Test.YthcpfignhalffaaGreatDoorCards
import Derived.Test.YthcpfignhalffaaGreatDoorTie
import Derived.SevenTiedAt
namespace Go.Proofs.YthcpfignhalffaaGreatDoor
open Go
set_option maxRecDepth 100000
theorem contourGrows_card : Rows.ContourGrowsCardSaid :=
 Claim7.holds_tied_plain_at .later [] [.data, .data, .data, .data, .data] true Rows.contourGrowsCard.stood.harness false
  contourGrows_row (fun _ h => by cases h) (by kernel_rfl) (fun _ h => by cases h) contourGrows_row_tie rfl ⟨rfl, rfl⟩ (by kernel_rfl) rfl
  (fun f fn hf hfn => by
   obtain rfl : f = 6 := Option.some.inj ((show Tryz.prog.funcNamed Rows.contourGrowsRow.func = some 6 by kernel_rfl).symm.trans hf) |>.symm
   obtain rfl : fn = Tryz.f6 := (Option.some.inj (Tryz.func6.symm.trans hfn)).symm
   exact ⟨by kernel_rfl, fun j t ht => by
    rw [Tryz.params6] at ht
    have hm : t ∈ [77, 58, 106] := by simpa using Array.mem_of_getElem? ht
    have hall : ([77, 58, 106].all fun u => !Tryz.prog.wantsStandIn u) = true := by kernel_rfl
    exact (show Tryz.prog.wantsStandIn t = false by simpa using List.all_eq_true.1 hall t hm)⟩)
  (by kernel_rfl)
#print axioms contourGrows_card
end Go.Proofs.YthcpfignhalffaaGreatDoor
