/-
  ContourGrids: the law returns true at every input, and its arguments read as they did.
-/
import Derived.Test.YthcpfignhalffaaGreatDoorPe
import Derived.Test.YthcpfignhalffaaGreatDoorCards
import Derived.Test.YthcpfignhalffaaGreatDoorTie
import Derived.SevenTiedAt
namespace Go.Proofs.YthcpfignhalffaaGreatDoor
open Go
set_option maxRecDepth 100000

theorem contourGrids_card : Rows.ContourGridsCardSaid :=
  Claim7.holds_tied_plain_at .later [] [.data, .data, .data, .data, .data] true Rows.contourGridsCard.stood.harness false
    contourGrids_row (fun _ h => by cases h) (by kernel_rfl) (fun _ h => by cases h) contourGrids_row_tie rfl ⟨rfl, rfl⟩ (by kernel_rfl) rfl
    (fun f fn hf hfn => by
      obtain rfl : f = 7 := Option.some.inj ((show Tryz.prog.funcNamed Rows.contourGridsRow.func = some 7 by kernel_rfl).symm.trans hf) |>.symm
      obtain rfl : fn = Tryz.f7 := (Option.some.inj (Tryz.func7.symm.trans hfn)).symm
      exact ⟨by kernel_rfl, fun j t ht => by
        rw [Tryz.params7] at ht
        have hm : t ∈ [24, 27, 78] := by simpa using Array.mem_of_getElem? ht
        have hall : ([24, 27, 78].all fun u => !Tryz.prog.wantsStandIn u) = true := by kernel_rfl
        exact (show Tryz.prog.wantsStandIn t = false by simpa using List.all_eq_true.1 hall t hm)⟩)
    (by kernel_rfl)
#print axioms contourGrids_card
end Go.Proofs.YthcpfignhalffaaGreatDoor
