/-
  ContourAreas: the law returns true at every input, and its arguments read as they did.
-/
import Derived.Test.YthcpfignhalffaaGreatDoorP9
import Derived.Test.YthcpfignhalffaaGreatDoorCards
import Derived.Test.YthcpfignhalffaaGreatDoorTie
import Derived.SevenTiedAt
namespace Go.Proofs.YthcpfignhalffaaGreatDoor
open Go
set_option maxRecDepth 100000

theorem contourAreas_card : Rows.ContourAreasCardSaid :=
  Claim7.holds_tied_plain_at .later [] [.data, .data, .data, .data, .data] true Rows.contourAreasCard.stood.harness false
    contourAreas_row (fun _ h => by cases h) (by kernel_rfl) (fun _ h => by cases h) contourAreas_row_tie rfl ⟨rfl, rfl⟩ (by kernel_rfl) rfl
    (fun f fn hf hfn => by
      obtain rfl : f = 4 := Option.some.inj ((show Tryz.prog.funcNamed Rows.contourAreasRow.func = some 4 by kernel_rfl).symm.trans hf) |>.symm
      obtain rfl : fn = Tryz.f4 := (Option.some.inj (Tryz.func4.symm.trans hfn)).symm
      exact ⟨by kernel_rfl, fun j t ht => by
        rw [Tryz.params4] at ht
        have hm : t ∈ [55, 24, 58] := by simpa using Array.mem_of_getElem? ht
        have hall : ([55, 24, 58].all fun u => !Tryz.prog.wantsStandIn u) = true := by kernel_rfl
        exact (show Tryz.prog.wantsStandIn t = false by simpa using List.all_eq_true.1 hall t hm)⟩)
    (by kernel_rfl)
#print axioms contourAreas_card
end Go.Proofs.YthcpfignhalffaaGreatDoor
