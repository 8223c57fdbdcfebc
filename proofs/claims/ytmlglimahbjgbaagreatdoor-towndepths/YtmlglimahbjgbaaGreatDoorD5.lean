/-
  For every list of walls, every three spots and every square that the card's types allow, the law TownDepths of the given program returns true; it has no premise.
-/
import Derived.Test.YtmlglimahbjgbaaGreatDoorD4
import Derived.Test.YtmlglimahbjgbaaGreatDoorCards
import Derived.Test.YtmlglimahbjgbaaGreatDoorTie
import Derived.SevenTiedAt
namespace Go.Proofs.YtmlglimahbjgbaaGreatDoor
open Go
set_option maxRecDepth 100000

/-- The tied card of TownDepths. -/
theorem townDepths_card : Rows.TownDepthsCardSaid :=
  Claim7.holds_tied_plain_at .later [] [.data, .data, .data, .funcs] true Rows.townDepthsCard.stood.harness false
    townDepths_row (fun _ h => by cases h) (by kernel_rfl) (fun _ h => by cases h) townDepths_row_tie rfl ⟨rfl, rfl⟩ (by kernel_rfl) rfl
    (fun f fn hf hfn => by
      obtain rfl : f = 4 := Option.some.inj ((show Tryz.prog.funcNamed Rows.townDepthsRow.func = some 4 by kernel_rfl).symm.trans hf) |>.symm
      obtain rfl : fn = Tryz.f4 := (Option.some.inj (Tryz.func4.symm.trans hfn)).symm
      exact ⟨by kernel_rfl, fun j t ht => by
        rw [Tryz.params4] at ht
        have hm : t ∈ [52, 53, 3] := by simpa using Array.mem_of_getElem? ht
        have hall : ([52, 53, 3].all fun u => !Tryz.prog.wantsStandIn u) = true := by kernel_rfl
        exact (show Tryz.prog.wantsStandIn t = false by simpa using List.all_eq_true.1 hall t hm)⟩)
    (by kernel_rfl)
#print axioms townDepths_card
end Go.Proofs.YtmlglimahbjgbaaGreatDoor
