/-
  For every input of the statement TownReturns the law returns true, and what it was given reads afterwards as it did: where there are at most 5 valid walls, a valid table, a valid path and an energy up to 1000000000000, both ways of the path are cut and mirrored alike, and what is heard does not depend on the order of the walls; otherwise only the examples are looked at.
-/
import Derived.Test.YtmlglimahbjgbaaGreatDoorLj
import Derived.Test.YtmlglimahbjgbaaGreatDoorCards
import Derived.Test.YtmlglimahbjgbaaGreatDoorTie
import Derived.SevenTiedAt
namespace Go.Proofs.YtmlglimahbjgbaaGreatDoor
open Go
set_option maxRecDepth 100000

/-- The tied card of TownReturns. -/
theorem townReturns_card : Rows.TownReturnsCardSaid :=
  Claim7.holds_tied_plain_at .later [] [.data, .data, .data, .funcs] true Rows.townReturnsCard.stood.harness false
    townReturns_row (fun _ h => by cases h) (by kernel_rfl) (fun _ h => by cases h) townReturns_row_tie rfl ⟨rfl, rfl⟩ (by kernel_rfl) rfl
    (fun f fn hf hfn => by
      obtain rfl : f = 8 := Option.some.inj ((show Tryz.prog.funcNamed Rows.townReturnsRow.func = some 8 by kernel_rfl).symm.trans hf) |>.symm
      obtain rfl : fn = Tryz.f8 := (Option.some.inj (Tryz.func8.symm.trans hfn)).symm
      exact ⟨by kernel_rfl, fun j t ht => by
        rw [Tryz.params8] at ht
        have hm : t ∈ [52, 76, 78] := by simpa using Array.mem_of_getElem? ht
        have hall : ([52, 76, 78].all fun u => !Tryz.prog.wantsStandIn u) = true := by kernel_rfl
        exact (show Tryz.prog.wantsStandIn t = false by simpa using List.all_eq_true.1 hall t hm)⟩)
    (by kernel_rfl)
#print axioms townReturns_card
end Go.Proofs.YtmlglimahbjgbaaGreatDoor
