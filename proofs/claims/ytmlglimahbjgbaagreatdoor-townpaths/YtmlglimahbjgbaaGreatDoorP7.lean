/-
  TownPaths of the town returns true at every input, and each of its arguments reads afterwards as it read before. Conditions: the package-level variables that the row lists start as the program's text lays them (the card ties them).
-/
import Derived.Test.YtmlglimahbjgbaaGreatDoorP6
import Derived.Test.YtmlglimahbjgbaaGreatDoorCards
import Derived.Test.YtmlglimahbjgbaaGreatDoorTie
import Derived.SevenTiedAt
namespace Go.Proofs.YtmlglimahbjgbaaGreatDoor
open Go
set_option maxRecDepth 100000

/-- The tied card of TownPaths. -/
theorem townPaths_card : Rows.TownPathsCardSaid :=
  Claim7.holds_tied_plain_at .later [] [.data, .data, .data, .funcs] true Rows.townPathsCard.stood.harness false
    townPaths_row (fun _ h => by cases h) (by kernel_rfl) (fun _ h => by cases h) townPaths_row_tie rfl ⟨rfl, rfl⟩ (by kernel_rfl) rfl
    (fun f fn hf hfn => by
      obtain rfl : f = 3 := Option.some.inj ((show Tryz.prog.funcNamed Rows.townPathsRow.func = some 3 by kernel_rfl).symm.trans hf) |>.symm
      obtain rfl : fn = Tryz.f3 := (Option.some.inj (Tryz.func3.symm.trans hfn)).symm
      exact ⟨by kernel_rfl, fun j t ht => by
        rw [Tryz.params3] at ht
        have hm : t ∈ [25, 28, 23] := by simpa using Array.mem_of_getElem? ht
        have hall : ([25, 28, 23].all fun u => !Tryz.prog.wantsStandIn u) = true := by kernel_rfl
        exact (show Tryz.prog.wantsStandIn t = false by simpa using List.all_eq_true.1 hall t hm)⟩)
    (by kernel_rfl)
#print axioms townPaths_card
end Go.Proofs.YtmlglimahbjgbaaGreatDoor
