/-
  For every list of walls, every path and every index, the law TownMirrors of the given program returns true; it has no premise.
-/
import Derived.Test.YtmlglimahbjgbaaGreatDoorM8
import Derived.Test.YtmlglimahbjgbaaGreatDoorCards
import Derived.Test.YtmlglimahbjgbaaGreatDoorTie
import Derived.SevenTiedAt
namespace Go.Proofs.YtmlglimahbjgbaaGreatDoor
open Go
set_option maxRecDepth 100000

/-- The tied card of TownMirrors. -/
theorem townMirrors_card : Rows.TownMirrorsCardSaid :=
  Claim7.holds_tied_plain_at .later [] [.data, .data, .data, .funcs] true Rows.townMirrorsCard.stood.harness false
    townMirrors_row (fun _ h => by cases h) (by kernel_rfl) (fun _ h => by cases h) townMirrors_row_tie rfl ⟨rfl, rfl⟩ (by kernel_rfl) rfl
    (fun f fn hf hfn => by
      obtain rfl : f = 6 := Option.some.inj ((show Tryz.prog.funcNamed Rows.townMirrorsRow.func = some 6 by kernel_rfl).symm.trans hf) |>.symm
      obtain rfl : fn = Tryz.f6 := (Option.some.inj (Tryz.func6.symm.trans hfn)).symm
      exact ⟨by kernel_rfl, fun j t ht => by
        rw [Tryz.params6] at ht
        have hm : t ∈ [52, 28, 3] := by simpa using Array.mem_of_getElem? ht
        have hall : ([52, 28, 3].all fun u => !Tryz.prog.wantsStandIn u) = true := by kernel_rfl
        exact (show Tryz.prog.wantsStandIn t = false by simpa using List.all_eq_true.1 hall t hm)⟩)
    (by kernel_rfl)
#print axioms townMirrors_card
end Go.Proofs.YtmlglimahbjgbaaGreatDoor
