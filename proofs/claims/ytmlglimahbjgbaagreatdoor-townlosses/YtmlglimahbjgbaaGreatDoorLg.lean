/-
  For every list of walls, every table and every path, depth and energy, the law TownLosses of the given program returns true; it has no premise.
-/
import Derived.Test.YtmlglimahbjgbaaGreatDoorLf
import Derived.Test.YtmlglimahbjgbaaGreatDoorCards
import Derived.Test.YtmlglimahbjgbaaGreatDoorTie
import Derived.SevenTiedAt
namespace Go.Proofs.YtmlglimahbjgbaaGreatDoor
open Go
set_option maxRecDepth 100000

/-- The tied card of TownLosses. -/
theorem townLosses_card : Rows.TownLossesCardSaid :=
  Claim7.holds_tied_plain_at .later [] [.data, .data, .data, .funcs] true Rows.townLossesCard.stood.harness false
    townLosses_row (fun _ h => by cases h) (by kernel_rfl) (fun _ h => by cases h) townLosses_row_tie rfl ⟨rfl, rfl⟩ (by kernel_rfl) rfl
    (fun f fn hf hfn => by
      obtain rfl : f = 5 := Option.some.inj ((show Tryz.prog.funcNamed Rows.townLossesRow.func = some 5 by kernel_rfl).symm.trans hf) |>.symm
      obtain rfl : fn = Tryz.f5 := (Option.some.inj (Tryz.func5.symm.trans hfn)).symm
      exact ⟨by kernel_rfl, fun j t ht => by
        rw [Tryz.params5] at ht
        have hm : t ∈ [52, 76, 78] := by simpa using Array.mem_of_getElem? ht
        have hall : ([52, 76, 78].all fun u => !Tryz.prog.wantsStandIn u) = true := by kernel_rfl
        exact (show Tryz.prog.wantsStandIn t = false by simpa using List.all_eq_true.1 hall t hm)⟩)
    (by kernel_rfl)
#print axioms townLosses_card
end Go.Proofs.YtmlglimahbjgbaaGreatDoor
