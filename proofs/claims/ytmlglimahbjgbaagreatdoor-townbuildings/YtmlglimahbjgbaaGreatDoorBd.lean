/-
  The law of the buildings' walls, turns and sides holds: the card of TownBuildings.
-/
import Derived.Test.YtmlglimahbjgbaaGreatDoorBc
import Derived.Test.YtmlglimahbjgbaaGreatDoorCards
import Derived.Test.YtmlglimahbjgbaaGreatDoorTie
import Derived.SevenTiedAt
namespace Go.Proofs.YtmlglimahbjgbaaGreatDoor
open Go
set_option maxRecDepth 100000

theorem townBuildings_card : Rows.TownBuildingsCardSaid :=
  Claim7.holds_tied_plain_at .later [] [.data, .data, .data, .funcs] true Rows.townBuildingsCard.stood.harness false
    townBuildings_row (fun _ h => by cases h) (by kernel_rfl) (fun _ h => by cases h) townBuildings_row_tie rfl ⟨rfl, rfl⟩ (by kernel_rfl) rfl
    (fun f fn hf hfn => by
      obtain rfl : f = 7 := Option.some.inj ((show Tryz.prog.funcNamed Rows.townBuildingsRow.func = some 7 by kernel_rfl).symm.trans hf) |>.symm
      obtain rfl : fn = Tryz.f7 := (Option.some.inj (Tryz.func7.symm.trans hfn)).symm
      exact ⟨by kernel_rfl, fun j t ht => by
        rw [Tryz.params7] at ht
        have hm : t ∈ [111, 118, 52] := by simpa using Array.mem_of_getElem? ht
        have hall : ([111, 118, 52].all fun u => !Tryz.prog.wantsStandIn u) = true := by kernel_rfl
        exact (show Tryz.prog.wantsStandIn t = false by simpa using List.all_eq_true.1 hall t hm)⟩)
    (by kernel_rfl)
#print axioms townBuildings_card
end Go.Proofs.YtmlglimahbjgbaaGreatDoor
