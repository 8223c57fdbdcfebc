/-
 A path whose spots a box has is cut by walls within it alone.
-/
import Derived.Test.YtmlglimahbjgbaaGreatDoorWa
import Derived.Test.YtmlglimahbjgbaaGreatDoorCards
import Derived.Test.YtmlglimahbjgbaaGreatDoorTie
import Derived.SevenTiedAt
namespace Go.Proofs.YtmlglimahbjgbaaGreatDoor
open Go
set_option maxRecDepth 100000
theorem townWithin_card : Rows.TownWithinCardSaid :=
 Claim7.holds_tied_plain_at .later [] [.data, .data, .data, .data, .funcs, .pinned] true Rows.townWithinCard.stood.harness false
  townWithin_row (fun _ h => by cases h) (by kernel_rfl) (fun _ h => by cases h) townWithin_row_tie rfl ⟨rfl, rfl⟩ (by kernel_rfl) rfl
  (fun f fn hf hfn => by
   obtain rfl : f = 12 := Option.some.inj ((show Tryz.prog.funcNamed Rows.townWithinRow.func = some 12 by kernel_rfl).symm.trans hf) |>.symm
   obtain rfl : fn = Tryz.f12 := (Option.some.inj (Tryz.func12.symm.trans hfn)).symm
   exact ⟨by kernel_rfl, fun j t ht => by
    rw [Tryz.params12] at ht
    have hm : t ∈ [52, 118, 28] := by simpa using Array.mem_of_getElem? ht
    have hall : ([52, 118, 28].all fun u => !Tryz.prog.wantsStandIn u) = true := by kernel_rfl
    exact (show Tryz.prog.wantsStandIn t = false by simpa using List.all_eq_true.1 hall t hm)⟩)
  (by kernel_rfl)
#print axioms townWithin_card
end Go.Proofs.YtmlglimahbjgbaaGreatDoor
