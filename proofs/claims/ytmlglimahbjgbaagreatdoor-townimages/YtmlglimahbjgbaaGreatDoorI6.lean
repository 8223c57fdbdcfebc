/-
  For every wall and every path, the law TownImages of the given program returns true; it has no premise.
-/
import Derived.Test.YtmlglimahbjgbaaGreatDoorI5
import Derived.Test.YtmlglimahbjgbaaGreatDoorCards
import Derived.Test.YtmlglimahbjgbaaGreatDoorTie
import Derived.SevenTiedAt
namespace Go.Proofs.YtmlglimahbjgbaaGreatDoor
open Go
set_option maxRecDepth 100000

/-- The tied card of TownImages. -/
theorem townImages_card : Rows.TownImagesCardSaid :=
  Claim7.holds_tied_plain_at .later [] [.data, .data, .data, .funcs] true Rows.townImagesCard.stood.harness false
    townImages_row (fun _ h => by cases h) (by kernel_rfl) (fun _ h => by cases h) townImages_row_tie rfl ⟨rfl, rfl⟩ (by kernel_rfl) rfl
    (fun f fn hf hfn => by
      obtain rfl : f = 10 := Option.some.inj ((show Tryz.prog.funcNamed Rows.townImagesRow.func = some 10 by kernel_rfl).symm.trans hf) |>.symm
      obtain rfl : fn = Tryz.f10 := (Option.some.inj (Tryz.func10.symm.trans hfn)).symm
      exact ⟨by kernel_rfl, fun j t ht => by
        rw [Tryz.params10] at ht
        have hm : t ∈ [25, 28] := by simpa using Array.mem_of_getElem? ht
        have hall : ([25, 28].all fun u => !Tryz.prog.wantsStandIn u) = true := by kernel_rfl
        exact (show Tryz.prog.wantsStandIn t = false by simpa using List.all_eq_true.1 hall t hm)⟩)
    (by kernel_rfl)
#print axioms townImages_card
end Go.Proofs.YtmlglimahbjgbaaGreatDoor
