/-
 MonitorBest: Match and Second return what the reference's search returns, or its errors, for at most four events and four passes, or one too many.
-/
import Derived.Test.YtifnpljmjhnbaaaGreatDoorBj
import Derived.Test.YtifnpljmjhnbaaaGreatDoorCards
import Derived.Test.YtifnpljmjhnbaaaGreatDoorTie
import Derived.SevenTiedAt
namespace Go.Proofs.YtifnpljmjhnbaaaGreatDoor
open Go
set_option maxRecDepth 100000
theorem monitorBest_card : Rows.MonitorBestCardSaid :=
 Claim7.holds_tied_plain_at .later [] [.data,.data,.data,.funcs] true Rows.monitorBestCard.stood.harness false
  monitorBest_row (fun _ h => by cases h) (by kernel_rfl) (fun _ h => by cases h) monitorBest_row_tie rfl ⟨rfl,rfl⟩ (by kernel_rfl) rfl
  (fun f fn hf hfn => by
   obtain rfl : f = 9 := Option.some.inj ((show Tryz.prog.funcNamed Rows.monitorBestRow.func = some 9 by kernel_rfl).symm.trans hf) |>.symm
   obtain rfl : fn = Tryz.f9 := (Option.some.inj (Tryz.func9.symm.trans hfn)).symm
   exact ⟨by kernel_rfl,fun j t ht => by
    rw [Tryz.params9] at ht
    have hm : t ∈ [64,86,3] := by simpa using Array.mem_of_getElem? ht
    have hall : ([64,86,3].all fun u => !Tryz.prog.wantsStandIn u) = true := by kernel_rfl
    exact (show Tryz.prog.wantsStandIn t = false by simpa using List.all_eq_true.1 hall t hm)⟩)
  (by kernel_rfl)
#print axioms monitorBest_card
end Go.Proofs.YtifnpljmjhnbaaaGreatDoor
