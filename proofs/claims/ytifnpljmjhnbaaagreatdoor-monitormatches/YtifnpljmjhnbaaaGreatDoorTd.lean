/-
  Unknown, CheckMatch and Bound of the monitor return what the reference returns, for every input: the tied card of MonitorMatches.
-/
import Derived.Test.YtifnpljmjhnbaaaGreatDoorTc
import Derived.Test.YtifnpljmjhnbaaaGreatDoorCards
import Derived.Test.YtifnpljmjhnbaaaGreatDoorTie
import Derived.SevenTiedAt
namespace Go.Proofs.YtifnpljmjhnbaaaGreatDoor
open Go
set_option maxRecDepth 100000

theorem monitorMatches_card : Rows.MonitorMatchesCardSaid :=
  Claim7.holds_tied_plain_at .later [] [.data, .data, .data, .funcs] true Rows.monitorMatchesCard.stood.harness false
    monitorMatches_row (fun _ h => by cases h) (by kernel_rfl) (fun _ h => by cases h) monitorMatches_row_tie rfl ⟨rfl, rfl⟩ (by kernel_rfl) rfl
    (fun f fn hf hfn => by
      obtain rfl : f = 8 := Option.some.inj ((show Tryz.prog.funcNamed Rows.monitorMatchesRow.func = some 8 by kernel_rfl).symm.trans hf) |>.symm
      obtain rfl : fn = Tryz.f8 := (Option.some.inj (Tryz.func8.symm.trans hfn)).symm
      exact ⟨by kernel_rfl, fun j t ht => by
        rw [Tryz.params8] at ht
        have hm : t ∈ [64, 86, 115] := by simpa using Array.mem_of_getElem? ht
        have hall : ([64, 86, 115].all fun u => !Tryz.prog.wantsStandIn u) = true := by kernel_rfl
        exact (show Tryz.prog.wantsStandIn t = false by simpa using List.all_eq_true.1 hall t hm)⟩)
    (by kernel_rfl)
#print axioms monitorMatches_card
end Go.Proofs.YtifnpljmjhnbaaaGreatDoor
