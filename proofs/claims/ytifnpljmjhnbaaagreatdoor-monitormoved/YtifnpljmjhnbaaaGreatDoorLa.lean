/-
  The tied card of MonitorMoved: a window that is moved around by some samples has its greatest correlation with itself there, and what else the statement says, at 2 to 8 integers and two lags.
-/
import Derived.Test.YtifnpljmjhnbaaaGreatDoorL9
import Derived.Test.YtifnpljmjhnbaaaGreatDoorCards
import Derived.Test.YtifnpljmjhnbaaaGreatDoorTie
import Derived.SevenTiedAt
namespace Go.Proofs.YtifnpljmjhnbaaaGreatDoor
open Go
set_option maxRecDepth 100000

theorem monitorMoved_card : Rows.MonitorMovedCardSaid :=
  Claim7.holds_tied_plain_at .later [] [.data, .data, .data, .funcs] true Rows.monitorMovedCard.stood.harness false
    monitorMoved_row (fun _ h => by cases h) (by kernel_rfl) (fun _ h => by cases h) monitorMoved_row_tie rfl ⟨rfl, rfl⟩ (by kernel_rfl) rfl
    (fun f fn hf hfn => by
      obtain rfl : f = 11 := Option.some.inj ((show Tryz.prog.funcNamed Rows.monitorMovedRow.func = some 11 by kernel_rfl).symm.trans hf) |>.symm
      obtain rfl : fn = Tryz.f11 := (Option.some.inj (Tryz.func11.symm.trans hfn)).symm
      exact ⟨by kernel_rfl, fun j t ht => by
        rw [Tryz.params11] at ht
        have hm : t ∈ [136, 137] := by simpa using Array.mem_of_getElem? ht
        have hall : ([136, 137].all fun u => !Tryz.prog.wantsStandIn u) = true := by kernel_rfl
        exact (show Tryz.prog.wantsStandIn t = false by simpa using List.all_eq_true.1 hall t hm)⟩)
    (by kernel_rfl)
#print axioms monitorMoved_card
end Go.Proofs.YtifnpljmjhnbaaaGreatDoor
