/-
  CheckEvents, CheckPasses, Reasons and Value of the monitor return what the reference returns, for every input: the tied card of MonitorReasons.
-/
import Derived.Test.YtifnpljmjhnbaaaGreatDoorS9
import Derived.Test.YtifnpljmjhnbaaaGreatDoorCards
import Derived.Test.YtifnpljmjhnbaaaGreatDoorTie
import Derived.SevenTiedAt
namespace Go.Proofs.YtifnpljmjhnbaaaGreatDoor
open Go
set_option maxRecDepth 100000

theorem monitorReasons_card : Rows.MonitorReasonsCardSaid :=
  Claim7.holds_tied_plain_at .later [] [.data, .data, .data, .funcs] true Rows.monitorReasonsCard.stood.harness false
    monitorReasons_row (fun _ h => by cases h) (by kernel_rfl) (fun _ h => by cases h) monitorReasons_row_tie rfl ⟨rfl, rfl⟩ (by kernel_rfl) rfl
    (fun f fn hf hfn => by
      obtain rfl : f = 7 := Option.some.inj ((show Tryz.prog.funcNamed Rows.monitorReasonsRow.func = some 7 by kernel_rfl).symm.trans hf) |>.symm
      obtain rfl : fn = Tryz.f7 := (Option.some.inj (Tryz.func7.symm.trans hfn)).symm
      exact ⟨by kernel_rfl, fun j t ht => by
        rw [Tryz.params7] at ht
        have hm : t ∈ [64, 86, 3] := by simpa using Array.mem_of_getElem? ht
        have hall : ([64, 86, 3].all fun u => !Tryz.prog.wantsStandIn u) = true := by kernel_rfl
        exact (show Tryz.prog.wantsStandIn t = false by simpa using List.all_eq_true.1 hall t hm)⟩)
    (by kernel_rfl)
#print axioms monitorReasons_card
end Go.Proofs.YtifnpljmjhnbaaaGreatDoor
