/-
  Calibrated and Agreed of the monitor return what the reference returns, for every input: the tied card of MonitorChecks.
-/
import Derived.Test.YtifnpljmjhnbaaaGreatDoorP4
import Derived.Test.YtifnpljmjhnbaaaGreatDoorCards
import Derived.Test.YtifnpljmjhnbaaaGreatDoorTie
import Derived.SevenTiedAt
namespace Go.Proofs.YtifnpljmjhnbaaaGreatDoor
open Go
set_option maxRecDepth 100000

theorem monitorChecks_card : Rows.MonitorChecksCardSaid :=
  Claim7.holds_tied_plain_at .later [] [.data, .data, .data, .funcs] true Rows.monitorChecksCard.stood.harness false
    monitorChecks_row (fun _ h => by cases h) (by kernel_rfl) (fun _ h => by cases h) monitorChecks_row_tie rfl ⟨rfl, rfl⟩ (by kernel_rfl) rfl
    (fun f fn hf hfn => by
      obtain rfl : f = 3 := Option.some.inj ((show Tryz.prog.funcNamed Rows.monitorChecksRow.func = some 3 by kernel_rfl).symm.trans hf) |>.symm
      obtain rfl : fn = Tryz.f3 := (Option.some.inj (Tryz.func3.symm.trans hfn)).symm
      exact ⟨by kernel_rfl, fun j t ht => by
        rw [Tryz.params3] at ht
        have hm : t ∈ [3, 23, 24] := by simpa using Array.mem_of_getElem? ht
        have hall : ([3, 23, 24].all fun u => !Tryz.prog.wantsStandIn u) = true := by kernel_rfl
        exact (show Tryz.prog.wantsStandIn t = false by simpa using List.all_eq_true.1 hall t hm)⟩)
    (by kernel_rfl)
#print axioms monitorChecks_card
end Go.Proofs.YtifnpljmjhnbaaaGreatDoor
