/-
  Events are groups of loud seconds, and what is corrected has the true energy: the tied card of MonitorKept, for every input.
-/
import Derived.Test.YtifnpljmjhnbaaaGreatDoorU8
import Derived.Test.YtifnpljmjhnbaaaGreatDoorCards
import Derived.Test.YtifnpljmjhnbaaaGreatDoorTie
import Derived.SevenTiedAt
namespace Go.Proofs.YtifnpljmjhnbaaaGreatDoor
open Go
set_option maxRecDepth 100000

theorem monitorKept_card : Rows.MonitorKeptCardSaid :=
  Claim7.holds_tied_plain_at .later [] [.data, .data, .data, .funcs] true Rows.monitorKeptCard.stood.harness false
    monitorKept_row (fun _ h => by cases h) (by kernel_rfl) (fun _ h => by cases h) monitorKept_row_tie rfl ⟨rfl, rfl⟩ (by kernel_rfl) rfl
    (fun f fn hf hfn => by
      obtain rfl : f = 10 := Option.some.inj ((show Tryz.prog.funcNamed Rows.monitorKeptRow.func = some 10 by kernel_rfl).symm.trans hf) |>.symm
      obtain rfl : fn = Tryz.f10 := (Option.some.inj (Tryz.func10.symm.trans hfn)).symm
      exact ⟨by kernel_rfl, fun j t ht => by
        rw [Tryz.params10] at ht
        have hm : t ∈ [129, 131] := by simpa using Array.mem_of_getElem? ht
        have hall : ([129, 131].all fun u => !Tryz.prog.wantsStandIn u) = true := by kernel_rfl
        exact (show Tryz.prog.wantsStandIn t = false by simpa using List.all_eq_true.1 hall t hm)⟩)
    (by kernel_rfl)
#print axioms monitorKept_card
end Go.Proofs.YtifnpljmjhnbaaaGreatDoor
