/-
  Correlations, Lag and Bearing return the results or the errors of the reference: what both compute for any two windows of float32 (NaN, infinities and samples off the grid are refused alike) and any two lags is told by the same plain functions; no conditions.
-/
import Derived.Test.YtifnpljmjhnbaaaGreatDoorV9
import Derived.Test.YtifnpljmjhnbaaaGreatDoorCards
import Derived.Test.YtifnpljmjhnbaaaGreatDoorTie
import Derived.SevenTiedAt
namespace Go.Proofs.YtifnpljmjhnbaaaGreatDoor
open Go
set_option maxRecDepth 100000

theorem monitorLags_card : Rows.MonitorLagsCardSaid :=
  Claim7.holds_tied_plain_at .later [] [.data, .data, .data, .funcs] true Rows.monitorLagsCard.stood.harness false
    monitorLags_row (fun _ h => by cases h) (by kernel_rfl) (fun _ h => by cases h) monitorLags_row_tie rfl ⟨rfl, rfl⟩ (by kernel_rfl) rfl
    (fun f fn hf hfn => by
      obtain rfl : f = 6 := Option.some.inj ((show Tryz.prog.funcNamed Rows.monitorLagsRow.func = some 6 by kernel_rfl).symm.trans hf) |>.symm
      obtain rfl : fn = Tryz.f6 := (Option.some.inj (Tryz.func6.symm.trans hfn)).symm
      exact ⟨by kernel_rfl, fun j t ht => by
        rw [Tryz.params6] at ht
        have hm : t ∈ [70, 70, 71] := by simpa using Array.mem_of_getElem? ht
        have hall : ([70, 70, 71].all fun u => !Tryz.prog.wantsStandIn u) = true := by kernel_rfl
        exact (show Tryz.prog.wantsStandIn t = false by simpa using List.all_eq_true.1 hall t hm)⟩)
    (by kernel_rfl)
#print axioms monitorLags_card
end Go.Proofs.YtifnpljmjhnbaaaGreatDoor
