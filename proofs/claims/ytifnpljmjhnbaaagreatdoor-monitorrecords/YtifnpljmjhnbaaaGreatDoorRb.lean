/-
  CheckRecord, Corrected, Background and Totals of the monitor return what the reference returns, for every input: the tied card of MonitorRecords.
-/
import Derived.Test.YtifnpljmjhnbaaaGreatDoorRa
import Derived.Test.YtifnpljmjhnbaaaGreatDoorCards
import Derived.Test.YtifnpljmjhnbaaaGreatDoorTie
import Derived.SevenTiedAt
namespace Go.Proofs.YtifnpljmjhnbaaaGreatDoor
open Go
set_option maxRecDepth 100000

theorem monitorRecords_card : Rows.MonitorRecordsCardSaid :=
  Claim7.holds_tied_plain_at .later [] [.data, .data, .data, .funcs] true Rows.monitorRecordsCard.stood.harness false
    monitorRecords_row (fun _ h => by cases h) (by kernel_rfl) (fun _ h => by cases h) monitorRecords_row_tie rfl ⟨rfl, rfl⟩ (by kernel_rfl) rfl
    (fun f fn hf hfn => by
      obtain rfl : f = 4 := Option.some.inj ((show Tryz.prog.funcNamed Rows.monitorRecordsRow.func = some 4 by kernel_rfl).symm.trans hf) |>.symm
      obtain rfl : fn = Tryz.f4 := (Option.some.inj (Tryz.func4.symm.trans hfn)).symm
      exact ⟨by kernel_rfl, fun j t ht => by
        rw [Tryz.params4] at ht
        have hm : t ∈ [32, 23, 3] := by simpa using Array.mem_of_getElem? ht
        have hall : ([32, 23, 3].all fun u => !Tryz.prog.wantsStandIn u) = true := by kernel_rfl
        exact (show Tryz.prog.wantsStandIn t = false by simpa using List.all_eq_true.1 hall t hm)⟩)
    (by kernel_rfl)
#print axioms monitorRecords_card
end Go.Proofs.YtifnpljmjhnbaaaGreatDoor
