/-
  The statement of the monitor's strings: the printed form of both sides and what both sides read out of a text. The walk: Split, Parse, Print of the program and of the reference compute the same lists (groups L1 to L9).
-/
import Derived.Test.YtifnpljmjhnbaaaGreatDoorLd
import Derived.Test.YtifnpljmjhnbaaaGreatDoorCards
import Derived.Test.YtifnpljmjhnbaaaGreatDoorTie
import Derived.SevenTiedAt
namespace Go.Proofs.YtifnpljmjhnbaaaGreatDoor
open Go
set_option maxRecDepth 100000

theorem monitorStrings_card : Rows.MonitorStringsCardSaid :=
  Claim7.holds_tied_plain_at .later [] [.data, .data, .data, .data, .funcs, .pinned] true Rows.monitorStringsCard.stood.harness false
    monitorStrings_row (fun _ h => by cases h) (by kernel_rfl) (fun _ h => by cases h) monitorStrings_row_tie rfl ⟨rfl, rfl⟩ (by kernel_rfl) rfl
    (fun f fn hf hfn => by
      obtain rfl : f = 13 := Option.some.inj ((show Tryz.prog.funcNamed Rows.monitorStringsRow.func = some 13 by kernel_rfl).symm.trans hf) |>.symm
      obtain rfl : fn = Tryz.f13 := (Option.some.inj (Tryz.func13.symm.trans hfn)).symm
      exact ⟨by kernel_rfl, fun j t ht => by
        rw [Tryz.params13] at ht
        have hm : t ∈ [32, 9] := by simpa using Array.mem_of_getElem? ht
        have hall : ([32, 9].all fun u => !Tryz.prog.wantsStandIn u) = true := by kernel_rfl
        exact (show Tryz.prog.wantsStandIn t = false by simpa using List.all_eq_true.1 hall t hm)⟩)
    (by kernel_rfl)
#print axioms monitorStrings_card
end Go.Proofs.YtifnpljmjhnbaaaGreatDoor
