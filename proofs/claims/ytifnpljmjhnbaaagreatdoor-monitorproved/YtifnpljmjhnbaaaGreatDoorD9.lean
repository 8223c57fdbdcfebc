/-
 MonitorProved: the best match is a match with its value, no other match is worth more, nor more than the second, no bound that prices prove is below it, and without a pass or with a lesser slack it is no greater, for valid events and passes, at most four of each.
-/
import Derived.Test.YtifnpljmjhnbaaaGreatDoorD8
import Derived.Test.YtifnpljmjhnbaaaGreatDoorCards
import Derived.Test.YtifnpljmjhnbaaaGreatDoorTie
import Derived.SevenTiedAt
namespace Go.Proofs.YtifnpljmjhnbaaaGreatDoor
open Go
set_option maxRecDepth 100000
theorem monitorProved_card:Rows.MonitorProvedCardSaid:=
 Claim7.holds_tied_plain_at .later [] [.data,.data,.data,.funcs] true Rows.monitorProvedCard.stood.harness false
  monitorProved_row (fun _ h=>by cases h) (by kernel_rfl) (fun _ h=>by cases h) monitorProved_row_tie rfl ⟨rfl,rfl⟩ (by kernel_rfl) rfl
  (fun f fn hf hfn=>by
   obtain rfl:f = 12:=Option.some.inj ((show Tryz.prog.funcNamed Rows.monitorProvedRow.func = some 12 by kernel_rfl).symm.trans hf) |>.symm
   obtain rfl:fn = Tryz.f12:=(Option.some.inj (Tryz.func12.symm.trans hfn)).symm
   exact ⟨by kernel_rfl,fun j t ht=>by
    rw [Tryz.params12] at ht
    have hm:t ∈ [64,86,115]:=by simpa using Array.mem_of_getElem? ht
    have hall:([64,86,115].all fun u=>!Tryz.prog.wantsStandIn u) = true:=by kernel_rfl
    exact (show Tryz.prog.wantsStandIn t = false by simpa using List.all_eq_true.1 hall t hm)⟩)
  (by kernel_rfl)
#print axioms monitorProved_card
end Go.Proofs.YtifnpljmjhnbaaaGreatDoor
