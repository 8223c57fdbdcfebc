/-
 ContourStrings: Print and Parse return the results or the errors of the reference, for every grid with at most 36 energies and every string of at most 400 bytes (or 4097).
-/
import Derived.Test.YthcpfignhalffaaGreatDoorPa
import Derived.Test.YthcpfignhalffaaGreatDoorCards
import Derived.Test.YthcpfignhalffaaGreatDoorTie
import Derived.SevenTiedAt
namespace Go.Proofs.YthcpfignhalffaaGreatDoor
open Go
set_option maxRecDepth 100000
theorem contourStrings_card : Rows.ContourStringsCardSaid :=
 Claim7.holds_tied_plain_at .later [] [.data, .data, .data, .data, .data, .data, .pinned] true Rows.contourStringsCard.stood.harness false
  contourStrings_row (fun _ h => by cases h) (by kernel_rfl) (fun _ h => by cases h) contourStrings_row_tie rfl ⟨rfl, rfl⟩ (by kernel_rfl) rfl
  (fun f fn hf hfn => by
   obtain rfl : f = 10 := Option.some.inj ((show Tryz.prog.funcNamed Rows.contourStringsRow.func = some 10 by kernel_rfl).symm.trans hf) |>.symm
   obtain rfl : fn = Tryz.f10 := (Option.some.inj (Tryz.func10.symm.trans hfn)).symm
   exact ⟨by kernel_rfl, fun j t ht => by
    rw [Tryz.params10] at ht
    have hm : t ∈ [24, 9] := by simpa using Array.mem_of_getElem? ht
    have hall : ([24, 9].all fun u => !Tryz.prog.wantsStandIn u) = true := by kernel_rfl
    exact (show Tryz.prog.wantsStandIn t = false by simpa using List.all_eq_true.1 hall t hm)⟩)
  (by kernel_rfl)
#print axioms contourStrings_card
end Go.Proofs.YthcpfignhalffaaGreatDoor
