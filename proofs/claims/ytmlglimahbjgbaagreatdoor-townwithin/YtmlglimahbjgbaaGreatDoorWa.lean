/-
 A part of the proof of the statement that the claim names: see the last file.
-/
import Derived.Test.YtmlglimahbjgbaaGreatDoorW9
namespace Go.Proofs.YtmlglimahbjgbaaGreatDoor
open Go
set_option maxRecDepth 100000
theorem townWithin_row : Rows.TownWithinSaid :=
 OpenClaim.holds_of_wide 12 Tryz.f12 rfl rfl rfl rfl rfl rfl rfl ⟨rfl, rfl, rfl, rfl, rfl⟩ rfl rfl rfl rfl rfl named12 Tryz.func12 facts12 inst12 wrap12
  (fun os started H enc _ => lifted os started H enc)
end Go.Proofs.YtmlglimahbjgbaaGreatDoor
