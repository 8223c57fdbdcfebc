/-
  A part of the proof of the statement that the claim names: see the last file.
-/
import Derived.Test.YthcpfignhalffaaGreatDoorPd
namespace Go.Proofs.YthcpfignhalffaaGreatDoor
open Go
set_option maxRecDepth 100000

theorem contourSums_row : Rows.ContourSumsSaid :=
  OpenClaim.holds_of_wide 5 Tryz.f5 rfl rfl rfl rfl rfl rfl rfl ⟨rfl, rfl, rfl, rfl, rfl⟩ rfl rfl rfl rfl rfl named5 Tryz.func5 facts5 inst5 wrap5
    (fun os started H enc _ => lifted os started H enc)
end Go.Proofs.YthcpfignhalffaaGreatDoor
