/-
  A part of the proof of the statement that the claim names: see the last file.
-/
import Derived.Test.YtifnpljmjhnbaaaGreatDoorP3
namespace Go.Proofs.YtifnpljmjhnbaaaGreatDoor
open Go
set_option maxRecDepth 100000

theorem monitorChecks_row : Rows.MonitorChecksSaid :=
  OpenClaim.holds_of_wide 3 Tryz.f3 rfl rfl rfl rfl rfl rfl rfl ⟨rfl, rfl, rfl, rfl, rfl⟩ rfl rfl rfl rfl rfl named3 Tryz.func3 facts3 inst3 wrap3
    (fun os started H enc _ => lifted os started H enc)
end Go.Proofs.YtifnpljmjhnbaaaGreatDoor
