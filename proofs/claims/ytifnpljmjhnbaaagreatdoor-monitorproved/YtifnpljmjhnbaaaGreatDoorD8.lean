/-
 A part of the proof of the statement that the claim names: see the last file.
-/
import Derived.Test.YtifnpljmjhnbaaaGreatDoorD7
namespace Go.Proofs.YtifnpljmjhnbaaaGreatDoor
open Go
set_option maxRecDepth 100000
theorem monitorProved_row:Rows.MonitorProvedSaid:=
 OpenClaim.holds_of_wide 12 Tryz.f12 rfl rfl rfl rfl rfl rfl rfl ⟨rfl,rfl,rfl,rfl,rfl⟩ rfl rfl rfl rfl rfl named12 Tryz.func12 facts12 inst12 wrap12
  (fun os started H enc _=>lifted os started H enc)
end Go.Proofs.YtifnpljmjhnbaaaGreatDoor
