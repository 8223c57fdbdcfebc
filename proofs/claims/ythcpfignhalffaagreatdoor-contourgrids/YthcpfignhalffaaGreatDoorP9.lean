/-
  A part of the proof of the statement that the claim names: see the last file.
-/
import Derived.Test.YthcpfignhalffaaGreatDoorP8
namespace Go.Proofs.YthcpfignhalffaaGreatDoor
open Go Go.Am
set_option maxRecDepth 100000
variable {w0 : World}
noncomputable section


theorem run7 (g : Gr) (x y n m : Int) : bodyK ((cfg w0).at csB) 60 (fnOf Tryz.f7) [gD g, .agg [I x, I y], .agg [I n, I m]] = law7 g x y n m := by cases g; kernel_rfl
end
end Go.Proofs.YthcpfignhalffaaGreatDoor
