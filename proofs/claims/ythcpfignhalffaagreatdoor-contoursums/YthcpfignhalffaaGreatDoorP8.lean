/-
  A part of the proof of the statement that the claim names: see the last file.
-/
import Derived.Test.YthcpfignhalffaaGreatDoorP6
namespace Go.Proofs.YthcpfignhalffaaGreatDoor
open Go Go.Am
set_option maxRecDepth 100000
variable {w0 : World}
noncomputable section


theorem run5_3 (g1 g2 g3 : Gr) (x y i v : Int) : bodyK ((cfg w0).at csS) 60 (fnOf Tryz.f5) [(slG [g1, g2, g3]), .agg [I x, I y], .agg [I i, I v]] = law5 [g1, g2, g3] x y i v := by kernel_rfl
theorem run5_4 (g1 g2 g3 g4 : Gr) (x y i v : Int) : bodyK ((cfg w0).at csS) 60 (fnOf Tryz.f5) [(slG [g1, g2, g3, g4]), .agg [I x, I y], .agg [I i, I v]] = law5 [g1, g2, g3, g4] x y i v := by kernel_rfl
end
end Go.Proofs.YthcpfignhalffaaGreatDoor
