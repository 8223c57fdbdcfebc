/-
  A part of the proof of the statement that the claim names: see the last file.
-/
import Derived.Test.YthcpfignhalffaaGreatDoorP6
namespace Go.Proofs.YthcpfignhalffaaGreatDoor
open Go Go.Am
set_option maxRecDepth 100000
variable {w0 : World}
noncomputable section


theorem run5_n (x y i v : Int) : bodyK ((cfg w0).at csS) 60 (fnOf Tryz.f5) [nilD, .agg [I x, I y], .agg [I i, I v]] = law5 [] x y i v := by kernel_rfl
theorem run5_e (x y i v : Int) : bodyK ((cfg w0).at csS) 60 (fnOf Tryz.f5) [(.emp 3), .agg [I x, I y], .agg [I i, I v]] = law5 [] x y i v := by kernel_rfl
theorem run5_1 (g1 : Gr) (x y i v : Int) : bodyK ((cfg w0).at csS) 60 (fnOf Tryz.f5) [(slG [g1]), .agg [I x, I y], .agg [I i, I v]] = law5 [g1] x y i v := by kernel_rfl
theorem run5_2 (g1 g2 : Gr) (x y i v : Int) : bodyK ((cfg w0).at csS) 60 (fnOf Tryz.f5) [(slG [g1, g2]), .agg [I x, I y], .agg [I i, I v]] = law5 [g1, g2] x y i v := by kernel_rfl
end
end Go.Proofs.YthcpfignhalffaaGreatDoor
