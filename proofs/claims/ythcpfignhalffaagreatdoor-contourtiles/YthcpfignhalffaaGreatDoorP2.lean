/-
  A part of the proof of the statement that the claim names: see the last file.
-/
import Derived.Test.YthcpfignhalffaaGreatDoorP1
namespace Go.Proofs.YthcpfignhalffaaGreatDoor
open Go Go.Am
set_option maxRecDepth 100000
variable {w0 : World}
noncomputable section
theorem run9 (a b : Gr) (bx : Bx) (x y : Int) : bodyK ((cfg w0).at csU) 60 (fnOf Tryz.f9) [gD a, gD b, spotD bx x y] = law9 a b bx x y := by cases a; cases b; cases bx; kernel_rfl
end
end Go.Proofs.YthcpfignhalffaaGreatDoor
