/-
 A part of the proof of the statement that the claim names: see the last file.
-/
import Derived.Test.YthcpfignhalffaaGreatDoorPe
namespace Go.Proofs.YthcpfignhalffaaGreatDoor
open Go Go.Am
set_option maxRecDepth 100000
variable {w0 : World}
theorem rnd10_3 (g1 g2 g3 A : Gr) (th bk lo : List (Tup intK)) (es : Lv) (i : Int) (p : Int × Int) : rn10 w0 [g1, g2, g3] A th bk lo es i p = t10 [g1, g2, g3] A th bk lo es i p := by kernel_rfl
theorem rnd6_3 (g1 g2 g3 A : Gr) (th bk lo : List (Tup intK)) (gn cl : List (Tup ptK)) (al : Int × Int) (i a b : Int) : rn6 w0 [g1, g2, g3] A th bk lo gn cl al (i, (a, b)) = t6 [g1, g2, g3] A th bk lo gn cl al (i, (a, b)) := by kernel_rfl
end Go.Proofs.YthcpfignhalffaaGreatDoor
