/-
 A part of the proof of the statement that the claim names: see the last file.
-/
import Derived.Test.YthcpfignhalffaaGreatDoorPj
namespace Go.Proofs.YthcpfignhalffaaGreatDoor
open Go Go.Am
set_option maxRecDepth 100000
variable {w0 : World}
theorem bd6_2 (g1 g2 : Gr) (pp : List (Tup ptK)) (v : Int) (vs : List (Tup intK)) (a b c : Int) (q : Int × Int) (es : Lv) : bd6 w0 [g1, g2] pp v vs a b c q es = law6T [g1, g2] pp v vs a b c q es := by kernel_rfl
end Go.Proofs.YthcpfignhalffaaGreatDoor
