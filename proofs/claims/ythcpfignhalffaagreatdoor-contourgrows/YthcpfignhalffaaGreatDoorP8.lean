/-
 A part of the proof of the statement that the claim names: see the last file.
-/
import Derived.Test.YthcpfignhalffaaGreatDoorP7
namespace Go.Proofs.YthcpfignhalffaaGreatDoor
open Go Go.Am
set_option maxRecDepth 100000
variable {w0 : World}
theorem rnd12_1_0 (g1 : Gr) (A : Gr) (th bk : List (Tup intK)) (es : Lv) (sh : List (Tup ptK)) (lo : List (Tup intK)) (i part : Int) : rndD (((cfg w0).at [c14]).di) 60 [] 60 (fnOf Tryz.f6).ntmps rg12 (lpB 12 (fnOf Tryz.f6).body) (sg12 [g1] A th bk es sh lo i false (((0 : Nat) : Int), part)) =
  r12T [g1] A sh lo i ((0 : Nat) : Int) (some ([], .ret, sg12 [g1] A th bk es sh lo i false (((0 : Nat) : Int), part))) (some ([], .normal, sg12 [g1] A th bk es sh lo i false (IntKind.i64.wrap (((0 : Nat) : Int) + 1), IntKind.i64.wrap (part + prt A sh i ((0 : Nat) : Int))))) (some ([], .exit 12, sg12 [g1] A th bk es sh lo i false (((0 : Nat) : Int), part))) := by kernel_rfl
end Go.Proofs.YthcpfignhalffaaGreatDoor
