/-
  A part of the proof of the statement that the claim names: see the last file.
-/
import Derived.Test.YtmlglimahbjgbaaGreatDoorL7
namespace Go.Proofs.YtmlglimahbjgbaaGreatDoor
open Go Go.Am Go.Town
set_option maxRecDepth 100000
variable {w0 : World}

theorem run44_52 (a b c d e : Tup wallK) (t : List (Tup stpK)) (s r : Tup v3K) (en : Int) : ex44x w0 true false [a, b, c, d, e] t s r en = goXX true false [a, b, c, d, e] t s r en := by kernel_rfl
end Go.Proofs.YtmlglimahbjgbaaGreatDoor
