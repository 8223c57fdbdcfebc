/-
  A part of the proof of the statement that the claim names: see the last file.
-/
import Derived.Test.YtmlglimahbjgbaaGreatDoorLd
namespace Go.Proofs.YtmlglimahbjgbaaGreatDoor
open Go Go.Am Go.Town
set_option maxRecDepth 100000
variable {w0 : World}

theorem un28_run (l : List (Tup wallK)) (t : List (Tup stpK)) (s r : Tup v3K) (d en : Int) (A : List (Tup mirK)) (e : Int) : un28 w0 l t s r d en A e = un28T w0 l t s r d en A e := by kernel_rfl
end Go.Proofs.YtmlglimahbjgbaaGreatDoor
