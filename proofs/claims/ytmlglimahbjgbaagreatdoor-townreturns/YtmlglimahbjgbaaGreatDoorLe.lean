/-
  A part of the proof of the statement that the claim names: see the last file.
-/
import Derived.Test.YtmlglimahbjgbaaGreatDoorLd
namespace Go.Proofs.YtmlglimahbjgbaaGreatDoor
open Go Go.Am Go.Town
set_option maxRecDepth 100000
variable {w0 : World}

theorem round21 (l : List (Tup wallK)) (t : List (Tup stpK)) (s r : Tup v3K) (d en : Int) (A B : List (Tup mirK)) (j e : Int) : rndD ((cfg w0).at law8) 60 [] 60 (fnOf Tryz.f8).ntmps rel21 (lpB 2 (fnOf Tryz.f8).body) (st21 l t s r d en A B (j, e)) =
    bif decide (j < A.length) then
      gW (in11 A j) (rnd21 l (nth A j.toNat) (nth B j.toNat) (in11 B j) (some ([], .ret, st21 l t s r d en A B (j, e))) (some ([], .normal, st21 l t s r d en A B (W (j + 1), W (e + ecW l (nth A j.toNat))))))
    else some ([], .exit 2, st21 l t s r d en A B (j, e)) := by kernel_rfl
end Go.Proofs.YtmlglimahbjgbaaGreatDoor
