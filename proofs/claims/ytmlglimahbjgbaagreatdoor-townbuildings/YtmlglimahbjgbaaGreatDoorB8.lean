/-
  A part of the proof of the statement that the claim names: see the last file.
-/
import Derived.Test.YtmlglimahbjgbaaGreatDoorB7
namespace Go.Proofs.YtmlglimahbjgbaaGreatDoor
open Go Go.Am Go.Town
set_option maxRecDepth 100000
variable {w0 : World}
noncomputable section

theorem run7_n (b : Bd) (p : Tup ptK) (x : Tup bxK) (near : List (Tup wallK)) : bodyK ((cfg w0).at law7) 100 (fnOf Tryz.f7) [nilD, plotD b p x, .vec wallK near] = law7D [] b p x near := by kernel_rfl
theorem run7_e (b : Bd) (p : Tup ptK) (x : Tup bxK) (near : List (Tup wallK)) : bodyK ((cfg w0).at law7) 100 (fnOf Tryz.f7) [(.emp 4), plotD b p x, .vec wallK near] = law7D [] b p x near := by kernel_rfl
theorem run7_1 (b1 b : Bd) (p : Tup ptK) (x : Tup bxK) (near : List (Tup wallK)) : bodyK ((cfg w0).at law7) 100 (fnOf Tryz.f7) [(slD [b1]), plotD b p x, .vec wallK near] = law7D [b1] b p x near := by kernel_rfl
theorem run7_2 (b1 b2 b : Bd) (p : Tup ptK) (x : Tup bxK) (near : List (Tup wallK)) : bodyK ((cfg w0).at law7) 100 (fnOf Tryz.f7) [(slD [b1, b2]), plotD b p x, .vec wallK near] = law7D [b1, b2] b p x near := by kernel_rfl
theorem run7_3 (b1 b2 b3 b : Bd) (p : Tup ptK) (x : Tup bxK) (near : List (Tup wallK)) : bodyK ((cfg w0).at law7) 100 (fnOf Tryz.f7) [(slD [b1, b2, b3]), plotD b p x, .vec wallK near] = law7D [b1, b2, b3] b p x near := by kernel_rfl
theorem run7_4 (b1 b2 b3 b4 b : Bd) (p : Tup ptK) (x : Tup bxK) (near : List (Tup wallK)) : bodyK ((cfg w0).at law7) 100 (fnOf Tryz.f7) [(slD [b1, b2, b3, b4]), plotD b p x, .vec wallK near] = law7D [b1, b2, b3, b4] b p x near := by kernel_rfl
theorem run7_5 (b1 b2 b3 b4 b5 b : Bd) (p : Tup ptK) (x : Tup bxK) (near : List (Tup wallK)) : bodyK ((cfg w0).at law7) 100 (fnOf Tryz.f7) [(slD [b1, b2, b3, b4, b5]), plotD b p x, .vec wallK near] = law7D [b1, b2, b3, b4, b5] b p x near := by kernel_rfl
end
end Go.Proofs.YtmlglimahbjgbaaGreatDoor
