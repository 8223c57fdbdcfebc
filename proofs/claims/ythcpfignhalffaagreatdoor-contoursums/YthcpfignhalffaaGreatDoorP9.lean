/-
  A part of the proof of the statement that the claim names: see the last file.
-/
import Derived.Test.YthcpfignhalffaaGreatDoorP6
import Derived.Test.YthcpfignhalffaaGreatDoorAm4
namespace Go.Proofs.YthcpfignhalffaaGreatDoor
open Go Go.Am
set_option maxRecDepth 100000
variable {w0 : World}
noncomputable section


theorem run5_17 (g1 g2 g3 g4 g5 g6 g7 g8 g9 g10 g11 g12 g13 g14 g15 g16 g17 : Gr) (x y i v : Int) : bodyK ((cfg w0).at csS) 60 (fnOf Tryz.f5) [(slG [g1, g2, g3, g4, g5, g6, g7, g8, g9, g10, g11, g12, g13, g14, g15, g16, g17]), .agg [I x, I y], .agg [I i, I v]] = law5 [g1, g2, g3, g4, g5, g6, g7, g8, g9, g10, g11, g12, g13, g14, g15, g16, g17] x y i v := by kernel_rfl
end
end Go.Proofs.YthcpfignhalffaaGreatDoor

namespace Go.Proofs.YthcpfignhalffaaGreatDoor
open Go Go.Am
set_option maxRecDepth 100000
variable {w0 : World}
noncomputable section


def cfgL (w0 : World) : Cfg := { (cfg w0).onI [42] with fn := fun f => match Nat.beq f 44 with
  | true => none
  | false => (cfg w0).fn f }
theorem cfgL_ok (w0 : World) : CfgOk (cfgL w0) := ⟨(cfg_ok w0).ty, fun f fd h => by
  unfold cfgL at h
  simp only at h
  split at h
  · cases h
  · exact (cfg_ok w0).fn f fd h, (cfg_ok w0).mixed⟩
theorem cfgL_sp (h0 : Lib0 w0) : SpecOK (cfgL w0) := specs_onI h0 [42]
theorem run5_long (n : Nat) (x y i v : Int) : bodyK ((cfgL w0).at [c14]) 60 (fnOf Tryz.f5) [.sl n 3 [], .agg [I x, I y], .agg [I i, I v]] =
    bif decide ((n : Int) > 4) then bif (n : Int) != 17 then some (Bo true) else bif decide (0 < (n : Int)) then bif ((true && decide (0 ≤ 0)) && decide (0 < (n : Int))) then none else none else none
    else bif decide (0 < (n : Int)) then bif ((true && decide (0 ≤ 0)) && decide (0 < (n : Int))) then none else none else none := by kernel_rfl
theorem law5_long (h0 : Lib0 w0) {n : Nat} (h4 : 4 < n) (h17 : n ≠ 17) (x y i v : Int) : FnD (cfg w0) 5 [.sl n 3 [], .agg [I x, I y], .agg [I i, I v]] (Bo true) :=
  show FnD (cfg w0) 5 _ _ from fnD_k (C := cfgL w0) (cfgL_ok w0) (cfgL_sp h0) (cs := [c14]) ⟨gd14 h0, trivial⟩ (g := 5) (fd := fnOf Tryz.f5) rfl (n := 60) ((run5_long n x y i v).trans (by
    rw [decide_eq_true (show ((n : Nat) : Int) > 4 by omega), show ((n : Int) != 17) = true by simp only [bne_iff_ne]; omega]; rfl))
end
end Go.Proofs.YthcpfignhalffaaGreatDoor
