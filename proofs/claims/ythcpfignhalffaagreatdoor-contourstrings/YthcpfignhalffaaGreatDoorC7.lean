/-
 A part of the proof of the statement that the claim names: see the last file.
-/
import Derived.Test.YthcpfignhalffaaGreatDoorC6
import Derived.Test.YthcpfignhalffaaGreatDoorAm5
namespace Go.Proofs.YthcpfignhalffaaGreatDoor
open Go Go.Am
set_option maxRecDepth 100000
variable {w0 : World}
noncomputable section
def ownC (g : Nat) : Ct := gC g [] fun b _ => .br (smG b) (.leaf (gD b)) .bad
theorem room_own {l : List (Tup intK)} (h : Nat.ble l.length 100000 = true) : (Nat.ble (([] ++ l).length * 8) 1000000000000 && Nat.ble ([] ++ l).length 1000000000000) = true := by
 rw [Nat.ble_eq] at h
 simp only [List.nil_append, Bool.and_eq_true, Nat.ble_eq]
 omega
theorem run90 (g : Gr) : bodyK ((cfg w0).at []) 40 (fnOf Tryz.f90) [gD g] =
  bif (Nat.ble (([] ++ g.l).length * 8) 1000000000000 && Nat.ble ([] ++ g.l).length 1000000000000) then some (.agg [I g.w, I g.h, .vec intK ([] ++ g.l)]) else none := by cases g; kernel_rfl
theorem gd90 (h0 : Lib0 w0) : Gd (cfg w0) (ownC 90) := gd_g fun b a d hd => by
 obtain ⟨hg, hd⟩ := br_run hd
 cases hd
 refine fnD_k (cfg_ok w0) h0 (cs := []) trivial (fd := fnOf Tryz.f90) rfl (n := 40) ((run90 b).trans ?_)
 rw [room_own hg]
 rfl
theorem run16 (g : Gr) : bodyK ((cfg w0).at [ownC 90]) 40 (fnOf Tryz.f16) [gD g] = bif smG g then some (gD g) else none := by cases g; kernel_rfl
theorem gd16 (h0 : Lib0 w0) : Gd (cfg w0) (ownC 16) := gd_g fun b a d hd => by
 obtain ⟨hg, hd⟩ := br_run hd
 cases hd
 refine fnD_k (cfg_ok w0) h0 (cs := [ownC 90]) ⟨gd90 h0, trivial⟩ (fd := fnOf Tryz.f16) rfl (n := 40) ((run16 b).trans ?_)
 rw [hg]; rfl
end
end Go.Proofs.YthcpfignhalffaaGreatDoor
namespace Go.Proofs.YthcpfignhalffaaGreatDoor
open Go Go.Am
set_option maxRecDepth 100000
variable {w0 : World}
noncomputable section
end
end Go.Proofs.YthcpfignhalffaaGreatDoor
namespace Go.Proofs.YthcpfignhalffaaGreatDoor
open Go Go.Am
set_option maxRecDepth 100000
variable {w0 : World}
noncomputable section
def g0 : Gr := ⟨0, 0, []⟩
end
end Go.Proofs.YthcpfignhalffaaGreatDoor
