/-
 A part of the proof of the statement that the claim names: see the last file.
-/
import Derived.Test.YthcpfignhalffaaGreatDoorC5
namespace Go.Proofs.YthcpfignhalffaaGreatDoor
open Go Go.Am
set_option maxRecDepth 100000
variable {w0 : World}
noncomputable section
def awB : List Ct := c124 :: c209 :: awA
theorem awB_gd (h0 : Lib0 w0) : Gds (cfg w0) awB := ⟨gd124 h0, gd209 h0, awA_gd h0⟩
end
end Go.Proofs.YthcpfignhalffaaGreatDoor
namespace Go.Proofs.YthcpfignhalffaaGreatDoor
open Go Go.Am
set_option maxRecDepth 100000
variable {w0 : World}
noncomputable section
def levI : List D := [.agg [I 3, I 2, .sl 6 1 [I 10, I 100, I 100, I 9, I 10, I 1000]]]
def levO : D := .tup [.sl 6 1 [I 0, I 10, I 10, I (-1), I 0, I 20], I 0]
theorem lev_run : bodyD (cfgX w0 awB) (ev (cfgX w0 awB) 400) (fnOf Tryz.f65) levI = some levO := by kernel_rfl
theorem lev_at (h0 : Lib0 w0) : RunAt w0 65 (levI, levO) := run_at h0 (awB_gd h0) (g := 65) (fd := fnOf Tryz.f65) rfl lev_run
def ar0I : List D := [.sl 6 2 [I 1, I 0, I 3, I 0, I 3, I 2, I 2, I 2, I 2, I 1, I 1, I 1]]
def ar0O : D := .tup [I 6, I 0]
theorem ar0_run : bodyD (cfgX w0 awA) (ev (cfgX w0 awA) 400) (fnOf Tryz.f30) ar0I = some ar0O := by kernel_rfl
theorem ar0_at (h0 : Lib0 w0) : RunAt w0 30 (ar0I, ar0O) := run_at h0 (awA_gd h0) (g := 30) (fd := fnOf Tryz.f30) rfl ar0_run
def ar1I : List D := [.sl 4 2 [I 1, I 1, I 1, I 2, I 2, I 2, I 2, I 1]]
def ar1O : D := .tup [I (-2), I 0]
theorem ar1_run : bodyD (cfgX w0 awA) (ev (cfgX w0 awA) 400) (fnOf Tryz.f30) ar1I = some ar1O := by kernel_rfl
theorem ar1_at (h0 : Lib0 w0) : RunAt w0 30 (ar1I, ar1O) := run_at h0 (awA_gd h0) (g := 30) (fd := fnOf Tryz.f30) rfl ar1_run
def expI : List D := [.agg [I 3, I 2, .sl 6 1 [I 10, I 100, I 100, I 9, I 10, I 1000]], .sl 6 2 [I 5, I 6, I 5, I 6, I 5, I 6, I 5, I 6, I 5, I 6, I 5, I 6], I 10]
def expO : D := .tup [.agg [I 15, I 18], I 0]
theorem exp_run : bodyD (cfgX w0 awB) (ev (cfgX w0 awB) 400) (fnOf Tryz.f31) expI = some expO := by kernel_rfl
theorem exp_at (h0 : Lib0 w0) : RunAt w0 31 (expI, expO) := run_at h0 (awB_gd h0) (g := 31) (fd := fnOf Tryz.f31) rfl exp_run
end
end Go.Proofs.YthcpfignhalffaaGreatDoor
namespace Go.Proofs.YthcpfignhalffaaGreatDoor
open Go Go.Am
set_option maxRecDepth 100000
variable {w0 : World}
noncomputable section
def claI : List D := [.agg [I 3, I 2, .sl 6 1 [I 10, I 100, I 100, I 9, I 10, I 1000]], .sl 6 2 [I 5, I 6, I 5, I 6, I 5, I 6, I 5, I 6, I 5, I 6, I 5, I 6], .sl 3 1 [I 0, I 10, I 20]]
def claO : D := .tup [.sl 3 2 [I 10, I 12, I 10, I 12, I 5, I 6], I 0]
theorem cla_run : bodyD (cfgX w0 awB) (ev (cfgX w0 awB) 400) (fnOf Tryz.f33) claI = some claO := by kernel_rfl
theorem cla_at (h0 : Lib0 w0) : RunAt w0 33 (claI, claO) := run_at h0 (awB_gd h0) (g := 33) (fd := fnOf Tryz.f33) rfl cla_run
def addI : List D := [.sl 2 3 [I 3, I 2, .sl 6 1 [I 10, I 100, I 100, I 9, I 10, I 1000], I 3, I 2, .sl 6 1 [I 10, I 100, I 100, I 9, I 10, I 1000]]]
def addO : D := .tup [.agg [I 3, I 2, .sl 6 1 [I 20, I 200, I 200, I 18, I 20, I 2000]], I 0]
theorem add_run : bodyD (cfgX w0 awB) (ev (cfgX w0 awB) 400) (fnOf Tryz.f43) addI = some addO := by kernel_rfl
theorem add_at (h0 : Lib0 w0) : RunAt w0 43 (addI, addO) := run_at h0 (awB_gd h0) (g := 43) (fd := fnOf Tryz.f43) rfl add_run
def shaI : List D := [.sl 2 3 [I 3, I 2, .sl 6 1 [I 10, I 100, I 100, I 9, I 10, I 1000], I 3, I 2, .sl 6 1 [I 10, I 100, I 100, I 9, I 10, I 1000]], .agg [I 0, I 0]]
def shaO : D := .tup [.sl 2 2 [I 1, I 2, I 1, I 2], I 0]
theorem sha_run : bodyD (cfgX w0 awB) (ev (cfgX w0 awB) 400) (fnOf Tryz.f45) shaI = some shaO := by kernel_rfl
theorem sha_at (h0 : Lib0 w0) : RunAt w0 45 (shaI, shaO) := run_at h0 (awB_gd h0) (g := 45) (fd := fnOf Tryz.f45) rfl sha_run
def witI : List D := [.sl 2 3 [I 1, I 1, .sl 1 1 [I 60], I 1, I 1, .sl 1 1 [I 60]], I 0, I 10]
def witO : D := .tup [.sl 1 2 [I 0, I 0], I 0]
theorem wit_run : bodyD (cfgX w0 awB) (ev (cfgX w0 awB) 400) (fnOf Tryz.f47) witI = some witO := by kernel_rfl
theorem wit_at (h0 : Lib0 w0) : RunAt w0 47 (witI, witO) := run_at h0 (awB_gd h0) (g := 47) (fd := fnOf Tryz.f47) rfl wit_run
end
end Go.Proofs.YthcpfignhalffaaGreatDoor
namespace Go.Proofs.YthcpfignhalffaaGreatDoor
open Go Go.Am
set_option maxRecDepth 100000
variable {w0 : World}
noncomputable section
def hotI : List D := [.agg [I 3, I 2, .sl 6 1 [I 10, I 100, I 100, I 9, I 10, I 1000]], I 2]
def hotO : D := .tup [.sl 2 2 [I 2, I 1, I 1, I 0], I 0]
theorem hot_run : bodyD (cfgX w0 awB) (ev (cfgX w0 awB) 400) (fnOf Tryz.f67) hotI = some hotO := by kernel_rfl
theorem hot_at (h0 : Lib0 w0) : RunAt w0 67 (hotI, hotO) := run_at h0 (awB_gd h0) (g := 67) (fd := fnOf Tryz.f67) rfl hot_run
end
end Go.Proofs.YthcpfignhalffaaGreatDoor
namespace Go.Proofs.YthcpfignhalffaaGreatDoor
open Go Go.Am
set_option maxRecDepth 100000
variable {w0 : World}
noncomputable section
def tilI : List D := [.agg [I 3, I 2, .sl 6 1 [I 10, I 100, I 100, I 9, I 10, I 1000]], .agg [I 1, I 3, I 0, I 1]]
def tilO : D := .tup [.agg [I 2, I 1, .sl 2 1 [I 100, I 100]], I 0]
theorem til_run : bodyD (cfgX w0 awB) (ev (cfgX w0 awB) 400) (fnOf Tryz.f78) tilI = some tilO := by kernel_rfl
theorem til_at (h0 : Lib0 w0) : RunAt w0 78 (tilI, tilO) := run_at h0 (awB_gd h0) (g := 78) (fd := fnOf Tryz.f78) rfl til_run
def priI : List D := [.agg [I 3, I 2, .sl 6 1 [I 10, I 100, I 100, I 9, I 10, I 1000]]]
def priO : D := .tup [.val (.string ⟨#[103, 114, 105, 100, 32, 51, 32, 50, 10, 114, 111, 119, 32, 49, 48, 32, 49, 48, 48, 32, 49, 48, 48, 10, 114, 111, 119, 32, 57, 32, 49, 48, 32, 49, 48, 48, 48, 10]⟩), I 0]
theorem pri_run : bodyD (cfgX w0 awB) (ev (cfgX w0 awB) 400) (fnOf Tryz.f86) priI = some priO := by kernel_rfl
theorem pri_at (h0 : Lib0 w0) : RunAt w0 86 (priI, priO) := run_at h0 (awB_gd h0) (g := 86) (fd := fnOf Tryz.f86) rfl pri_run
def insI : List D := [.sl 2 1 [.sl 4 2 [I 0, I 0, I 3, I 0, I 3, I 3, I 0, I 3], .sl 4 2 [I 1, I 1, I 1, I 2, I 2, I 2, I 2, I 1]], .agg [I 1, I 1]]
def insO : D := .tup [Bo false, I 0]
theorem ins_run : bodyD (cfgX w0 awA) (ev (cfgX w0 awA) 400) (fnOf Tryz.f17) insI = some insO := by kernel_rfl
theorem ins_at (h0 : Lib0 w0) : RunAt w0 17 (insI, insO) := run_at h0 (awA_gd h0) (g := 17) (fd := fnOf Tryz.f17) rfl ins_run
def joiI : List D := [.agg [I 1, I 1, .sl 1 1 [I 5]], .agg [I 1, I 1, .sl 1 1 [I 6]]]
def joiO : D := .tup [.agg [I 2, I 1, .sl 2 1 [I 5, I 6]], I 0]
theorem joi_run : bodyD (cfgX w0 awB) (ev (cfgX w0 awB) 400) (fnOf Tryz.f80) joiI = some joiO := by kernel_rfl
theorem joi_at (h0 : Lib0 w0) : RunAt w0 80 (joiI, joiO) := run_at h0 (awB_gd h0) (g := 80) (fd := fnOf Tryz.f80) rfl joi_run
def louI : List D := [.sl 2 3 [I 2, I 1, .sl 2 1 [I 0, I 5], I 2, I 1, .sl 2 1 [I 0, I 6]]]
def louO : D := .tup [.sl 2 1 [I (-1), I 1], I 0]
theorem lou_run : bodyD (cfgX w0 awB) (ev (cfgX w0 awB) 400) (fnOf Tryz.f46) louI = some louO := by kernel_rfl
theorem lou_at (h0 : Lib0 w0) : RunAt w0 46 (louI, louO) := run_at h0 (awB_gd h0) (g := 46) (fd := fnOf Tryz.f46) rfl lou_run
def difI : List D := [.agg [I 1, I 1, .sl 1 1 [I 9]], .agg [I 1, I 1, .sl 1 1 [I 100]]]
def difO : D := .tup [.sl 1 1 [I 11], I 0]
theorem dif_run : bodyD (cfgX w0 awB) (ev (cfgX w0 awB) 400) (fnOf Tryz.f62) difI = some difO := by kernel_rfl
theorem dif_at (h0 : Lib0 w0) : RunAt w0 62 (difI, difO) := run_at h0 (awB_gd h0) (g := 62) (fd := fnOf Tryz.f62) rfl dif_run
def atI : List D := [.agg [I 3, I 2, .sl 6 1 [I 10, I 100, I 100, I 9, I 10, I 1000]], .agg [I 2, I 1]]
def atO : D := .tup [I 1000, I 0]
theorem at_run : bodyD (cfgX w0 awB) (ev (cfgX w0 awB) 400) (fnOf Tryz.f64) atI = some atO := by kernel_rfl
theorem at_at (h0 : Lib0 w0) : RunAt w0 64 (atI, atO) := run_at h0 (awB_gd h0) (g := 64) (fd := fnOf Tryz.f64) rfl at_run
end
end Go.Proofs.YthcpfignhalffaaGreatDoor
namespace Go.Proofs.YthcpfignhalffaaGreatDoor
open Go Go.Am
set_option maxRecDepth 100000
variable {w0 : World}
noncomputable section
def cc0I : List D := [.agg [I 3, I 2, .sl 6 1 [I 10, I 100, I 100, I 9, I 10, I 1000]], I 10, .sl 1 1 [.sl 6 2 [I 1, I 0, I 3, I 0, I 3, I 2, I 2, I 2, I 2, I 1, I 1, I 1]]]
def cc0O : D := I 0
theorem cc0_run : bodyD (cfgX w0 awB) (ev (cfgX w0 awB) 400) (fnOf Tryz.f29) cc0I = some cc0O := by kernel_rfl
theorem cc0_at (h0 : Lib0 w0) : RunAt w0 29 (cc0I, cc0O) := run_at h0 (awB_gd h0) (g := 29) (fd := fnOf Tryz.f29) rfl cc0_run
end
end Go.Proofs.YthcpfignhalffaaGreatDoor
namespace Go.Proofs.YthcpfignhalffaaGreatDoor
open Go Go.Am
set_option maxRecDepth 100000
variable {w0 : World}
noncomputable section
def cc1I : List D := [.agg [I 3, I 2, .sl 6 1 [I 10, I 100, I 100, I 9, I 10, I 1000]], I 10, .sl 1 1 [.sl 6 2 [I 0, I 0, I 3, I 0, I 3, I 2, I 1, I 2, I 1, I 1, I 0, I 1]]]
def cc1O : D := I 19
theorem cc1_run : bodyD (cfgX w0 awB) (ev (cfgX w0 awB) 400) (fnOf Tryz.f29) cc1I = some cc1O := by kernel_rfl
theorem cc1_at (h0 : Lib0 w0) : RunAt w0 29 (cc1I, cc1O) := run_at h0 (awB_gd h0) (g := 29) (fd := fnOf Tryz.f29) rfl cc1_run
end
end Go.Proofs.YthcpfignhalffaaGreatDoor
namespace Go.Proofs.YthcpfignhalffaaGreatDoor
open Go Go.Am
set_option maxRecDepth 100000
variable {w0 : World}
noncomputable section
def ab0I : List D := [.agg [I 3, I 2, .sl 6 1 [I 10, I 100, I 100, I 9, I 10, I 1000]], I 10]
def ab0O : D := .sl 6 1 [Bo false, Bo true, Bo true, Bo false, Bo false, Bo true]
theorem ab0_run : bodyD (cfgX w0 awB) (ev (cfgX w0 awB) 400) (fnOf Tryz.f102) ab0I = some ab0O := by kernel_rfl
theorem ab0_at (h0 : Lib0 w0) : RunAt w0 102 (ab0I, ab0O) := run_at h0 (awB_gd h0) (g := 102) (fd := fnOf Tryz.f102) rfl ab0_run
def ab1I : List D := [.agg [I 3, I 2, .sl 6 1 [I 10, I 100, I 100, I 9, I 10, I 1000]], I 0]
def ab1O : D := .sl 6 1 [Bo true, Bo true, Bo true, Bo false, Bo true, Bo true]
theorem ab1_run : bodyD (cfgX w0 awB) (ev (cfgX w0 awB) 400) (fnOf Tryz.f102) ab1I = some ab1O := by kernel_rfl
theorem ab1_at (h0 : Lib0 w0) : RunAt w0 102 (ab1I, ab1O) := run_at h0 (awB_gd h0) (g := 102) (fd := fnOf Tryz.f102) rfl ab1_run
def ab2I : List D := [.agg [I 3, I 2, .sl 6 1 [I 10, I 100, I 100, I 9, I 10, I 1000]], I 21]
def ab2O : D := .sl 6 1 [Bo false, Bo false, Bo false, Bo false, Bo false, Bo false]
theorem ab2_run : bodyD (cfgX w0 awB) (ev (cfgX w0 awB) 400) (fnOf Tryz.f102) ab2I = some ab2O := by kernel_rfl
theorem ab2_at (h0 : Lib0 w0) : RunAt w0 102 (ab2I, ab2O) := run_at h0 (awB_gd h0) (g := 102) (fd := fnOf Tryz.f102) rfl ab2_run
def ab3I : List D := [.agg [I 2, I 2, .sl 4 1 [I 10, I 0, I 0, I 10]], I 0]
def ab3O : D := .sl 4 1 [Bo true, Bo false, Bo false, Bo true]
theorem ab3_run : bodyD (cfgX w0 awB) (ev (cfgX w0 awB) 400) (fnOf Tryz.f102) ab3I = some ab3O := by kernel_rfl
theorem ab3_at (h0 : Lib0 w0) : RunAt w0 102 (ab3I, ab3O) := run_at h0 (awB_gd h0) (g := 102) (fd := fnOf Tryz.f102) rfl ab3_run
def ab4I : List D := [.agg [I 3, I 3, .sl 9 1 [I 10, I 10, I 10, I 10, I 0, I 10, I 10, I 10, I 10]], I 0]
def ab4O : D := .sl 9 1 [Bo true, Bo true, Bo true, Bo true, Bo false, Bo true, Bo true, Bo true, Bo true]
theorem ab4_run : bodyD (cfgX w0 awB) (ev (cfgX w0 awB) 400) (fnOf Tryz.f102) ab4I = some ab4O := by kernel_rfl
theorem ab4_at (h0 : Lib0 w0) : RunAt w0 102 (ab4I, ab4O) := run_at h0 (awB_gd h0) (g := 102) (fd := fnOf Tryz.f102) rfl ab4_run
end
end Go.Proofs.YthcpfignhalffaaGreatDoor
namespace Go.Proofs.YthcpfignhalffaaGreatDoor
open Go Go.Am
set_option maxRecDepth 100000
variable {w0 : World}
noncomputable section
def sh0I : List D := [.sl 8 2 [I 1, I 0, I 2, I 0, I 3, I 0, I 3, I 1, I 3, I 2, I 2, I 2, I 2, I 1, I 1, I 1]]
def sh0O : D := .sl 6 2 [I 1, I 0, I 3, I 0, I 3, I 2, I 2, I 2, I 2, I 1, I 1, I 1]
theorem sh0_run : bodyD (cfgX w0 awA) (ev (cfgX w0 awA) 400) (fnOf Tryz.f103) sh0I = some sh0O := by kernel_rfl
theorem sh0_at (h0 : Lib0 w0) : RunAt w0 103 (sh0I, sh0O) := run_at h0 (awA_gd h0) (g := 103) (fd := fnOf Tryz.f103) rfl sh0_run
def sh1I : List D := [.sl 10 2 [I 0, I 0, I 1, I 0, I 2, I 0, I 3, I 0, I 3, I 1, I 3, I 2, I 2, I 2, I 1, I 2, I 1, I 1, I 0, I 1]]
def sh1O : D := .sl 6 2 [I 0, I 0, I 3, I 0, I 3, I 2, I 1, I 2, I 1, I 1, I 0, I 1]
theorem sh1_run : bodyD (cfgX w0 awA) (ev (cfgX w0 awA) 400) (fnOf Tryz.f103) sh1I = some sh1O := by kernel_rfl
theorem sh1_at (h0 : Lib0 w0) : RunAt w0 103 (sh1I, sh1O) := run_at h0 (awA_gd h0) (g := 103) (fd := fnOf Tryz.f103) rfl sh1_run
def sh2I : List D := [.sl 4 2 [I 0, I 0, I 1, I 0, I 1, I 1, I 0, I 1]]
def sh2O : D := .sl 4 2 [I 0, I 0, I 1, I 0, I 1, I 1, I 0, I 1]
theorem sh2_run : bodyD (cfgX w0 awA) (ev (cfgX w0 awA) 400) (fnOf Tryz.f103) sh2I = some sh2O := by kernel_rfl
theorem sh2_at (h0 : Lib0 w0) : RunAt w0 103 (sh2I, sh2O) := run_at h0 (awA_gd h0) (g := 103) (fd := fnOf Tryz.f103) rfl sh2_run
end
end Go.Proofs.YthcpfignhalffaaGreatDoor
namespace Go.Proofs.YthcpfignhalffaaGreatDoor
open Go Go.Am
set_option maxRecDepth 100000
variable {w0 : World}
noncomputable section
def sh3I : List D := [.sl 4 2 [I 1, I 1, I 2, I 1, I 2, I 2, I 1, I 2]]
def sh3O : D := .sl 4 2 [I 1, I 1, I 2, I 1, I 2, I 2, I 1, I 2]
theorem sh3_run : bodyD (cfgX w0 awA) (ev (cfgX w0 awA) 400) (fnOf Tryz.f103) sh3I = some sh3O := by kernel_rfl
theorem sh3_at (h0 : Lib0 w0) : RunAt w0 103 (sh3I, sh3O) := run_at h0 (awA_gd h0) (g := 103) (fd := fnOf Tryz.f103) rfl sh3_run
def sh4I : List D := [.sl 12 2 [I 0, I 0, I 1, I 0, I 2, I 0, I 3, I 0, I 3, I 1, I 3, I 2, I 3, I 3, I 2, I 3, I 1, I 3, I 0, I 3, I 0, I 2, I 0, I 1]]
def sh4O : D := .sl 4 2 [I 0, I 0, I 3, I 0, I 3, I 3, I 0, I 3]
theorem sh4_run : bodyD (cfgX w0 awA) (ev (cfgX w0 awA) 400) (fnOf Tryz.f103) sh4I = some sh4O := by kernel_rfl
theorem sh4_at (h0 : Lib0 w0) : RunAt w0 103 (sh4I, sh4O) := run_at h0 (awA_gd h0) (g := 103) (fd := fnOf Tryz.f103) rfl sh4_run
def sh5I : List D := [.sl 4 2 [I 2, I 1, I 1, I 1, I 1, I 2, I 2, I 2]]
def sh5O : D := .sl 4 2 [I 1, I 1, I 1, I 2, I 2, I 2, I 2, I 1]
theorem sh5_run : bodyD (cfgX w0 awA) (ev (cfgX w0 awA) 400) (fnOf Tryz.f103) sh5I = some sh5O := by kernel_rfl
theorem sh5_at (h0 : Lib0 w0) : RunAt w0 103 (sh5I, sh5O) := run_at h0 (awA_gd h0) (g := 103) (fd := fnOf Tryz.f103) rfl sh5_run
end
end Go.Proofs.YthcpfignhalffaaGreatDoor
namespace Go.Proofs.YthcpfignhalffaaGreatDoor
open Go Go.Am
set_option maxRecDepth 100000
variable {w0 : World}
noncomputable section
def awC : List Ct := atC 102 [(ab0I, ab0O), (ab1I, ab1O), (ab2I, ab2O), (ab3I, ab3O), (ab4I, ab4O)] :: atC 103 [(sh0I, sh0O), (sh1I, sh1O), (sh2I, sh2O), (sh3I, sh3O), (sh4I, sh4O), (sh5I, sh5O)] :: awB
theorem awC_gd (h0 : Lib0 w0) : Gds (cfg w0) awC := ⟨gd_at ⟨ab0_at h0, ab1_at h0, ab2_at h0, ab3_at h0, ab4_at h0, trivial⟩, gd_at ⟨sh0_at h0, sh1_at h0, sh2_at h0, sh3_at h0, sh4_at h0, sh5_at h0, trivial⟩, awB_gd h0⟩
end
end Go.Proofs.YthcpfignhalffaaGreatDoor
namespace Go.Proofs.YthcpfignhalffaaGreatDoor
open Go Go.Am
set_option maxRecDepth 100000
variable {w0 : World}
noncomputable section
def co0I : List D := [.agg [I 3, I 2, .sl 6 1 [I 10, I 100, I 100, I 9, I 10, I 1000]], I 10]
def co0O : D := .tup [.sl 1 1 [.sl 6 2 [I 1, I 0, I 3, I 0, I 3, I 2, I 2, I 2, I 2, I 1, I 1, I 1]], I 0]
theorem co0_run : bodyD (cfgX w0 awC) (ev (cfgX w0 awC) 400) (fnOf Tryz.f15) co0I = some co0O := by kernel_rfl
theorem co0_at (h0 : Lib0 w0) : RunAt w0 15 (co0I, co0O) := run_at h0 (awC_gd h0) (g := 15) (fd := fnOf Tryz.f15) rfl co0_run
end
end Go.Proofs.YthcpfignhalffaaGreatDoor
namespace Go.Proofs.YthcpfignhalffaaGreatDoor
open Go Go.Am
set_option maxRecDepth 100000
variable {w0 : World}
noncomputable section
def co1I : List D := [.agg [I 3, I 2, .sl 6 1 [I 10, I 100, I 100, I 9, I 10, I 1000]], I 0]
def co1O : D := .tup [.sl 1 1 [.sl 6 2 [I 0, I 0, I 3, I 0, I 3, I 2, I 1, I 2, I 1, I 1, I 0, I 1]], I 0]
theorem co1_run : bodyD (cfgX w0 awC) (ev (cfgX w0 awC) 400) (fnOf Tryz.f15) co1I = some co1O := by kernel_rfl
theorem co1_at (h0 : Lib0 w0) : RunAt w0 15 (co1I, co1O) := run_at h0 (awC_gd h0) (g := 15) (fd := fnOf Tryz.f15) rfl co1_run
end
end Go.Proofs.YthcpfignhalffaaGreatDoor
namespace Go.Proofs.YthcpfignhalffaaGreatDoor
open Go Go.Am
set_option maxRecDepth 100000
variable {w0 : World}
noncomputable section
def co2I : List D := [.agg [I 3, I 2, .sl 6 1 [I 10, I 100, I 100, I 9, I 10, I 1000]], I 21]
def co2O : D := .tup [.val (.slice none 0 0), I 0]
theorem co2_run : bodyD (cfgX w0 awC) (ev (cfgX w0 awC) 400) (fnOf Tryz.f15) co2I = some co2O := by kernel_rfl
theorem co2_at (h0 : Lib0 w0) : RunAt w0 15 (co2I, co2O) := run_at h0 (awC_gd h0) (g := 15) (fd := fnOf Tryz.f15) rfl co2_run
end
end Go.Proofs.YthcpfignhalffaaGreatDoor
namespace Go.Proofs.YthcpfignhalffaaGreatDoor
open Go Go.Am
set_option maxRecDepth 100000
variable {w0 : World}
noncomputable section
def co3I : List D := [.agg [I 2, I 2, .sl 4 1 [I 10, I 0, I 0, I 10]], I 0]
def co3O : D := .tup [.sl 2 1 [.sl 4 2 [I 0, I 0, I 1, I 0, I 1, I 1, I 0, I 1], .sl 4 2 [I 1, I 1, I 2, I 1, I 2, I 2, I 1, I 2]], I 0]
theorem co3_run : bodyD (cfgX w0 awC) (ev (cfgX w0 awC) 400) (fnOf Tryz.f15) co3I = some co3O := by kernel_rfl
theorem co3_at (h0 : Lib0 w0) : RunAt w0 15 (co3I, co3O) := run_at h0 (awC_gd h0) (g := 15) (fd := fnOf Tryz.f15) rfl co3_run
end
end Go.Proofs.YthcpfignhalffaaGreatDoor
namespace Go.Proofs.YthcpfignhalffaaGreatDoor
open Go Go.Am
set_option maxRecDepth 100000
variable {w0 : World}
noncomputable section
def co4I : List D := [.agg [I 3, I 3, .sl 9 1 [I 10, I 10, I 10, I 10, I 0, I 10, I 10, I 10, I 10]], I 0]
def co4O : D := .tup [.sl 2 1 [.sl 4 2 [I 0, I 0, I 3, I 0, I 3, I 3, I 0, I 3], .sl 4 2 [I 1, I 1, I 1, I 2, I 2, I 2, I 2, I 1]], I 0]
theorem co4_run : bodyD (cfgX w0 awC) (ev (cfgX w0 awC) 400) (fnOf Tryz.f15) co4I = some co4O := by kernel_rfl
theorem co4_at (h0 : Lib0 w0) : RunAt w0 15 (co4I, co4O) := run_at h0 (awC_gd h0) (g := 15) (fd := fnOf Tryz.f15) rfl co4_run
end
end Go.Proofs.YthcpfignhalffaaGreatDoor
namespace Go.Proofs.YthcpfignhalffaaGreatDoor
open Go Go.Am
set_option maxRecDepth 100000
variable {w0 : World}
noncomputable section
def awD : List Ct := atC 15 [(co0I, co0O), (co1I, co1O), (co2I, co2O), (co3I, co3O), (co4I, co4O)] :: atC 17 [(insI, insO)] :: atC 29 [(cc0I, cc0O), (cc1I, cc1O)] :: atC 30 [(ar0I, ar0O), (ar1I, ar1O)] :: atC 31 [(expI, expO)] :: atC 33 [(claI, claO)] :: atC 43 [(addI, addO)] :: atC 45 [(shaI, shaO)] :: atC 46 [(louI, louO)] :: atC 47 [(witI, witO)] :: atC 62 [(difI, difO)] :: atC 64 [(atI, atO)] :: atC 65 [(levI, levO)] :: atC 67 [(hotI, hotO)] :: atC 78 [(tilI, tilO)] :: atC 80 [(joiI, joiO)] :: atC 86 [(priI, priO)] :: awA
theorem awD_gd (h0 : Lib0 w0) : Gds (cfg w0) awD := ⟨gd_at ⟨co0_at h0, co1_at h0, co2_at h0, co3_at h0, co4_at h0, trivial⟩, gd_at ⟨ins_at h0, trivial⟩, gd_at ⟨cc0_at h0, cc1_at h0, trivial⟩, gd_at ⟨ar0_at h0, ar1_at h0, trivial⟩, gd_at ⟨exp_at h0, trivial⟩, gd_at ⟨cla_at h0, trivial⟩, gd_at ⟨add_at h0, trivial⟩, gd_at ⟨sha_at h0, trivial⟩, gd_at ⟨lou_at h0, trivial⟩, gd_at ⟨wit_at h0, trivial⟩, gd_at ⟨dif_at h0, trivial⟩, gd_at ⟨at_at h0, trivial⟩, gd_at ⟨lev_at h0, trivial⟩, gd_at ⟨hot_at h0, trivial⟩, gd_at ⟨til_at h0, trivial⟩, gd_at ⟨joi_at h0, trivial⟩, gd_at ⟨pri_at h0, trivial⟩, awA_gd h0⟩
theorem awake_run : bodyD (cfgX w0 awD) (ev (cfgX w0 awD) 400) (fnOf Tryz.f14) [] = some (Bo true) := by kernel_rfl
def c14 : Ct := atC 14 [([], Bo true)]
theorem gd14 (h0 : Lib0 w0) : Gd (cfg w0) c14 := gd_at ⟨run_at h0 (awD_gd h0) (g := 14) (fd := fnOf Tryz.f14) rfl awake_run, trivial⟩
end
end Go.Proofs.YthcpfignhalffaaGreatDoor
