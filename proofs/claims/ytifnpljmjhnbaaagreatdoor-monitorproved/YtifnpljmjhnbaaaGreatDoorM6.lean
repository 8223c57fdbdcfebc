/-
 A part of the proof of the statement that the claim names: see the last file.
-/
import Derived.Test.YtifnpljmjhnbaaaGreatDoorM5
namespace Go.Proofs.YtifnpljmjhnbaaaGreatDoor
open Go Go.Am
set_option maxRecDepth 100000
variable {w0:World}
noncomputable section
def calI:List D:=[I 1000,.agg [I 900,I 950]]
def calO:D:=.tup [.agg [I 1052,I 1112],I 0]
theorem cal_run:bodyD (cfgX w0 awA) (ev (cfgX w0 awA) 400) (fnOf Tryz.f15) calI = some calO:=by kernel_rfl
theorem cal_at (h0:Lib0 w0):RunAt w0 15 (calI,calO):=run_at h0 (awA_gd h0) (g:=15) (fd:=fnOf Tryz.f15) rfl cal_run
def agrI:List D:=[.agg [I 1052,I 1112],.agg [I 1100,I 1200]]
def agrO:D:=.tup [.agg [I 1100,I 1112],I 0]
theorem agr_run:bodyD (cfgX w0 awA) (ev (cfgX w0 awA) 400) (fnOf Tryz.f16) agrI = some agrO:=by kernel_rfl
theorem agr_at (h0:Lib0 w0):RunAt w0 16 (agrI,agrO):=run_at h0 (awA_gd h0) (g:=16) (fd:=fnOf Tryz.f16) rfl agr_run
def corI:List D:=[.sl 2 1 [I 50,I (-1)],.agg [I 1052,I 1112]]
def corO:D:=.tup [.sl 2 2 [I 52,I 56,I (-1),I (-1)],I 0]
theorem cor_run:bodyD (cfgX w0 awA) (ev (cfgX w0 awA) 400) (fnOf Tryz.f25) corI = some corO:=by kernel_rfl
theorem cor_at (h0:Lib0 w0):RunAt w0 25 (corI,corO):=run_at h0 (awA_gd h0) (g:=25) (fd:=fnOf Tryz.f25) rfl cor_run
def beaI:List D:=[I 4,I 1]
def beaO:D:=.tup [I 0,I 0]
theorem bea_run:bodyD (cfgX w0 awA) (ev (cfgX w0 awA) 400) (fnOf Tryz.f45) beaI = some beaO:=by kernel_rfl
theorem bea_at (h0:Lib0 w0):RunAt w0 45 (beaI,beaO):=run_at h0 (awA_gd h0) (g:=45) (fd:=fnOf Tryz.f45) rfl bea_run
def bacI:List D:=[.sl 8 1 [I 5,I 50,I 60,I (-1),I 55,I 4,I 4,I 90],I 50]
def bacO:D:=.tup [I 50,I 0]
theorem bac_run:bodyD (cfgX w0 awA) (ev (cfgX w0 awA) 400) (fnOf Tryz.f27) bacI = some bacO:=by kernel_rfl
theorem bac_at (h0:Lib0 w0):RunAt w0 27 (bacI,bacO):=run_at h0 (awA_gd h0) (g:=27) (fd:=fnOf Tryz.f27) rfl bac_run
def totI:List D:=[.sl 8 1 [I 5,I 50,I 60,I (-1),I 55,I 4,I 4,I 90]]
def totO:D:=.tup [I 268,I 90,I 1,I 0]
theorem tot_run:bodyD (cfgX w0 awA) (ev (cfgX w0 awA) 400) (fnOf Tryz.f28) totI = some totO:=by kernel_rfl
theorem tot_at (h0:Lib0 w0):RunAt w0 28 (totI,totO):=run_at h0 (awA_gd h0) (g:=28) (fd:=fnOf Tryz.f28) rfl tot_run
end
end Go.Proofs.YtifnpljmjhnbaaaGreatDoor
namespace Go.Proofs.YtifnpljmjhnbaaaGreatDoor
open Go Go.Am
set_option maxRecDepth 100000
variable {w0:World}
noncomputable section
def ev0I:List D:=[.sl 8 1 [I 5,I 50,I 60,I (-1),I 55,I 4,I 4,I 90],.agg [I 50,I 1,I 1]]
def ev0O:D:=.tup [.sl 2 6 [I 1,I 5,I 165,I 60,I 2,I 1,I 7,I 8,I 90,I 90,I 7,I 0],I 0]
theorem ev0_run:bodyD (cfgX w0 awA) (ev (cfgX w0 awA) 400) (fnOf Tryz.f36) ev0I = some ev0O:=by kernel_rfl
theorem ev0_at (h0:Lib0 w0):RunAt w0 36 (ev0I,ev0O):=run_at h0 (awA_gd h0) (g:=36) (fd:=fnOf Tryz.f36) rfl ev0_run
def ev1I:List D:=[.sl 8 1 [I 5,I 50,I 60,I (-1),I 55,I 4,I 4,I 90],.agg [I 50,I 2,I 1]]
def ev1O:D:=.tup [.sl 1 6 [I 1,I 8,I 263,I 90,I 7,I 1],I 0]
theorem ev1_run:bodyD (cfgX w0 awA) (ev (cfgX w0 awA) 400) (fnOf Tryz.f36) ev1I = some ev1O:=by kernel_rfl
theorem ev1_at (h0:Lib0 w0):RunAt w0 36 (ev1I,ev1O):=run_at h0 (awA_gd h0) (g:=36) (fd:=fnOf Tryz.f36) rfl ev1_run
end
end Go.Proofs.YtifnpljmjhnbaaaGreatDoor
namespace Go.Proofs.YtifnpljmjhnbaaaGreatDoor
open Go Go.Am
set_option maxRecDepth 100000
variable {w0:World}
noncomputable section
def crlI:List D:=[.sl 4 1 [.val (.float .f32 1065353216),.val (.float .f32 0),.val (.float .f32 0),.val (.float .f32 0)],.sl 4 1 [.val (.float .f32 0),.val (.float .f32 0),.val (.float .f32 0),.val (.float .f32 1065353216)]]
def crlO:D:=.tup [.sl 4 1 [I 0,I 0,I 0,I 256],I 0]
theorem crl_run:bodyD (cfgX w0 awA) (ev (cfgX w0 awA) 400) (fnOf Tryz.f42) crlI = some crlO:=by kernel_rfl
theorem crl_at (h0:Lib0 w0):RunAt w0 42 (crlI,crlO):=run_at h0 (awA_gd h0) (g:=42) (fd:=fnOf Tryz.f42) rfl crl_run
def lagI:List D:=[.sl 4 1 [.val (.float .f32 1065353216),.val (.float .f32 0),.val (.float .f32 0),.val (.float .f32 0)],.sl 4 1 [.val (.float .f32 0),.val (.float .f32 0),.val (.float .f32 0),.val (.float .f32 1065353216)]]
def lagO:D:=.tup [I (-1),.agg [I 256,I 0],I 0]
theorem lag_run:bodyD (cfgX w0 awA) (ev (cfgX w0 awA) 400) (fnOf Tryz.f44) lagI = some lagO:=by kernel_rfl
theorem lag_at (h0:Lib0 w0):RunAt w0 44 (lagI,lagO):=run_at h0 (awA_gd h0) (g:=44) (fd:=fnOf Tryz.f44) rfl lag_run
end
end Go.Proofs.YtifnpljmjhnbaaaGreatDoor
namespace Go.Proofs.YtifnpljmjhnbaaaGreatDoor
open Go Go.Am
set_option maxRecDepth 100000
variable {w0:World}
noncomputable section
def reaI:List D:=[.agg [I 1,I 5,I 165,I 60,I 2,I 1],.agg [Str ⟨#[97]⟩,I 4,I 10,I 100,I 200],I 1]
def reaO:D:=.tup [.sl 1 1 [Str ⟨#[116,105,109,101]⟩],I 0]
theorem rea_run:bodyD (cfgX w0 awA) (ev (cfgX w0 awA) 400) (fnOf Tryz.f54) reaI = some reaO:=by kernel_rfl
theorem rea_at (h0:Lib0 w0):RunAt w0 54 (reaI,reaO):=run_at h0 (awA_gd h0) (g:=54) (fd:=fnOf Tryz.f54) rfl rea_run
def valI:List D:=[.agg [I 1,I 5,I 165,I 60,I 2,I 1],.agg [Str ⟨#[97]⟩,I 4,I 10,I 100,I 200],I 2]
def valO:D:=.tup [I 998,I 0]
theorem val_run:bodyD (cfgX w0 awA) (ev (cfgX w0 awA) 400) (fnOf Tryz.f55) valI = some valO:=by kernel_rfl
theorem val_at (h0:Lib0 w0):RunAt w0 55 (valI,valO):=run_at h0 (awA_gd h0) (g:=55) (fd:=fnOf Tryz.f55) rfl val_run
def unkI:List D:=[.sl 2 6 [I 1,I 5,I 165,I 60,I 2,I 1,I 7,I 8,I 90,I 90,I 7,I 0],.sl 1 5 [Str ⟨#[97]⟩,I 4,I 10,I 100,I 200],I 5]
def unkO:D:=.tup [.sl 1 1 [I 1],I 0]
theorem unk_run:bodyD (cfgX w0 awA) (ev (cfgX w0 awA) 400) (fnOf Tryz.f66) unkI = some unkO:=by kernel_rfl
theorem unk_at (h0:Lib0 w0):RunAt w0 66 (unkI,unkO):=run_at h0 (awA_gd h0) (g:=66) (fd:=fnOf Tryz.f66) rfl unk_run
def bo0I:List D:=[.sl 2 6 [I 1,I 5,I 165,I 60,I 2,I 1,I 7,I 8,I 90,I 90,I 7,I 0],.sl 2 5 [Str ⟨#[97]⟩,I 4,I 10,I 100,I 200,Str ⟨#[98]⟩,I 0,I 3,I 0,I 170],I 5,.agg [.sl 2 1 [I 998,I 0],.sl 2 1 [I 0,I 995]]]
def bo0O:D:=.tup [I 1993,I 0]
theorem bo0_run:bodyD (cfgX w0 awA) (ev (cfgX w0 awA) 400) (fnOf Tryz.f68) bo0I = some bo0O:=by kernel_rfl
theorem bo0_at (h0:Lib0 w0):RunAt w0 68 (bo0I,bo0O):=run_at h0 (awA_gd h0) (g:=68) (fd:=fnOf Tryz.f68) rfl bo0_run
def bo1I:List D:=[.sl 2 6 [I 1,I 5,I 165,I 60,I 2,I 1,I 7,I 8,I 90,I 90,I 7,I 0],.sl 2 5 [Str ⟨#[97]⟩,I 4,I 10,I 100,I 200,Str ⟨#[98]⟩,I 0,I 3,I 0,I 170],I 5,.agg [.sl 2 1 [I 998,I 0],.sl 2 1 [I 0,I 994]]]
def bo1O:D:=.tup [I 0,I 19]
theorem bo1_run:bodyD (cfgX w0 awA) (ev (cfgX w0 awA) 400) (fnOf Tryz.f68) bo1I = some bo1O:=by kernel_rfl
theorem bo1_at (h0:Lib0 w0):RunAt w0 68 (bo1I,bo1O):=run_at h0 (awA_gd h0) (g:=68) (fd:=fnOf Tryz.f68) rfl bo1_run
def cmaI:List D:=[.sl 2 6 [I 1,I 5,I 165,I 60,I 2,I 1,I 7,I 8,I 90,I 90,I 7,I 0],.sl 2 5 [Str ⟨#[97]⟩,I 4,I 10,I 100,I 200,Str ⟨#[98]⟩,I 0,I 3,I 0,I 170],I 5,.sl 2 1 [I 1,I (-1)]]
def cmaO:D:=.tup [I 1000,I 0]
theorem cma_run:bodyD (cfgX w0 awA) (ev (cfgX w0 awA) 400) (fnOf Tryz.f67) cmaI = some cmaO:=by kernel_rfl
theorem cma_at (h0:Lib0 w0):RunAt w0 67 (cmaI,cmaO):=run_at h0 (awA_gd h0) (g:=67) (fd:=fnOf Tryz.f67) rfl cma_run
end
end Go.Proofs.YtifnpljmjhnbaaaGreatDoor
namespace Go.Proofs.YtifnpljmjhnbaaaGreatDoor
open Go Go.Am
set_option maxRecDepth 100000
variable {w0:World}
noncomputable section
def matI:List D:=[.sl 2 6 [I 1,I 5,I 165,I 60,I 2,I 1,I 7,I 8,I 90,I 90,I 7,I 0],.sl 2 5 [Str ⟨#[97]⟩,I 4,I 10,I 100,I 200,Str ⟨#[98]⟩,I 0,I 3,I 0,I 170],I 5]
def matO:D:=.tup [.sl 2 1 [I 0,I 1],I 1993,I 0]
theorem mat_run:bodyD (cfgX w0 awA) (ev (cfgX w0 awA) 400) (fnOf Tryz.f73) matI = some matO:=by kernel_rfl
theorem mat_at (h0:Lib0 w0):RunAt w0 73 (matI,matO):=run_at h0 (awA_gd h0) (g:=73) (fd:=fnOf Tryz.f73) rfl mat_run
def secI:List D:=[.sl 2 6 [I 1,I 5,I 165,I 60,I 2,I 1,I 7,I 8,I 90,I 90,I 7,I 0],.sl 2 5 [Str ⟨#[97]⟩,I 4,I 10,I 100,I 200,Str ⟨#[98]⟩,I 0,I 3,I 0,I 170],I 5]
def secO:D:=.tup [I 1000,I 0]
theorem sec_run:bodyD (cfgX w0 awA) (ev (cfgX w0 awA) 400) (fnOf Tryz.f74) secI = some secO:=by kernel_rfl
theorem sec_at (h0:Lib0 w0):RunAt w0 74 (secI,secO):=run_at h0 (awA_gd h0) (g:=74) (fd:=fnOf Tryz.f74) rfl sec_run
end
end Go.Proofs.YtifnpljmjhnbaaaGreatDoor
namespace Go.Proofs.YtifnpljmjhnbaaaGreatDoor
open Go Go.Am
set_option maxRecDepth 100000
variable {w0:World}
noncomputable section
def priI:List D:=[.sl 8 1 [I 5,I 50,I 60,I (-1),I 55,I 4,I 4,I 90]]
def priO:D:=.tup [Str ⟨#[114,101,99,111,114,100,32,56,10,115,101,99,111,110,100,32,53,10,115,101,99,111,110,100,32,53,48,10,115,101,99,111,110,100,32,54,48,10,109,105,115,115,105,110,103,10,115,101,99,111,110,100,32,53,53,10,115,101,99,111,110,100,32,52,10,115,101,99,111,110,100,32,52,10,115,101,99,111,110,100,32,57,48,10]⟩,I 0]
theorem pri_run:bodyD (cfgX w0 awA) (ev (cfgX w0 awA) 400) (fnOf Tryz.f79) priI = some priO:=by kernel_rfl
theorem pri_at (h0:Lib0 w0):RunAt w0 79 (priI,priO):=run_at h0 (awA_gd h0) (g:=79) (fd:=fnOf Tryz.f79) rfl pri_run
end
end Go.Proofs.YtifnpljmjhnbaaaGreatDoor
namespace Go.Proofs.YtifnpljmjhnbaaaGreatDoor
open Go Go.Am
set_option maxRecDepth 100000
variable {w0:World}
noncomputable section
def awD:List Ct:=atC 15 [(calI,calO)] :: atC 16 [(agrI,agrO)] :: atC 25 [(corI,corO)] :: atC 27 [(bacI,bacO)] :: atC 28 [(totI,totO)] :: atC 36 [(ev0I,ev0O),(ev1I,ev1O)] :: atC 42 [(crlI,crlO)] :: atC 44 [(lagI,lagO)] :: atC 45 [(beaI,beaO)] :: atC 54 [(reaI,reaO)] :: atC 55 [(valI,valO)] :: atC 66 [(unkI,unkO)] :: atC 67 [(cmaI,cmaO)] :: atC 68 [(bo0I,bo0O),(bo1I,bo1O)] :: atC 73 [(matI,matO)] :: atC 74 [(secI,secO)] :: atC 79 [(priI,priO)] :: awA
theorem awD_gd (h0:Lib0 w0):Gds (cfg w0) awD:=⟨gd_at ⟨cal_at h0,trivial⟩,gd_at ⟨agr_at h0,trivial⟩,gd_at ⟨cor_at h0,trivial⟩,gd_at ⟨bac_at h0,trivial⟩,gd_at ⟨tot_at h0,trivial⟩,gd_at ⟨ev0_at h0,ev1_at h0,trivial⟩,gd_at ⟨crl_at h0,trivial⟩,gd_at ⟨lag_at h0,trivial⟩,gd_at ⟨bea_at h0,trivial⟩,gd_at ⟨rea_at h0,trivial⟩,gd_at ⟨val_at h0,trivial⟩,gd_at ⟨unk_at h0,trivial⟩,gd_at ⟨cma_at h0,trivial⟩,gd_at ⟨bo0_at h0,bo1_at h0,trivial⟩,gd_at ⟨mat_at h0,trivial⟩,gd_at ⟨sec_at h0,trivial⟩,gd_at ⟨pri_at h0,trivial⟩,awA_gd h0⟩
theorem awake_run:bodyD (cfgX w0 awD) (ev (cfgX w0 awD) 400) (fnOf Tryz.f23) [] = some (Bo true):=by kernel_rfl
def c23:Ct:=atC 23 [([],Bo true)]
theorem gd23 (h0:Lib0 w0):Gd (cfg w0) c23:=gd_at ⟨run_at h0 (awD_gd h0) (g:=23) (fd:=fnOf Tryz.f23) rfl awake_run,trivial⟩
end
end Go.Proofs.YtifnpljmjhnbaaaGreatDoor
