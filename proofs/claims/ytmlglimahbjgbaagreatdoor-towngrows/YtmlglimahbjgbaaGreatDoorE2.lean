/-
  A part of the proof of the statement that the claim names: see the last file.
-/
import Derived.Test.YtmlglimahbjgbaaGreatDoorE1
namespace Go.Proofs.YtmlglimahbjgbaaGreatDoor
open Go Go.Am Go.Town
set_option maxRecDepth 100000
variable {w0 : World}
noncomputable section

/-! # TownGrows: the law -/

def law9 : List Ct := [⟨13, tG awakeF⟩, ⟨15, tG cutsG⟩, ⟨16, tG excG⟩, ⟨17, tG depG⟩, ⟨19, tG checkWallF⟩, ⟨21, tG checkPathF⟩, ⟨28, tG (intsF lengthK)⟩, ⟨29, tG detourG⟩, ⟨81, tG sqrF⟩]
theorem law9_gd (h0 : Lib0 w0) (ha : Good w0 ⟨13, awakeF⟩) : Gds (cfg w0) law9 :=
  ⟨gd_of ha, gd_of (cutsG_good h0), gd_of (excG_good h0), gd_of (depG_good h0), gd_of (rcheck_good (rname_good h0) h0), gd_of (rcheckPath_good h0), gd_of (length_good h0), gd_of (detourG_good h0), gd_of (rsquare_good h0), trivial⟩

def u8 (n : Int) : D := .val (.int .u8 n)
abbrev uk : Kd := .int .u8
abbrev Wl := Tup wallK
abbrev N4 := Tup [uk, uk, uk, uk]
def oW (w : Wl) : D := .obox [Str w.1, I w.2.1, I w.2.2.1, I w.2.2.2.1, I w.2.2.2.2.1, I w.2.2.2.2.2.1, I w.2.2.2.2.2.2.1]
def oN (n : N4) : D := .obox [u8 n.1, u8 n.2.1, u8 n.2.2.1, u8 n.2.2.2.1]
def o3 (s : Tup v3K) : D := .obox [I s.1, I s.2.1, I s.2.2.1]

/-- The wall's height. -/
def hgt (w : Wl) : Int := w.2.2.2.2.2.1
/-- With another height. -/
def setH (w : Wl) (h : Int) : Wl := (w.1, w.2.1, w.2.2.1, w.2.2.2.1, w.2.2.2.2.1, h, w.2.2.2.2.2.2.1, ())
def wCut (w : Wl) (s r : Tup v3K) : Bool := cutP w.2.1 w.2.2.1 w.2.2.2.1 w.2.2.2.2.1 w.2.2.2.2.2.1 s.1 s.2.1 s.2.2.1 r.1 r.2.1 r.2.2.1
def wNum (w : Wl) (s r : Tup v3K) : Int := exNum w.2.1 w.2.2.1 w.2.2.2.1 w.2.2.2.2.1 w.2.2.2.2.2.1 s.1 s.2.1 s.2.2.1 r.1 r.2.1 r.2.2.1
def wDen (w : Wl) (s r : Tup v3K) : Int := exDen w.2.1 w.2.2.1 w.2.2.2.1 w.2.2.2.2.1 w.2.2.2.2.2.1 s.1 s.2.1 s.2.2.1 r.1 r.2.1 r.2.2.1

abbrev Rs := Option (Obs × X × List D)
def gR (b : Bool) (k : Rs) : Rs := bif b then k else none

/-! ## A wall that is higher -/

def rel70 : List (Nat × Cv) := [(3, .id), (5, .id), (7, .id), (8, .id), (9, .id), (10, .id), (6, .id), (70, .id)]
def st70 (w : Wl) (n : N4) (s r : Tup v3K) (up : Int) (v : Wl) (c b : Bool) : List D := [oW w, oN n, o3 s, o3 r, I up, oW v, Bo b, Bo c]

def noR (b : Bool) (st : Bool → List D) (k : Rs) : Rs := bif b then some ([], .ret, st false) else k

def if70D (w : Wl) (n : N4) (s r : Tup v3K) (up : Int) (v : Wl) (c : Bool) : Rs :=
  let st := st70 w n s r up v c
  let fin : Rs := some ([], .normal, st false)
  let r0 : Rs := noR (decide (wDep v s r < wDep w s r)) st
    (bif wCut w s r then
      gR ((wErr w s r == 0) && wCut w s r) (gR ((wErr v s r == 0) && wCut v s r)
        (noR (wDen w s r != wDen v s r) st (noR (wNum v s r != IntKind.i64.wrap (wNum w s r + IntKind.i64.wrap (up * wDen w s r))) st fin)))
    else fin)
  bif c then
    gR (wErr w s r == 0) (gR (wErr v s r == 0) (gR (wErr w s r == 0) (gR (wErr v s r == 0)
      (bif wCut w s r then noR (!wCut v s r) st r0 else r0))))
  else fin

theorem if70_run (w : Wl) (n : N4) (s r : Tup v3K) (up : Int) (v : Wl) : rndD ((cfg w0).at law9) 60 [] 60 (fnOf Tryz.f9).ntmps rel70 (cdB 70 (fnOf Tryz.f9).body) (st70 w n s r up v true false) = if70D w n s r up v true := by kernel_rfl

theorem if70_not (w : Wl) (n : N4) (s r : Tup v3K) (up : Int) (v : Wl) : rndD ((cfg w0).at law9) 60 [] 60 (fnOf Tryz.f9).ntmps rel70 (cdB 70 (fnOf Tryz.f9).body) (st70 w n s r up v false false) = if70D w n s r up v false := by kernel_rfl

/-! ## All moved -/

def rel228 : List (Nat × Cv) := [(3, .id), (5, .id), (7, .id), (8, .id), (25, .id), (26, .id), (27, .id), (6, .id), (228, .id)]
def st228 (w : Wl) (n : N4) (s r : Tup v3K) (v : Wl) (t u : Tup v3K) (c : Bool) (b : Bool) : List D := [oW w, oN n, o3 s, o3 r, oW v, o3 t, o3 u, Bo b, Bo c]
def if228D (w : Wl) (n : N4) (s r : Tup v3K) (v : Wl) (t u : Tup v3K) (c : Bool) : Rs :=
  let st := st228 w n s r v t u c
  bif c then gR (wErr w s r == 0) (gR (wErr v t u == 0) (noR (wDep w s r != wDep v t u) st (some ([], .normal, st false)))) else some ([], .normal, st false)

theorem if228_run (w : Wl) (n : N4) (s r : Tup v3K) (v : Wl) (t u : Tup v3K) : rndD ((cfg w0).at law9) 60 [] 60 (fnOf Tryz.f9).ntmps rel228 (cdB 228 (fnOf Tryz.f9).body) (st228 w n s r v t u true false) = if228D w n s r v t u true := by kernel_rfl
theorem if228_not (w : Wl) (n : N4) (s r : Tup v3K) (v : Wl) (t u : Tup v3K) : rndD ((cfg w0).at law9) 60 [] 60 (fnOf Tryz.f9).ntmps rel228 (cdB 228 (fnOf Tryz.f9).body) (st228 w n s r v t u false false) = if228D w n s r v t u false := by kernel_rfl
end
end Go.Proofs.YtmlglimahbjgbaaGreatDoor

namespace Go.Proofs.YtmlglimahbjgbaaGreatDoor
open Go Go.Am Go.Town
set_option maxRecDepth 100000
variable {w0 : World}
noncomputable section

/-! # TownGrows: the law's run, over told ifs -/

abbrev Rt := Option (Obs × D)
noncomputable def gT (b : Bool) (k : Rt) : Rt := bif b then k else none
noncomputable def anT (o : Obs) (b : Bool) (k : Rt) : Rt := bif b then k else some (o, Bo false)
noncomputable def noT (o : Obs) (b : Bool) (k : Rt) : Rt := bif b then some (o, Bo false) else k

noncomputable def r3T (o : Obs) (ax ay sx sy sz rx ry rz : Int) : Rt :=
  gT (spots3 sx sy sz ax ay sz rx ry rz == 0) (gT (spots3 sx sy sz sx sy sz rx ry rz == 0)
    (anT o (decide (detL (sqZ sx sy sz ax ay sz) (sqZ ax ay sz rx ry rz) (sqZ sx sy sz rx ry rz) ≥ 0))
      (anT o (decide (detH (sqZ sx sy sz ax ay sz) (sqZ ax ay sz rx ry rz) (sqZ sx sy sz rx ry rz) ≥ detL (sqZ sx sy sz ax ay sz) (sqZ ax ay sz rx ry rz) (sqZ sx sy sz rx ry rz)))
        (anT o (detL (sqZ sx sy sz sx sy sz) (sqZ sx sy sz rx ry rz) (sqZ sx sy sz rx ry rz) == 0)
          (anT o (decide (detH (sqZ sx sy sz sx sy sz) (sqZ sx sy sz rx ry rz) (sqZ sx sy sz rx ry rz) ≤ 1)) (some (o, Bo true)))))))

noncomputable def r2T (o : Obs) (ax ay sx sy sz rx ry rz n3 : Int) : Rt :=
  let q := IntKind.i64.wrap (sqZ sx sy sz rx ry rz + IntKind.i64.wrap n3)
  gT (decide (0 ≤ q) && decide (q ≤ 20000000)) (noT o (decide (lowZ q < 0)) (noT o (decide (highZ q < lowZ q)) (noT o (decide (highZ q > IntKind.i64.wrap (lowZ q + 1))) (noT o (decide (highZ q > 5000))
    (noT o (decide (IntKind.i64.wrap (lowZ q * lowZ q) > q)) (noT o (decide (IntKind.i64.wrap (highZ q * highZ q) < q)) (noT o ((lowZ q == highZ q) != (IntKind.i64.wrap (lowZ q * lowZ q) == q)) (r3T o ax ay sx sy sz rx ry rz))))))))

noncomputable def mvd (w : Wl) (dx dy : Int) : Wl := (w.1, IntKind.i64.wrap (@HAdd.hAdd Int Int Int instHAdd w.2.1 dx), IntKind.i64.wrap (@HAdd.hAdd Int Int Int instHAdd w.2.2.1 dy), IntKind.i64.wrap (@HAdd.hAdd Int Int Int instHAdd w.2.2.2.1 dx), IntKind.i64.wrap (@HAdd.hAdd Int Int Int instHAdd w.2.2.2.2.1 dy), w.2.2.2.2.2.1, w.2.2.2.2.2.2.1, ())
noncomputable def mv3 (s : Tup v3K) (dx dy : Int) : Tup v3K := (IntKind.i64.wrap (@HAdd.hAdd Int Int Int instHAdd s.1 dx), IntKind.i64.wrap (@HAdd.hAdd Int Int Int instHAdd s.2.1 dy), s.2.2.1, ())
noncomputable def shift (n : Int) : Int := IntKind.i64.wrap (IntKind.i64.wrap n - 128)
noncomputable def high (w : Wl) (n : N4) : Wl := setH w (IntKind.i64.wrap (hgt w + IntKind.i64.wrap n.1))
noncomputable def pre70 (w : Wl) (n : N4) (s r : Tup v3K) : List D := st70 w n s r (IntKind.i64.wrap n.1) (high w n) (decide (hgt (high w n) ≤ 1000)) false
noncomputable def pre228 (w : Wl) (n : N4) (s r : Tup v3K) (c : Bool) : List D := st228 w n s r (mvd w (shift n.2.1) (shift n.2.2.1)) (mv3 s (shift n.2.1) (shift n.2.2.1)) (mv3 r (shift n.2.1) (shift n.2.2.1)) c false
noncomputable def l70 (w : Wl) (n : N4) (s r : Tup v3K) : Ld := ldP 100070 (fnOf Tryz.f9).ntmps rel70 .normal (pre70 w n s r)
noncomputable def l228 (w : Wl) (n : N4) (s r : Tup v3K) : Ld := ⟨100228, (fnOf Tryz.f9).ntmps, rel228, fun ds => .leaf (.normal, ds)⟩
noncomputable def path9 (w : Wl) (s r : Tup v3K) : Int := firstZ [pChk s, pChk r]

noncomputable def longN9 (w : Wl) : Bool := decide ((ByteArray.size w.1 : Int) > 40)
noncomputable def law9T (w : Wl) (n : N4) (s r : Tup v3K) : Rt :=
  bif longN9 w then some ([], Bo true) else
  bif wChk w != 0 then some ([], Bo true) else
  bif path9 w s r != 0 then some ([], Bo true) else
  let o1 : Obs := [(l70 w n s r, cdB 70 (fnOf Tryz.f9).body, pre70 w n s r)]
  let m := mvd w (shift n.2.1) (shift n.2.2.1)
  let c := path9 w (mv3 s (shift n.2.1) (shift n.2.2.1)) (mv3 r (shift n.2.1) (shift n.2.2.1)) == 0
  bif wChk m == 0 then r2T ((l228 w n s r, cdB 228 (fnOf Tryz.f9).body, pre228 w n s r c) :: o1) w.2.1 w.2.2.1 s.1 s.2.1 s.2.2.1 r.1 r.2.1 r.2.2.1 n.2.2.2.1
  else r2T ((l228 w n s r, cdB 228 (fnOf Tryz.f9).body, pre228 w n s r false) :: o1) w.2.1 w.2.2.1 s.1 s.2.1 s.2.2.1 r.1 r.2.1 r.2.2.1 n.2.2.2.1

noncomputable def wallD (w : Wl) : D := .agg [Str w.1, I w.2.1, I w.2.2.1, I w.2.2.2.1, I w.2.2.2.2.1, I w.2.2.2.2.2.1, I w.2.2.2.2.2.2.1]
theorem law9T_run (w : Wl) (n : N4) (s r : Tup v3K) : bodyT ((cfg w0).at law9) 100 [l70 w n s r, l228 w n s r] 100 (fnOf Tryz.f9) [wallD w, .agg [I s.1, I s.2.1, I s.2.2.1, I r.1, I r.2.1, I r.2.2.1], .agg [u8 n.1, u8 n.2.1, u8 n.2.2.1, u8 n.2.2.2.1]] = law9T w n s r := by kernel_rfl
end
end Go.Proofs.YtmlglimahbjgbaaGreatDoor
