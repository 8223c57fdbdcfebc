/-
 A part of the proof of the statement that the claim names: see the last file.
-/
import Derived.Test.YthcpfignhalffaaGreatDoorPc
import Derived.Test.YthcpfignhalffaaGreatDoorPd
namespace Go.Proofs.YthcpfignhalffaaGreatDoor
open Go Go.Am
set_option maxRecDepth 100000
variable {w0 : World}
noncomputable section
def cs6 : List Ct := [c14, c42, chkGsC 48, chkPeC 35, c44, c43, c59, chkC 20, c61, ownC 16, lawDif, c47, c32, c31, c33, c46, c45]
theorem cs6_gd (h0 : Lib0 w0) : Gds (cfg w0) cs6 := ⟨gd14 h0, gd42 h0, gd48 h0, gd35 h0, gd44 h0, gd43 h0, gd59 h0, gd20 h0, gd61 h0, gd16 h0, gdDif h0, gd47 h0, gd32 h0, gd31 h0, gd33 h0, gd46 h0, gd45 h0, trivial⟩
def rg10 : List (Nat × Cv) := [(341, .sv intK), (342, .id), (343, .id), (22, .sv intK), (32, .sv intK), (37, .id), (13, .id), (0, .id), (6, .id)]
def sg10 (gs : List Gr) (A : Gr) (th bk lo : List (Tup intK)) (es : Lv) (z : Bool) (i : Int) : List D := [.vec intK th, I th.length, I i, .vec intK bk, .vec intK lo, .omap .pt .bool es, .obox [I A.w, I A.h, .ovec intK A.l], slG gs, Bo z]
def cX6 (gs : List Gr) (i : Int) : Int := i.tmod (hdG gs).w
def cY6 (gs : List Gr) (i : Int) : Int := IntKind.i64.wrap (i.tdiv (hdG gs).w)
def sh6 (gs : List Gr) (i : Int) : List (Tup ptK) × Int := shX gs (cX6 gs i) (cY6 gs i)
def ld12 (gs : List Gr) (A : Gr) (th bk : List (Tup intK)) (es : Lv) (lo : List (Tup intK)) (i : Int) (p : Int × Int) : Ld := ldP 12 (fnOf Tryz.f6).ntmps rg12 .normal (sg12 gs A th bk es (sh6 gs i).1 lo i false p)
def ob12 (gs : List Gr) (A : Gr) (th bk : List (Tup intK)) (es : Lv) (lo : List (Tup intK)) (i : Int) (p : Int × Int) : Obs := [(ld12 gs A th bk es lo i p, .loop (lpB 12 (fnOf Tryz.f6).body), sg12 gs A th bk es (sh6 gs i).1 lo i false (0, 0))]
def lvT (es : Lv) (gs : List Gr) (i : Int) : Bool := getT (kk := .pt) (vk := .bool) (cX6 gs i, cY6 gs i) es
def in0 (sh : List (Tup ptK)) : Bool := Nat.beq 2 2 && (decide ((0 : Int) ≤ 0) && decide ((0 : Int) < (sh.length : Int)))
def r10T (gs : List Gr) (A : Gr) (th bk lo : List (Tup intK)) (es : Lv) (i q : Int) (n y e n' y' : Rw6) : Rw6 :=
 bif decide (i < (th.length : Int)) then gI (in1 th i) (zQ (hdG gs).w (zQ (hdG gs).w (nI (decide (nI1 th i < 0)) n (gI (in1 bk i) (nI (nI1 bk i != IntKind.i64.wrap (0 - nI1 th i)) n
  (gI (in1 lo i) (nI (decide (nI1 lo i < -1)) n (gI (in1 lo i) (nI (decide (nI1 lo i ≥ (gs.length : Int))) n (gI (len17 gs && smGs gs) (gI (len17 gs && smGs gs)
   (bif (sh6 gs i).2 == 6 then gI (in1 A.l i) (nI (nI1 A.l i != 0) n (gI (in1 lo i) (nI (nI1 lo i != -1) n (nI (lvT es gs i) n y))))
   else nI ((sh6 gs i).2 != 0) n (nI (((sh6 gs i).1.length : Int) != (gs.length : Int)) n (gI (in1 lo i) (nI (decide (nI1 lo i < 0)) n
    (bif lvT es gs i then gI (in0 (sh6 gs i).1) (nI (sN (sh6 gs i).1 0 == 0) n (gI (in1 A.l i) (nI (q != nI1 A.l i) n' y')))
    else gI (in1 A.l i) (nI (q != nI1 A.l i) n' y'))))))))))))))))) else e
def rn10 (w0 : World) (gs : List Gr) (A : Gr) (th bk lo : List (Tup intK)) (es : Lv) (i : Int) (p : Int × Int) : Rw6 := rndD (((cfg w0).at cs6).di) 60 [ld12 gs A th bk es lo i p] 60 (fnOf Tryz.f6).ntmps rg10 (lpB 10 (fnOf Tryz.f6).body) (sg10 gs A th bk lo es false i)
def t10 (gs : List Gr) (A : Gr) (th bk lo : List (Tup intK)) (es : Lv) (i : Int) (p : Int × Int) : Rw6 := r10T gs A th bk lo es i p.2 (some ([], .ret, sg10 gs A th bk lo es false i)) (some ([], .normal, sg10 gs A th bk lo es false (IntKind.i64.wrap (i + 1)))) (some ([], .exit 10, sg10 gs A th bk lo es false i))
 (some (ob12 gs A th bk es lo i p, .ret, sg10 gs A th bk lo es false i)) (some (ob12 gs A th bk es lo i p, .normal, sg10 gs A th bk lo es false (IntKind.i64.wrap (i + 1))))
def rg6 : List (Nat × Cv) := [(309, .sv ptK), (310, .id), (311, .id), (34, .id), (26, .id), (24, .sv ptK), (20, .sv intK), (22, .sv intK), (32, .sv intK), (13, .id), (0, .id), (6, .id)]
def sg6 (gs : List Gr) (A : Gr) (th bk lo : List (Tup intK)) (gn cl : List (Tup ptK)) (al : Int × Int) (p : Int × (Int × Int)) : List D := [.vec ptK cl, I cl.length, I p.1, .obox [I p.2.1, I p.2.2], .obox [I al.1, I al.2], .vec ptK gn, .vec intK th, .vec intK bk, .vec intK lo, .obox [I A.w, I A.h, .ovec intK A.l], slG gs, Bo false]
def sum6 (cl : List (Tup ptK)) (i : Int) (s : Int × Int) : Int × Int := (IntKind.i64.wrap (s.1 + p1 (nth cl (i.toNat + 0))), IntKind.i64.wrap (s.2 + p2 (nth cl (i.toNat + 0))))
def rn6 (w0 : World) (gs : List Gr) (A : Gr) (th bk lo : List (Tup intK)) (gn cl : List (Tup ptK)) (al : Int × Int) (p : Int × (Int × Int)) : Rw6 := rndD (((cfg w0).at cs6).di) 60 [] 60 (fnOf Tryz.f6).ntmps rg6 (lpB 6 (fnOf Tryz.f6).body) (sg6 gs A th bk lo gn cl al p)
def t6 (gs : List Gr) (A : Gr) (th bk lo : List (Tup intK)) (gn cl : List (Tup ptK)) (al : Int × Int) (p : Int × (Int × Int)) : Rw6 :=
 bif decide (p.1 < (cl.length : Int)) then gI (Nat.beq 2 2 && (decide (0 ≤ p.1) && decide (p.1 < (cl.length : Int)))) (some ([], .normal, sg6 gs A th bk lo gn cl al (IntKind.i64.wrap (p.1 + 1), sum6 cl p.1 p.2))) else some ([], .exit 6, sg6 gs A th bk lo gn cl al p)
theorem rnd10_1 (g1 A : Gr) (th bk lo : List (Tup intK)) (es : Lv) (i : Int) (p : Int × Int) : rn10 w0 [g1] A th bk lo es i p = t10 [g1] A th bk lo es i p := by kernel_rfl
theorem rnd6_1 (g1 A : Gr) (th bk lo : List (Tup intK)) (gn cl : List (Tup ptK)) (al : Int × Int) (i a b : Int) : rn6 w0 [g1] A th bk lo gn cl al (i, (a, b)) = t6 [g1] A th bk lo gn cl al (i, (a, b)) := by kernel_rfl
end
end Go.Proofs.YthcpfignhalffaaGreatDoor
