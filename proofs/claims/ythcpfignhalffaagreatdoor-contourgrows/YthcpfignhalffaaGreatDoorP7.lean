/-
 A part of the proof of the statement that the claim names: see the last file.
-/
import Derived.Test.YthcpfignhalffaaGreatDoorP6
import Derived.Test.YthcpfignhalffaaGreatDoorAm4
namespace Go.Proofs.YthcpfignhalffaaGreatDoor
open Go Go.Am
set_option maxRecDepth 100000
variable {w0 : World}
noncomputable section
abbrev Rw6 := Option (Obs × X × List D)
def gI (b : Bool) (k : Rw6) : Rw6 := bif b then k else none
def nI (b : Bool) (n k : Rw6) : Rw6 := bif b then n else k
def zQ (d : Int) (k : Rw6) : Rw6 := bif decide (d = 0) then none else k
def pkG (j : Int) (k : Gr → Rw6) : List Gr → Nat → Rw6
 | [], _ => none
 | g :: gs, m => bif decide (j = (m : Int)) then k g else pkG j k gs (m + 1)
def inG (gs : List Gr) (j : Int) : Bool := (Nat.beq 3 3 && decide (0 ≤ j)) && decide (j < (gs.length : Int))
def in1 (l : List (Tup intK)) (i : Int) : Bool := Nat.beq 1 1 && (decide (0 ≤ i) && decide (i < (l.length : Int)))
def nI1 (l : List (Tup intK)) (i : Int) : Int := i1 (nth l (i.toNat + 0))
def crw (pp : List (Tup ptK)) (v : Int) (vs : List (Tup intK)) : D := .obox [.vec ptK pp, I v, .vec intK vs]
def n3D (a b c : Int) : D := .obox [.val (.int .u8 a), .val (.int .u8 b), .val (.int .u8 c)]
def rg2 : List (Nat × Cv) := [(89, .id), (90, .id), (91, .id), (82, .id), (83, .id), (84, .id), (0, .id), (4, .id), (5, .id), (6, .id)]
def sg2 (gs : List Gr) (pp : List (Tup ptK)) (v : Int) (vs : List (Tup intK)) (a b c : Int) (l : List (Tup intK)) (k : Int) (i : Int) (z : Bool) : List D := [.vec intK l, I l.length, I i, slG gs, I gs.length, I k, slG gs, crw pp v vs, n3D a b c, Bo z]
def bgI (l : List (Tup intK)) (i : Int) : Bool := decide (nI1 l i > 1000000000000)
def r2T (l : List (Tup intK)) (i : Int) (n y e : Rw6) : Rw6 := bif decide (i < (l.length : Int)) then gI (in1 l i) (nI (bgI l i) n y) else e
theorem rnd2_1 (g1 : Gr) (pp : List (Tup ptK)) (v : Int) (vs : List (Tup intK)) (a b c : Int) (l : List (Tup intK)) (k i : Int) : rndD (((cfg w0).at [c14]).di) 60 [] 60 (fnOf Tryz.f6).ntmps rg2 (lpB 2 (fnOf Tryz.f6).body) (sg2 [g1] pp v vs a b c l k i false) =
  r2T l i (some ([], .ret, sg2 [g1] pp v vs a b c l k i true)) (some ([], .normal, sg2 [g1] pp v vs a b c l k (IntKind.i64.wrap (i + 1)) false)) (some ([], .exit 2, sg2 [g1] pp v vs a b c l k i false)) := by kernel_rfl
def rg8 : List (Nat × Cv) := [(332, .sv ptK), (333, .id), (334, .id), (37, .id), (20, .sv intK), (22, .sv intK), (32, .sv intK), (13, .id), (0, .id), (6, .id)]
abbrev Lv := List ((Int × Int) × Bool)
def sg8 (gs : List Gr) (A : Gr) (th bk lo : List (Tup intK)) (gn : List (Tup ptK)) (z : Bool) (p : Int × Lv) : List D := [.vec ptK gn, I gn.length, I p.1, .omap .pt .bool p.2, .vec intK th, .vec intK bk, .vec intK lo, .obox [I A.w, I A.h, .ovec intK A.l], slG gs, Bo z]
def put8 (gn : List (Tup ptK)) (i : Int) (es : Lv) : Lv := putM (kk := .pt) (vk := .bool) ((nth gn (i.toNat + 0)).1, (nth gn (i.toNat + 0)).2.1) true es
def r8T (gn : List (Tup ptK)) (i : Int) (y e : Rw6) : Rw6 := bif decide (i < (gn.length : Int)) then gI (Nat.beq 2 2 && (decide (0 ≤ i) && decide (i < (gn.length : Int)))) y else e
theorem rnd8_1 (g1 : Gr) (A : Gr) (th bk lo : List (Tup intK)) (gn : List (Tup ptK)) (i : Int) (es : Lv) : rndD (((cfg w0).at [c14]).di) 60 [] 60 (fnOf Tryz.f6).ntmps rg8 (lpB 8 (fnOf Tryz.f6).body) (sg8 [g1] A th bk lo gn false (i, es)) =
  r8T gn i (some ([], .normal, sg8 [g1] A th bk lo gn false (IntKind.i64.wrap (i + 1), put8 gn i es))) (some ([], .exit 8, sg8 [g1] A th bk lo gn false (i, es))) := by kernel_rfl
def rg12 : List (Nat × Cv) := [(443, .sv ptK), (444, .id), (445, .id), (45, .id), (40, .id), (32, .sv intK), (13, .id), (0, .id), (6, .id), (341, .sv intK), (342, .id), (343, .id), (22, .sv intK), (37, .id)]
def sg12 (gs : List Gr) (A : Gr) (th bk : List (Tup intK)) (es : Lv) (sh : List (Tup ptK)) (lo : List (Tup intK)) (i : Int) (z : Bool) (p : Int × Int) : List D := [.vec ptK sh, I sh.length, I p.1, I p.2, I i, .vec intK lo, .obox [I A.w, I A.h, .ovec intK A.l], slG gs, Bo z, .vec intK th, I th.length, I i, .vec intK bk, .omap .pt .bool es]
def sN (sh : List (Tup ptK)) (k : Int) : Int := p1 (nth sh (k.toNat + 0))
def sD (sh : List (Tup ptK)) (k : Int) : Int := p2 (nth sh (k.toNat + 0))
def prt (A : Gr) (sh : List (Tup ptK)) (i k : Int) : Int := IntKind.i64.wrap (sN sh k * IntKind.i64.wrap ((nI1 A.l i).tdiv (sD sh k)))
def r12T (gs : List Gr) (A : Gr) (sh : List (Tup ptK)) (lo : List (Tup intK)) (i k : Int) (n y e : Rw6) : Rw6 :=
 bif decide (k < (sh.length : Int)) then gI (Nat.beq 2 2 && (decide (0 ≤ k) && decide (k < (sh.length : Int)))) (nI (decide (sD sh k < 1)) n
  (gI (in1 A.l i) (zQ (sD sh k) (nI ((nI1 A.l i).tmod (sD sh k) != 0) n (gI (in1 A.l i) (zQ (sD sh k) (gI (inG gs k) (pkG k (fun g => gI (in1 g.l i) (nI (prt A sh i k != nI1 g.l i) n
   (gI (inG gs k) (pkG k (fun g' => gI (in1 g'.l i) (gI (in1 lo i) (gI (inG gs (nI1 lo i)) (pkG (nI1 lo i) (fun g'' => gI (in1 g''.l i) (nI (decide (nI1 g'.l i > nI1 g''.l i)) n
    (gI (in1 A.l i) (zQ (sD sh k) y)))) gs 0)))) gs 0)))) gs 0)))))))) else e
end
end Go.Proofs.YthcpfignhalffaaGreatDoor
