/-
 A part of the proof of the statement that the claim names: see the last file.
-/
import Derived.Test.YthcpfignhalffaaGreatDoorPe
namespace Go.Proofs.YthcpfignhalffaaGreatDoor
open Go Go.Am
set_option maxRecDepth 100000
variable {w0 : World}
noncomputable section
noncomputable def stp2 (l : List (Tup intK)) (j : Nat) (_ : Unit) : X × Unit := bif bgI l (j : Int) then (X.ret, ()) else (X.normal, ())
noncomputable def run2 (l : List (Tup intK)) : X × (Int × Unit) := rgRun 2 (stp2 l) l.length 0 ()
noncomputable def anyB (l : List (Tup intK)) : Bool := (List.range' 0 l.length).any fun j => bgI l (j : Int)
noncomputable def ld2 : Ld := ⟨2, (fnOf Tryz.f6).ntmps, rg2, fun ds => match ds with
 | [.vec ks l, _, _, d1, d2, d3, d4, d5, d6, _] => match recast ks intK l with
   | some l => .br (Nat.ble l.length 100000) (.br (anyB l) (.leaf (.ret, [.vec intK l, I l.length, I (run2 l).2.1, d1, d2, d3, d4, d5, d6, Bo true])) (.leaf (.normal, [.vec intK l, I l.length, I (run2 l).2.1, d1, d2, d3, d4, d5, d6, Bo false]))) .bad
   | none => .bad
 | _ => .bad⟩
noncomputable def ob2 (gs : List Gr) (pp : List (Tup ptK)) (v : Int) (vs : List (Tup intK)) (a b c : Int) (l : List (Tup intK)) (k : Int) : Ld × Code × List D := (ld2, .loop (lpB 2 (fnOf Tryz.f6).body), sg2 gs pp v vs a b c l k 0 false)
noncomputable def ld6 (gs : List Gr) (A : Gr) (th bk lo : List (Tup intK)) (gn cl : List (Tup ptK)) (al q : Int × Int) : Ld := ldP 6 (fnOf Tryz.f6).ntmps rg6 .normal (sg6 gs A th bk lo gn cl al ((cl.length : Int), q))
noncomputable def ob6 (gs : List Gr) (A : Gr) (th bk lo : List (Tup intK)) (gn cl : List (Tup ptK)) (al q : Int × Int) : Ld × Code × List D := (ld6 gs A th bk lo gn cl al q, .loop (lpB 6 (fnOf Tryz.f6).body), sg6 gs A th bk lo gn cl al (0, (0, 0)))
noncomputable def ld8 (gs : List Gr) (A : Gr) (th bk lo : List (Tup intK)) (gn : List (Tup ptK)) (es : Lv) : Ld := ldP 8 (fnOf Tryz.f6).ntmps rg8 .normal (sg8 gs A th bk lo gn false ((gn.length : Int), es))
noncomputable def ob8 (gs : List Gr) (A : Gr) (th bk lo : List (Tup intK)) (gn : List (Tup ptK)) (es : Lv) : Ld × Code × List D := (ld8 gs A th bk lo gn es, .loop (lpB 8 (fnOf Tryz.f6).body), sg8 gs A th bk lo gn false (0, []))
noncomputable def ld10 (gs : List Gr) (A : Gr) (th bk lo : List (Tup intK)) (es : Lv) : Ld := ldP 10 (fnOf Tryz.f6).ntmps rg10 .normal (sg10 gs A th bk lo es false (th.length : Int))
noncomputable def ob10 (gs : List Gr) (A : Gr) (th bk lo : List (Tup intK)) (es : Lv) : Ld × Code × List D := (ld10 gs A th bk lo es, .loop (lpB 10 (fnOf Tryz.f6).body), sg10 gs A th bk lo es false 0)
noncomputable def low6 (a : Int) : Int := (IntKind.i64.wrap a).tmod 100
noncomputable def mid6 (a b : Int) : Int := IntKind.i64.wrap (IntKind.i64.wrap (low6 a + 1) + (IntKind.i64.wrap b).tmod 10)
noncomputable def hig6 (a b c : Int) : Int := IntKind.i64.wrap (IntKind.i64.wrap (mid6 a b + 1) + (IntKind.i64.wrap c).tmod 10)
noncomputable def lvs6 (a b c : Int) : List (Tup intK) := [t1 (low6 a), t1 (mid6 a b), t1 (hig6 a b c)]
abbrev Ro6 := Option (Obs × D)
noncomputable def gW6 (b : Bool) (k : Ro6) : Ro6 := bif b then k else none
noncomputable def nW6 (ob : Obs) (b : Bool) (k : Ro6) : Ro6 := bif b then some (ob, Bo false) else k
noncomputable def aW6 (ob : Obs) (b : Bool) (k : Ro6) : Ro6 := bif b then some (ob, Bo true) else k
noncomputable def gL6 (gs : List Gr) (k : Ro6) : Ro6 := gW6 (len17 gs && smGs gs) k
structure Vs where
 A : Gr
 B : Gr
 th : List (Tup intK)
 bk : List (Tup intK)
 lo : List (Tup intK)
 gn : List (Tup ptK)
 cl : List (Tup ptK)
 al : Int × Int
 mo : Int × Int
noncomputable def vs6 (gs : List Gr) (pp : List (Tup ptK)) (a b c : Int) : Vs := ⟨(addX gs).1, (addX gs.reverse).1, difX (hdG gs) (addX gs).1, difX (addX gs).1 (hdG gs), (loudX gs).1, (withX gs 0 (low6 a)).1, (clX (hdG gs) pp (lvs6 a b c)).1, (exX (hdG gs) pp (low6 a)).1, (exX (addX gs).1 pp (low6 a)).1⟩
noncomputable def end6 (gs : List Gr) (x : Vs) (q : Int × Int) (es : Lv) (ob : Obs) : Ro6 :=
 nW6 (ob6 gs x.A x.th x.bk x.lo x.gn x.cl x.al q :: ob) (!(q.1 == x.al.1 && (q.2 == x.al.2 && true)))
  (some (ob10 gs x.A x.th x.bk x.lo es :: ob8 gs x.A x.th x.bk x.lo x.gn es :: ob6 gs x.A x.th x.bk x.lo x.gn x.cl x.al q :: ob, Bo true))
noncomputable def mdC6 (gs : List Gr) (pp : List (Tup ptK)) (a b c : Int) (x : Vs) (ob : Obs) (k : Ro6) : Ro6 :=
 nW6 ob (e62 (hdG gs) x.A != 0) (nW6 ob (e62 x.A (hdG gs) != 0) (nW6 ob ((withX gs 0 (low6 a)).2 != 0) (nW6 ob ((exX (hdG gs) pp (low6 a)).2 != 0) (nW6 ob ((exX x.A pp (low6 a)).2 != 0) (nW6 ob ((clX (hdG gs) pp (lvs6 a b c)).2 != 0) (nW6 ob ((loudX gs).2 != 0)
  (nW6 ob ((x.th.length : Int) != (x.A.l.length : Int)) (nW6 ob ((x.bk.length : Int) != (x.th.length : Int)) (nW6 ob ((x.cl.length : Int) != 3) (nW6 ob ((x.lo.length : Int) != (x.th.length : Int))
   (nW6 ob (decide (x.mo.1 < x.al.1)) (nW6 ob (decide (x.mo.2 < x.al.2)) k))))))))))))
noncomputable def mdB6 (gs : List Gr) (pp : List (Tup ptK)) (x : Vs) (k : Ro6) : Ro6 :=
 gW6 (smG (hdG gs)) (gW6 (smG x.A) (gW6 (smG (hdG gs) && smG x.A) (gW6 (smG x.A) (gW6 (smG (hdG gs)) (gW6 (smG x.A && smG (hdG gs)) (gL6 gs (gL6 gs
  (gW6 (smG (hdG gs)) (gW6 (smP pp) (gW6 (smG (hdG gs) && smP pp) (gW6 (smG x.A) (gW6 (smP pp) (gW6 (smG x.A && smP pp) (gW6 (smG (hdG gs)) (gW6 (smP pp) (gW6 (smG (hdG gs) && (smP pp && Nat.ble 3 100000)) (gL6 gs (gL6 gs k))))))))))))))))))
noncomputable def mdA6 (gs : List Gr) (x : Vs) (ob : Obs) (k : Ro6) : Ro6 :=
 gL6 gs (gL6 gs (gL6 gs.reverse (gL6 gs.reverse (nW6 ob ((addX gs).2 != 0) (nW6 ob ((addX gs.reverse).2 != 0) (gW6 (smG x.A) (nW6 ob (!sameG x.A x.B)
  (bif decide ((x.A.l.length : Int) ≤ 36) then gW6 (smG x.A) (nW6 ob (!(chkG x.A == 0)) (nW6 ob (!sizeB x.A (hdG gs)) k)) else some (ob, Bo false)))))))))
noncomputable def K6 (gs : List Gr) (pp : List (Tup ptK)) (a b c : Int) (q : Int × Int) (es : Lv) (ob : Obs) : Ro6 :=
 mdA6 gs (vs6 gs pp a b c) ob (mdB6 gs pp (vs6 gs pp a b c) (mdC6 gs pp a b c (vs6 gs pp a b c) ob (end6 gs (vs6 gs pp a b c) q es ob)))
noncomputable def Gs6 (all : List Gr) (pp : List (Tup ptK)) (v : Int) (vs : List (Tup intK)) (a b c : Int) (q : Int × Int) (es : Lv) : Nat → Obs → List Gr → Ro6
 | _, ob, [] => K6 all pp a b c q es ob
 | k, ob, g :: gs => gW6 (Nat.ble g.l.length 100000) (aW6 (ob2 all pp v vs a b c g.l (k : Int) :: ob) (anyB g.l) (Gs6 all pp v vs a b c q es (k + 1) (ob2 all pp v vs a b c g.l (k : Int) :: ob) gs))
noncomputable def law6T (gs : List Gr) (pp : List (Tup ptK)) (v : Int) (vs : List (Tup intK)) (a b c : Int) (q : Int × Int) (es : Lv) : Ro6 :=
 aW6 [] (!gs.all few) (gL6 gs (aW6 [] (chkGs gs != 0) (aW6 [] (decide ((pp.length : Int) > 37)) (gW6 (smP pp) (aW6 [] (chkPe (hdG gs) pp != 0) (Gs6 gs pp v vs a b c q es 0 [] gs))))))
noncomputable def L6 (gs : List Gr) (x : Vs) (q : Int × Int) (es : Lv) : List Ld := [ld2, ld6 gs x.A x.th x.bk x.lo x.gn x.cl x.al q, ld8 gs x.A x.th x.bk x.lo x.gn es, ld10 gs x.A x.th x.bk x.lo es]
noncomputable def bd6 (w0 : World) (gs : List Gr) (pp : List (Tup ptK)) (v : Int) (vs : List (Tup intK)) (a b c : Int) (q : Int × Int) (es : Lv) : Ro6 :=
 bodyT (((cfg w0).at cs6).di) 60 (L6 gs (vs6 gs pp a b c) q es) 60 (fnOf Tryz.f6) [slG gs, .agg [.vec ptK pp, I v, .vec intK vs], .agg [.val (.int .u8 a), .val (.int .u8 b), .val (.int .u8 c)]]
end
end Go.Proofs.YthcpfignhalffaaGreatDoor
namespace Go.Proofs.YthcpfignhalffaaGreatDoor
open Go Go.Am
set_option maxRecDepth 100000
variable {w0 : World}
theorem bd6_1 (g1 : Gr) (pp : List (Tup ptK)) (v : Int) (vs : List (Tup intK)) (a b c : Int) (q : Int × Int) (es : Lv) : bd6 w0 [g1] pp v vs a b c q es = law6T [g1] pp v vs a b c q es := by kernel_rfl
end Go.Proofs.YthcpfignhalffaaGreatDoor
