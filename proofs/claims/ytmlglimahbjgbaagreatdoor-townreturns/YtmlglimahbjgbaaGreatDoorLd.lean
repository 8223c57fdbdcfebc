/-
  A part of the proof of the statement that the claim names: see the last file.
-/
import Derived.Test.YtmlglimahbjgbaaGreatDoorLc
namespace Go.Proofs.YtmlglimahbjgbaaGreatDoor
open Go Go.Am Go.Town
set_option maxRecDepth 100000
variable {w0 : World}
noncomputable section

/-! # TownReturns: the law's run, in parts -/

noncomputable def law8 : List Ct := [⟨13, tG awakeF⟩, c77, tabC 45, ⟨21, tG checkPathF⟩, ⟨32, tG (intsF withinK)⟩, c15v, c16v, c17v, c31, c42, c78, c53, c43, c44]
theorem law8_gd (h0 : Lib0 w0) (ha : Good w0 ⟨13, awakeF⟩) : Gds (cfg w0) law8 :=
  ⟨gd_of ha, gd77 h0, gd45 h0, gd_of (rcheckPath_good h0), gd_of (range_good h0), gd15v h0, gd16v h0, gd17v h0, gd31 h0, gd42 h0, gd78 h0, gd53 h0, gd43 h0, gd44 h0, trivial⟩

noncomputable def eqE (a b : Int) : Bool := a == b
noncomputable def neE (a b : Int) : Bool := a != b
noncomputable def xE2 (a b c d : Int) : Bool := eqE a b && (eqE c d && true)
abbrev Rw := Option (Obs × X × List D)
noncomputable def gW (b : Bool) (k : Rw) : Rw := bif b then k else none
noncomputable def noW (b : Bool) (n k : Rw) : Rw := bif b then n else k
noncomputable def o8 (s r : Tup v3K) (d en : Int) : D := .obox [I s.1, I s.2.1, I s.2.2.1, I r.1, I r.2.1, I r.2.2.1, I d, I en]

/-- The sequence that begins with a region. -/
def sqF (id : Nat) : Code → Option Code
  | .seq a b => match Nat.beq (seqId a) id with
    | true => some (.seq a b)
    | false => match sqF id a with
      | some c => some c
      | none => sqF id b
  | .cond _ a b => match sqF id a with
    | some c => some c
    | none => sqF id b
  | .scope b => sqF id b
  | .loop b => sqF id b
  | .block _ b => sqF id b
  | _ => none
noncomputable def sqC (id : Nat) (c : Code) : Code := (sqF id c).getD .skip

/-! ## The loop over the walls -/

noncomputable def rel8 : List (Nat × Cv) := [(71, .id), (72, .id), (73, .id), (7, .id), (8, .id), (0, .id), (1, .id), (5, .id), (6, .id)]
noncomputable def st8 (l : List (Tup wallK)) (t : List (Tup stpK)) (s r : Tup v3K) (d en : Int) (i : Int) : List D := [.vec wallK l, I l.length, I i, ov3 s, ov3 r, .vec wallK l, .vec stpK t, o8 s r d en, Bo false]
noncomputable def rnd8 (w : Tup wallK) (s r : Tup v3K) (n k : Rw) : Rw :=
  gW (okE w s r) (gW (okE w r s) (gW (okE w s r) (gW (okE w r s) (gW (okE w s r) (gW (okE w r s)
    (noW (neE (exE w s r) (exE w r s)) n (noW (cutW w s r != cutW w r s) n (noW (!xE2 (exN w s r) (exN w r s) (exDn w s r) (exDn w r s)) n (noW (neE (wDep w s r) (wDep w r s)) n
      (noW (cutW w s r != eqE (exE w s r) 0) n (noW (cutW w s r != decide (wDep w s r > 0)) n
        (bif cutW w s r then noW (decide (exN w s r ≤ 0)) n (noW (decide (exDn w s r ≤ 0)) n k) else k))))))))))))
theorem round8 (l : List (Tup wallK)) (t : List (Tup stpK)) (s r : Tup v3K) (d en : Int) (j : Int) : rndD ((cfg w0).at law8) 60 [] 60 (fnOf Tryz.f8).ntmps rel8 (lpB 0 (fnOf Tryz.f8).body) (st8 l t s r d en j) =
    bif decide (j < l.length) then
      bif (Nat.beq 7 7 && (decide (0 ≤ j) && decide (j < l.length))) then
        rnd8 (nth l j.toNat) s r (some ([], .ret, st8 l t s r d en j)) (some ([], .normal, st8 l t s r d en (W (j + 1))))
      else none
    else some ([], .exit 0, st8 l t s r d en j) := by kernel_rfl

/-! ## The mirrors there and back -/

noncomputable def rel21 : List (Nat × Cv) := [(0, .id), (1, .id), (5, .id), (7, .id), (8, .id), (23, .sv mirK), (25, .sv mirK), (215, .sv mirK), (216, .id), (217, .id), (27, .id), (6, .id)]
noncomputable def st21 (l : List (Tup wallK)) (t : List (Tup stpK)) (s r : Tup v3K) (d en : Int) (A B : List (Tup mirK)) (p : Int × Int) : List D := [.vec wallK l, .vec stpK t, o8 s r d en, ov3 s, ov3 r, .vec mirK A, .vec mirK B, .vec mirK A, I A.length, I p.1, I p.2, Bo false]
noncomputable def inW8 (l : List (Tup wallK)) (m : Tup mirK) : Bool := Nat.beq 7 7 && (decide (0 ≤ mW m) && decide (mW m < l.length))
noncomputable def mXn8 (m : Tup mirK) : Int := m.2.2.2.2.1
noncomputable def mXd8 (m : Tup mirK) : Int := m.2.2.2.2.2.1
noncomputable def mYn8 (m : Tup mirK) : Int := m.2.2.2.2.2.2.1
noncomputable def mYd8 (m : Tup mirK) : Int := m.2.2.2.2.2.2.2.1
noncomputable def mZn8 (m : Tup mirK) : Int := m.2.2.2.2.2.2.2.2.1
noncomputable def mZd8 (m : Tup mirK) : Int := m.2.2.2.2.2.2.2.2.2.1
noncomputable def mSq8 (m : Tup mirK) : Int := m.2.2.2.2.2.2.2.2.2.2.1
noncomputable def in11 (A : List (Tup mirK)) (j : Int) : Bool := Nat.beq 11 11 && (decide (0 ≤ j) && decide (j < A.length))
noncomputable def rnd21 (l : List (Tup wallK)) (m k : Tup mirK) (g : Bool) (n y : Rw) : Rw :=
  noW (decide (mW m < 0)) n (noW (decide (mW m ≥ l.length)) n (gW g (noW (neE (mW m) (mW k)) n (gW g (noW (!xE2 (mXn8 m) (mXn8 k) (mXd8 m) (mXd8 k)) n (gW g (noW (!xE2 (mYn8 m) (mYn8 k) (mYd8 m) (mYd8 k)) n
    (gW g (noW (!xE2 (mZn8 m) (mZn8 k) (mZd8 m) (mZd8 k)) n (gW g (noW (neE (mSq8 m) (mSq8 k)) n (gW (inW8 l m) y))))))))))))
/-! ## What is heard -/

noncomputable def rel28 : List (Nat × Cv) := [(0, .id), (1, .id), (5, .id), (7, .id), (8, .id), (23, .sv mirK), (27, .id), (6, .id)]
noncomputable def st28 (l : List (Tup wallK)) (t : List (Tup stpK)) (s r : Tup v3K) (d en : Int) (A : List (Tup mirK)) (e : Int) (b : Bool) : List D := [.vec wallK l, .vec stpK t, o8 s r d en, ov3 s, ov3 r, .vec mirK A, I e, Bo b]
noncomputable def no8 (b : Bool) (n k : Rw) : Rw := bif b then n else k
noncomputable def an8 (b : Bool) (n k : Rw) : Rw := bif b then k else n
noncomputable def llE (l : List (Tup wallK)) : Bool := Nat.ble l.length 100000
noncomputable def tlE (t : List (Tup stpK)) : Bool := Nat.ble t.length 100000
noncomputable def fin8 (n y : Rw) (en e : Int) (len : Nat) (h1 h2 h3 h4 : Int) (a b c d : Tup iv2) : Rw :=
  no8 (neE h1 0) n (no8 (neE h2 0) n (no8 (neE h3 0) n (no8 (neE h4 0) n
    (no8 (!xE2 (xL a) (xL b) (xH a) (xH b)) n (no8 (!xE2 (xL a) (xL c) (xH a) (xH c)) n (no8 (decide (xL d < 0)) n (no8 (decide (xL d > xH d)) n (no8 (decide (xH d > en)) n
      (an8 (decide (xL a ≥ xL d)) n (an8 (decide (xH a ≥ xH d)) n (an8 (decide (IntKind.i64.wrap (IntKind.i64.wrap (IntKind.i64.wrap (xH a - en) - (len : Int)) * 1000) ≤ IntKind.i64.wrap (en * e))) n y)))))))))))
noncomputable def hear8 (n y : Rw) (l : List (Tup wallK)) (t : List (Tup stpK)) (s r : Tup v3K) (en : Int) (len : Nat) (e : Int) : Rw :=
  gW (llE l) (gW (tlE t) (gW (g44 l t s r en) (gW (llE l) (gW (tlE t) (gW (g44 l t r s en) (gW (llE l) (gW (llE l.reverse) (gW (tlE t) (gW (g44 l.reverse t s r en) (gW (llE l) (gW (tlE t)
    (fin8 n y en e len (hrE l t s r en) (hrE l t r s en) (hrE l.reverse t s r en) (eH l t s r en) (or2e (hrE l t s r en) (hear0 l t s r en)) (or2e (hrE l t r s en) (hear0 l t r s en)) (or2e (hrE l.reverse t s r en) (hear0 l.reverse t s r en)) (or2e (eH l t s r en) (scr l t s r en))))))))))))))
noncomputable def un28 (w0 : World) (l : List (Tup wallK)) (t : List (Tup stpK)) (s r : Tup v3K) (d en : Int) (A : List (Tup mirK)) (e : Int) : Rw := rndD ((cfg w0).at law8) 60 [] 60 (fnOf Tryz.f8).ntmps rel28 (sqC 200028 (fnOf Tryz.f8).body) (st28 l t s r d en A e false)
noncomputable def un28T (_ : World) (l : List (Tup wallK)) (t : List (Tup stpK)) (s r : Tup v3K) (d en : Int) (A : List (Tup mirK)) (e : Int) : Rw :=
  hear8 (some ([], .ret, st28 l t s r d en A e false)) (some ([], .ret, st28 l t s r d en A e true)) l t s r en A.length e

/-! ## The whole -/

noncomputable def gO8 (b : Bool) (k : Ro) : Ro := bif b then k else none
noncomputable def nO8 (o : Obs) (b : Bool) (k : Ro) : Ro := bif b then some (o, Bo false) else k
noncomputable def ld8 (l : List (Tup wallK)) (t : List (Tup stpK)) (s r : Tup v3K) (d en : Int) : Ld := ldP 0 (fnOf Tryz.f8).ntmps rel8 .normal (st8 l t s r d en l.length)
noncomputable def ms8 (l : List (Tup wallK)) (s r : Tup v3K) : List (Tup mirK) := orM (e53 l s r) (mirsL l s r)
noncomputable def ld21 (l : List (Tup wallK)) (t : List (Tup stpK)) (s r : Tup v3K) (d en e : Int) : Ld := ldP 2 (fnOf Tryz.f8).ntmps rel21 .normal (st21 l t s r d en (ms8 l s r) (ms8 l r s) ((ms8 l s r).length, e))
noncomputable def ld28 (l : List (Tup wallK)) (t : List (Tup stpK)) (s r : Tup v3K) (d en e : Int) : Ld := ldP 200028 (fnOf Tryz.f8).ntmps rel28 .ret (st28 l t s r d en (ms8 l s r) e true)
noncomputable def ob8 (l : List (Tup wallK)) (t : List (Tup stpK)) (s r : Tup v3K) (d en : Int) : Obs := [(ld8 l t s r d en, .loop (lpB 0 (fnOf Tryz.f8).body), st8 l t s r d en 0)]
noncomputable def obF (l : List (Tup wallK)) (t : List (Tup stpK)) (s r : Tup v3K) (d en e : Int) : Obs :=
  (ld28 l t s r d en e, sqC 200028 (fnOf Tryz.f8).body, st28 l t s r d en (ms8 l s r) e false) :: (ld21 l t s r d en e, .loop (lpB 2 (fnOf Tryz.f8).body), st21 l t s r d en (ms8 l s r) (ms8 l r s) (0, 0)) :: ob8 l t s r d en
noncomputable def law8T (l : List (Tup wallK)) (t : List (Tup stpK)) (s r : Tup v3K) (d en e : Int) : Ro :=
  bif !fewB l then some ([], Bo true) else bif neE (chkTab t) 0 then some ([], Bo true) else bif neE (firstZ [pChk s, pChk r]) 0 then some ([], Bo true) else bif neE (withinZ en 0 1000000000000) 0 then some ([], Bo true) else
  gO8 (llE l) (gO8 (fewL l) (gO8 (llE l) (gO8 (fewL l)
    (nO8 (ob8 l t s r d en) (neE (e53 l s r) 0) (nO8 (ob8 l t s r d en) (neE (e53 l r s) 0) (nO8 (ob8 l t s r d en) (neE ((ms8 l s r).length : Int) ((ms8 l r s).length : Int)) (nO8 (ob8 l t s r d en) (decide (((ms8 l s r).length : Int) > l.length))
      (some (obF l t s r d en e, Bo true)))))))))
noncomputable def bd8 (w0 : World) (l : List (Tup wallK)) (t : List (Tup stpK)) (s r : Tup v3K) (d en e : Int) : Ro := bodyT ((cfg w0).at law8) 100 [ld8 l t s r d en, ld21 l t s r d en e, ld28 l t s r d en e] 100 (fnOf Tryz.f8) [.vec wallK l, .vec stpK t, .agg [I s.1, I s.2.1, I s.2.2.1, I r.1, I r.2.1, I r.2.2.1, I d, I en]]
end
end Go.Proofs.YtmlglimahbjgbaaGreatDoor
