/-
  A part of the proof of the statement that the claim names: see the last file.
-/
import Derived.Test.YtmlglimahbjgbaaGreatDoorL5
import Derived.Test.YtmlglimahbjgbaaGreatDoorL4
import Derived.Test.YtmlglimahbjgbaaGreatDoorAm4
namespace Go.Proofs.YtmlglimahbjgbaaGreatDoor
open Go Go.Am Go.Town
set_option maxRecDepth 100000
variable {w0 : World}
noncomputable section

/-! # Heard: the run -/

noncomputable def bkB (id : Nat) (c : Code) : Code := (blk id c).getD .skip
abbrev echK : List Kd := [ik, ik, ik, ik, ik, ik, ik, ik, ik, ik, ik, ik, ik]
noncomputable def eW (w : Tup wallK) : Int := w.2.2.2.2.2.2.1
noncomputable def mW (m : Tup mirK) : Int := m.1
noncomputable def ecW (l : List (Tup wallK)) (m : Tup mirK) : Int := eW (nth l (mW m).toNat)
noncomputable def t13 (m : Tup mirK) (x : Tup iv2) : Tup echK := (m.1, m.2.1, m.2.2.1, m.2.2.2.1, m.2.2.2.2.1, m.2.2.2.2.2.1, m.2.2.2.2.2.2.1, m.2.2.2.2.2.2.2.1, m.2.2.2.2.2.2.2.2.1, m.2.2.2.2.2.2.2.2.2.1, m.2.2.2.2.2.2.2.2.2.2.1, x.1, x.2.1, ())
noncomputable def echO (l : List (Tup wallK)) (en : Int) (m : Tup mirK) : Tup echK := t13 m (tm en (ecW l m))
noncomputable def resE (l : List (Tup wallK)) (en : Int) : List (Tup mirK) → D
  | [] => nilD
  | m :: ms => .osl (m :: ms).length 13 (((m :: ms).flatMap (fun m => toVs echK (echO l en m))).map .val)

noncomputable def kE (x : Tup echK) : Int := x.1
noncomputable def cEch : Ct := ct 126 [.b echK, .b echK] fun a => .br (decide (kE a.2.1 < kE a.1)) (.leaf (I 1)) .bad
noncomputable def eD (x : Tup echK) : D := .agg [I x.1, I x.2.1, I x.2.2.1, I x.2.2.2.1, I x.2.2.2.2.1, I x.2.2.2.2.2.1, I x.2.2.2.2.2.2.1, I x.2.2.2.2.2.2.2.1, I x.2.2.2.2.2.2.2.2.1, I x.2.2.2.2.2.2.2.2.2.1, I x.2.2.2.2.2.2.2.2.2.2.1, I x.2.2.2.2.2.2.2.2.2.2.2.1, I x.2.2.2.2.2.2.2.2.2.2.2.2.1]
noncomputable def cs126 : List Ct := [⟨101, tG (intsF cmpK)⟩]
theorem run126 (x y : Tup echK) : bodyK ((cfg w0).at cs126) 40 (fnOf Tryz.f126) [eD x, eD y] = some (I (cmpZ (kE x) (kE y))) := by kernel_rfl
theorem cmp_gt {a b : Int} (h : b < a) : cmpZ a b = 1 := by
  unfold cmpZ
  have : ¬ a < b := by omega
  simp [h, this]
theorem gdEch (h0 : Lib0 w0) : Gd (cfg w0) cEch := gd_sig fun a d hd => by
  obtain ⟨hg, hd⟩ := br_run hd
  cases hd
  have : FnD (cfg w0) 126 [eD a.1, eD a.2.1] (I (cmpZ (kE a.1) (kE a.2.1))) := fnD_k (cfg_ok w0) h0 (cs := cs126) ⟨gd_of (cmp_good h0), trivial⟩ (fd := fnOf Tryz.f126) rfl (n := 40) (run126 a.1 a.2.1)
  have e : cmpZ (kE a.1) (kE a.2.1) = 1 := cmp_gt (by simpa using hg)
  rw [e] at this
  exact this

noncomputable def cs44 : List Ct := [c121, c122, tmC 124, c128, c130, cEch]
theorem cs44_gd (h0 : Lib0 w0) : Gds (cfg w0) cs44 := ⟨gd121 h0, gd122 h0, gd124 h0, gd128 h0, gd130 h0, gdEch h0, trivial⟩
noncomputable def rel44 : List (Nat × Cv) := [(1, .id), (4, .id), (6, .id), (7, .id), (8, .id), (9, .id), (11, .id), (30, .id)]
noncomputable def o6 (s r : Tup v3K) : D := .obox [I s.1, I s.2.1, I s.2.2.1, I r.1, I r.2.1, I r.2.2.1]
noncomputable def st44 (l : List (Tup wallK)) (t : List (Tup stpK)) (s r : Tup v3K) (en : Int) (es : D) : List D := [.vec stpK t, .obox [.vec wallK l], o6 s r, .obox [I en], .obox [I 0, I 0], I 0, .obox [es], .fn 170 [] [.obox [.vec wallK l], ov3 s, ov3 r]]
noncomputable def bk44 : Code := bkB 0 (fnOf Tryz.f44).body
abbrev Rx := Option (Obs × X × List D)
noncomputable def goE (l : List (Tup wallK)) (t : List (Tup stpK)) (s r : Tup v3K) (en : Int) : List Nat → List (Tup mirK) → Rx
  | [], acc => some ([], .normal, st44 l t s r en (resE l en acc))
  | j :: js, acc => bif !evW (nth l j) then goE l t s r en js acc else bif okM l j s r then (bif refB l j s r then (bif enB en (eW (nth l j)) then goE l t s r en js (acc ++ [mirW (nth l j) j s r]) else none) else goE l t s r en js acc) else none

noncomputable def ex44 (w0 : World) (l : List (Tup wallK)) (t : List (Tup stpK)) (s r : Tup v3K) (en : Int) : Rx := rndD ((cfg w0).at cs44) 80 [] 80 (fnOf Tryz.f44).ntmps rel44 (.block 0 bk44) (st44 l t s r en nilD)
theorem run44_0 (t : List (Tup stpK)) (s r : Tup v3K) (en : Int) : ex44 w0 [] t s r en = goE [] t s r en [] [] := by kernel_rfl
theorem run44_1 (a : Tup wallK) (t : List (Tup stpK)) (s r : Tup v3K) (en : Int) : ex44 w0 [a] t s r en = goE [a] t s r en [0] [] := by kernel_rfl
theorem run44_2 (a b : Tup wallK) (t : List (Tup stpK)) (s r : Tup v3K) (en : Int) : ex44 w0 [a, b] t s r en = goE [a, b] t s r en [0, 1] [] := by kernel_rfl

noncomputable def xL (x : Tup iv2) : Int := x.1
noncomputable def xH (x : Tup iv2) : Int := x.2.1
noncomputable def addE (l : List (Tup wallK)) (en : Int) (o : Tup iv2) (m : Tup mirK) : Tup iv2 := pr2 (IntKind.i64.wrap (xL o + tmL en (ecW l m))) (IntKind.i64.wrap (xH o + tmH en (ecW l m)))
noncomputable def hear (l : List (Tup wallK)) (t : List (Tup stpK)) (s r : Tup v3K) (en : Int) (ms : List (Tup mirK)) : Tup iv2 := ms.foldl (addE l en) (scr l t s r en)
noncomputable def bigB (x : Tup iv2) : Bool := decide (xH x > 10000000000000)
noncomputable def fin44 (o : Obs) (v : Tup iv2) : Ro := bif bigB v then some (o, .tup [pair z2, I 4]) else some (o, .tup [pair v, I 0])
noncomputable def srtT : List (Tup mirK) → Ro → Ro
  | a :: b :: ms, k => gO (decide (mW a < mW b)) (srtT (b :: ms) k)
  | _, k => k
noncomputable def ld44 (l : List (Tup wallK)) (t : List (Tup stpK)) (s r : Tup v3K) (en : Int) (ms : List (Tup mirK)) : Ld := ldP 0 (fnOf Tryz.f44).ntmps rel44 .normal (st44 l t s r en (resE l en ms))
noncomputable def ob44 (l : List (Tup wallK)) (t : List (Tup stpK)) (s r : Tup v3K) (en : Int) (ms : List (Tup mirK)) : Obs := [(ld44 l t s r en ms, bk44, st44 l t s r en nilD)]
noncomputable def T44 (l : List (Tup wallK)) (t : List (Tup stpK)) (s r : Tup v3K) (en : Int) (ms : List (Tup mirK)) : Ro :=
  bif eH l t s r en != 0 then some ([], .tup [pair z2, I (eH l t s r en)]) else srtT ms (gO (vH l t s r en) (fin44 (ob44 l t s r en ms) (hear l t s r en ms)))
noncomputable def bd44 (w0 : World) (l : List (Tup wallK)) (t : List (Tup stpK)) (s r : Tup v3K) (en : Int) (ms : List (Tup mirK)) : Ro := bodyT ((cfg w0).at cs44) 80 [ld44 l t s r en ms] 80 (fnOf Tryz.f44) [.vec wallK l, .vec stpK t, agP s r, I en]
theorem body44_0 (l : List (Tup wallK)) (t : List (Tup stpK)) (s r : Tup v3K) (en : Int) : bd44 w0 l t s r en [] = T44 l t s r en [] := by kernel_rfl
theorem body44_1 (l : List (Tup wallK)) (t : List (Tup stpK)) (s r : Tup v3K) (en : Int) (a : Tup mirK) : bd44 w0 l t s r en [a] = T44 l t s r en [a] := by kernel_rfl
theorem body44_2 (l : List (Tup wallK)) (t : List (Tup stpK)) (s r : Tup v3K) (en : Int) (a b : Tup mirK) : bd44 w0 l t s r en [a, b] = T44 l t s r en [a, b] := by kernel_rfl
theorem run44_3 (a b c : Tup wallK) (t : List (Tup stpK)) (s r : Tup v3K) (en : Int) : ex44 w0 [a, b, c] t s r en = goE [a, b, c] t s r en [0, 1, 2] [] := by kernel_rfl
theorem run44_4 (a b c d : Tup wallK) (t : List (Tup stpK)) (s r : Tup v3K) (en : Int) : ex44 w0 [a, b, c, d] t s r en = goE [a, b, c, d] t s r en [0, 1, 2, 3] [] := by kernel_rfl
theorem body44_3 (l : List (Tup wallK)) (t : List (Tup stpK)) (s r : Tup v3K) (en : Int) (a b c : Tup mirK) : bd44 w0 l t s r en [a, b, c] = T44 l t s r en [a, b, c] := by kernel_rfl
theorem body44_4 (l : List (Tup wallK)) (t : List (Tup stpK)) (s r : Tup v3K) (en : Int) (a b c d : Tup mirK) : bd44 w0 l t s r en [a, b, c, d] = T44 l t s r en [a, b, c, d] := by kernel_rfl
theorem body44_5 (l : List (Tup wallK)) (t : List (Tup stpK)) (s r : Tup v3K) (en : Int) (a b c d e : Tup mirK) : bd44 w0 l t s r en [a, b, c, d, e] = T44 l t s r en [a, b, c, d, e] := by kernel_rfl
end
end Go.Proofs.YtmlglimahbjgbaaGreatDoor
