/-
  A part of the proof of the statement that the claim names: see the last file.
-/
import Derived.Test.YtmlglimahbjgbaaGreatDoorI2
import Derived.Test.YtmlglimahbjgbaaGreatDoorAm4
import Derived.Test.YtmlglimahbjgbaaGreatDoorT9
namespace Go.Proofs.YtmlglimahbjgbaaGreatDoor
open Go Go.Am Go.Town
set_option maxRecDepth 100000
variable {w0 : World}
noncomputable section

/-! # TownImages: the law's run -/

noncomputable def c52v : Ct := ct 52 [.v wallK, .c ik, .b v3K, .b v3K] fun a => .br (err52 a.1 a.2.1 a.2.2.1 a.2.2.2.1 == 0) (.leaf (.tup [mD (mirW (nthW a.1 a.2.1) a.2.1 a.2.2.1 a.2.2.2.1), I 0])) (.br (err52 a.1 a.2.1 a.2.2.1 a.2.2.2.1 == 7) (.leaf (zE 7)) .bad)
theorem gd52v (h0 : Lib0 w0) : Gd (cfg w0) c52v := gd_sig fun a d hd => by
  have := fn52 h0 a.1 a.2.1 a.2.2.1 a.2.2.2.1
  unfold out52 at this
  simp only [FT.run] at hd
  cases hc : (err52 a.1 a.2.1 a.2.2.1 a.2.2.2.1 == 0) with
  | true => rw [hc] at hd this; cases hd; exact this
  | false =>
    rw [hc] at hd this
    cases hc2 : (err52 a.1 a.2.1 a.2.2.1 a.2.2.2.1 == 7) with
    | true =>
      rw [hc2] at hd
      cases hd
      rw [show err52 a.1 a.2.1 a.2.2.1 a.2.2.2.1 = 7 by simpa using hc2] at this
      exact this
    | false => rw [hc2] at hd; cases hd

noncomputable def law10 : List Ct := [⟨13, tG awakeF⟩, ⟨19, tG checkWallF⟩, ⟨21, tG checkPathF⟩, ⟨22, tG rsideF⟩, ⟨34, tG checkSpotF⟩, ⟨32, tG (intsF withinK)⟩, ⟨81, tG sqrF⟩, ⟨84, tG (intsF lowK)⟩, c51, c52v, c55, c85]
theorem law10_gd (h0 : Lib0 w0) (ha : Good w0 ⟨13, awakeF⟩) : Gds (cfg w0) law10 :=
  ⟨gd_of ha, gd_of (rcheck_good (rname_good h0) h0), gd_of (rcheckPath_good h0), gd_of (rside_good h0), gd_of (rcheckSpot_good h0), gd_of (range_good h0), gd_of (rsquare_good h0), gd_of (rlow_good h0), gd51 h0, gd52v h0, gd55 h0, gd85 h0, trivial⟩
noncomputable def oWl (w : Tup wallK) : D := .obox [Str w.1, I w.2.1, I w.2.2.1, I w.2.2.2.1, I w.2.2.2.2.1, I w.2.2.2.2.2.1, I w.2.2.2.2.2.2.1]
noncomputable def rel75 : List (Nat × Cv) := [(2, .id), (5, .id), (6, .id), (7, .id), (4, .id), (75, .id)]
noncomputable def st75 (w : Tup wallK) (s r i : Tup v3K) (c b : Bool) : List D := [oWl w, ov3 s, ov3 r, ov3 i, Bo b, Bo c]
noncomputable def pre75 (w : Tup wallK) (s r : Tup v3K) (c : Bool) : List D := st75 w s r (imW w s) c false
noncomputable def l75 : Ld := ⟨100075, (fnOf Tryz.f10).ntmps, rel75, fun ds => .leaf (.normal, ds)⟩

noncomputable def eqZ (a b : Int) : Bool := a == b
noncomputable def neZ (a b : Int) : Bool := a != b
noncomputable def eq3 (a b : Tup v3K) : Bool := eqZ (pX a) (pX b) && (eqZ (pY a) (pY b) && (eqZ (pZ a) (pZ b) && true))

abbrev Rs := Option (Obs × X × List D)
noncomputable def if75D (w : Tup wallK) (s r i : Tup v3K) : Rs := bif imE w i == 0 then (bif !eq3 (imW w i) s then some ([], .ret, st75 w s r i true false) else some ([], .normal, st75 w s r i true false)) else none
theorem if75_run (w : Tup wallK) (s r i : Tup v3K) : rndD ((cfg w0).at law10) 60 [] 60 (fnOf Tryz.f10).ntmps rel75 (cdB 75 (fnOf Tryz.f10).body) (st75 w s r i true false) = if75D w s r i := by kernel_rfl
theorem if75_not (w : Tup wallK) (s r i : Tup v3K) : rndD ((cfg w0).at law10) 60 [] 60 (fnOf Tryz.f10).ntmps rel75 (cdB 75 (fnOf Tryz.f10).body) (st75 w s r i false false) = some ([], .normal, st75 w s r i false false) := by kernel_rfl

noncomputable def noO (o : Obs) (b : Bool) (k : Ro) : Ro := bif b then some (o, Bo false) else k
noncomputable def anO (o : Obs) (b : Bool) (k : Ro) : Ro := bif b then k else some (o, Bo false)

noncomputable def mXn (w : Tup wallK) (s r : Tup v3K) : Int := lnZ (lX (plW w s r)) (lD (plW w s r))
noncomputable def mXd (w : Tup wallK) (s r : Tup v3K) : Int := ldZ (lX (plW w s r)) (lD (plW w s r))
noncomputable def mYn (w : Tup wallK) (s r : Tup v3K) : Int := lnZ (lY (plW w s r)) (lD (plW w s r))
noncomputable def mYd (w : Tup wallK) (s r : Tup v3K) : Int := ldZ (lY (plW w s r)) (lD (plW w s r))
noncomputable def mZn (w : Tup wallK) (s r : Tup v3K) : Int := lnZ (lZ (plW w s r)) (lD (plW w s r))
noncomputable def mZd (w : Tup wallK) (s r : Tup v3K) : Int := ldZ (lZ (plW w s r)) (lD (plW w s r))
noncomputable def onN (u v n c d : Int) : Int := IntKind.i64.wrap (IntKind.i64.wrap (v - u) * IntKind.i64.wrap (n - IntKind.i64.wrap (c * d)))
noncomputable def onE (a b c d : Int) : Bool := eqZ (lnZ a b) (lnZ c d) && (eqZ (ldZ a b) (ldZ c d) && true)
noncomputable def onT (o : Obs) (ux uy vx vy xn xd yn yd : Int) (k : Ro) : Ro :=
  gO (quoG (onN ux vx yn uy yd) yd) (gO (quoG (onN uy vy xn ux xd) xd) (anO o (onE (onN ux vx yn uy yd) yd (onN uy vy xn ux xd) xd) k))
noncomputable def lowB (w : Tup wallK) (s r : Tup v3K) : Bool := decide (rcmpZ ((mZn w s r, mZd w s r, ()) : Tup [ik, ik]) ((hW w, (1 : Int), ()) : Tup [ik, ik]) < 0)
noncomputable def sgW (w : Tup wallK) (s : Tup v3K) : Int := sgnZ (sdW w s)
noncomputable def rgT (o : Obs) (n d : Int) (k : Ro) : Ro := noO o (neZ (withinZ d 1 100000000) 0) (noO o (neZ (withinZ n (-100000000000) 100000000000) 0) k)
noncomputable def okT (o : Obs) (w : Tup wallK) (s r : Tup v3K) : Ro :=
  noO o (eqZ (sgW w s) 0) (noO o (neZ (sgW w s) (sgW w r)) (noO o (!eq3 (imW w s) (imW w s)) (noO o (neZ (sqW (imW w s) r) (sqW (imW w s) r))
    (rgT o (mXn w s r) (mXd w s r) (rgT o (mYn w s r) (mYd w s r) (rgT o (mZn w s r) (mZd w s r)
      (onT o (aX w) (aY w) (bX w) (bY w) (mXn w s r) (mXd w s r) (mYn w s r) (mYd w s r)
        (onT o (pX (imW w s)) (pY (imW w s)) (pX r) (pY r) (mXn w s r) (mXd w s r) (mYn w s r) (mYd w s r)
          (anO o (lowB w s r) (some (o, Bo true))))))))))) 
noncomputable def ptT (o : Obs) (i s : Tup v3K) (x y : Int) (k : Ro) : Ro :=
  noO o (decide (pX i < -10000)) (noO o (decide (pX i > 10000)) (noO o (decide (pY i < -10000)) (noO o (decide (pY i > 10000)) (noO o (neZ (sqW i (t3 x y 0)) (sqW s (t3 x y 0))) k))))
noncomputable def err1 (w : Tup wallK) (s r : Tup v3K) : Int := err52 [w] 0 s r
noncomputable def midT (o : Obs) (w : Tup wallK) (s r : Tup v3K) : Ro :=
  ptT o (imW w s) s (aX w) (aY w) (ptT o (imW w s) s (bX w) (bY w)
    (bif eqZ (err1 w s r) 0 then okT o w s r else bif eqZ (err1 w s r) 7 then some (o, Bo true) else none))
noncomputable def ob10 (w : Tup wallK) (s r : Tup v3K) : Obs := [(l75, cdB 75 (fnOf Tryz.f10).body, pre75 w s r (eqZ (pChk (imW w s)) 0))]
noncomputable def path10 (s r : Tup v3K) : Int := firstZ [pChk s, pChk r]
noncomputable def law10T (w : Tup wallK) (s r : Tup v3K) : Ro :=
  bif longN w then some ([], Bo true) else bif neZ (wChk w) 0 then some ([], Bo true) else bif neZ (path10 s r) 0 then some ([], Bo true) else
    gO (eqZ (wChk w) 0) (bif !evW w then some ([], Bo true) else gO (eqZ (imE w s) 0)
      (noO [] (neZ (pZ (imW w s)) (pZ s)) (noO [] (neZ (sgW w (imW w s)) (IntKind.i64.wrap (0 - sgW w s))) (midT (ob10 w s r) w s r))))
theorem law10T_run (w : Tup wallK) (s r : Tup v3K) : bodyT ((cfg w0).at law10) 100 [l75] 100 (fnOf Tryz.f10) [wD w, .agg [I s.1, I s.2.1, I s.2.2.1, I r.1, I r.2.1, I r.2.2.1]] = law10T w s r := by kernel_rfl
end
end Go.Proofs.YtmlglimahbjgbaaGreatDoor

namespace Go.Proofs.YtmlglimahbjgbaaGreatDoor
open Go Go.Am Go.Town
set_option maxRecDepth 100000
variable {w0 : World}

/-! # TownImages: the law holds -/

theorem noO_f {o : Obs} {b : Bool} {k : Ro} (h : b = false) : noO o b k = k := by rw [h]; rfl
theorem anO_t {o : Obs} {b : Bool} {k : Ro} (h : b = true) : anO o b k = k := by rw [h]; rfl
theorem gO_t {b : Bool} {k : Ro} (h : b = true) : gO b k = k := by rw [h]; rfl
theorem neZ_f {a b : Int} (h : a = b) : neZ a b = false := by subst h; simp [neZ]
theorem eqZ_t {a b : Int} (h : a = b) : eqZ a b = true := by subst h; simp [eqZ]
theorem eqZ_f {a b : Int} (h : a ≠ b) : eqZ a b = false := by simpa [eqZ] using h
theorem eq3_t {a b : Tup v3K} (h1 : pX a = pX b) (h2 : pY a = pY b) (h3 : pZ a = pZ b) : eq3 a b = true := by
  unfold eq3
  rw [eqZ_t h1, eqZ_t h2, eqZ_t h3]; rfl

/-! ## The image of the image -/

theorem imE_of {w : Tup wallK} {s : Tup v3K} (hw : wChk w = 0) (hs : pChk s = 0) (he : evW w = true) : imE w s = 0 := by
  unfold imE
  rw [hw, hs, he]; rfl

theorem if75_ok {w : Tup wallK} {s r : Tup v3K} {p q : Int} (F : MirF w s r p q) (hw : wChk w = 0) (he : evW w = true) (hi : pChk (imW w s) = 0) : if75D w s r (imW w s) = some ([], .normal, st75 w s r (imW w s) true false) := by
  have S := w_small hw
  have P := p_small hi
  have h2 : ImC (aX w) (aY w) (bX w) (bY w) (pX (imW w s)) (pY (imW w s)) (pX (imW w (imW w s))) (pY (imW w (imW w s))) := img_ok S.a1 S.a2 S.b1 S.b2 P.x P.y S.ne he
  obtain ⟨e1, e2⟩ := F.im.back h2
  unfold if75D
  rw [imE_of hw hi he, eq3_t e1 e2 rfl]
  rfl

theorem ld75 (h0 : Lib0 w0) (ha : Good w0 ⟨13, awakeF⟩) {w : Tup wallK} {s r : Tup v3K} {p q : Int} (F : MirF w s r p q) (hw : wChk w = 0) (he : evW w = true) :
    LdT ((cfg w0).at law10) l75 (cdB 75 (fnOf Tryz.f10).body) (pre75 w s r (eqZ (pChk (imW w s)) 0)) := by
  refine ldT_cond (at_ok (cfg_ok w0) law10) (at_sp h0 (law10_gd h0 ha)) rfl fun x ds' h => ?_
  simp only [l75, FT.run, Option.some.injEq, Prod.mk.injEq] at h
  obtain ⟨rfl, rfl⟩ := h
  refine ⟨60, 60, [], [], ?_, trivial⟩
  unfold pre75
  cases hc : eqZ (pChk (imW w s)) 0 with
  | true => exact (if75_run w s r _).trans (if75_ok F hw he (by simpa [eqZ] using hc))
  | false => exact (if75_not w s r _).trans rfl

/-! ## The points -/

theorem ptT_ok {o : Obs} {i s : Tup v3K} {x y : Int} {k : Ro} (hx : -3000 ≤ pX i ∧ pX i ≤ 3000) (hy : -3000 ≤ pY i ∧ pY i ≤ 3000) (hs : SmallP s) (hz : pZ i = pZ s) (h1 : -1000 ≤ x ∧ x ≤ 1000) (h2 : -1000 ≤ y ∧ y ≤ 1000)
    (h : (pX i - x) * (pX i - x) + (pY i - y) * (pY i - y) = (pX s - x) * (pX s - x) + (pY s - y) * (pY s - y)) : ptT o i s x y k = k := by
  have hs1 := hs.x
  have hs2 := hs.y
  have e1 : sqW i (t3 x y 0) = (pX i - x) * (pX i - x) + (pY i - y) * (pY i - y) + (pZ i - 0) * (pZ i - 0) := sq_img hx hy (by rw [hz]; exact hs.z) h1 h2 (show (0 : Int) ≤ 0 ∧ (0 : Int) ≤ 1000 by omega)
  have e2 : sqW s (t3 x y 0) = (pX s - x) * (pX s - x) + (pY s - y) * (pY s - y) + (pZ s - 0) * (pZ s - 0) := sq_img (by omega) (by omega) hs.z h1 h2 (show (0 : Int) ≤ 0 ∧ (0 : Int) ≤ 1000 by omega)
  unfold ptT
  rw [noO_f (by rw [decide_eq_false_iff_not]; omega), noO_f (by rw [decide_eq_false_iff_not]; omega), noO_f (by rw [decide_eq_false_iff_not]; omega), noO_f (by rw [decide_eq_false_iff_not]; omega), noO_f (neZ_f (by rw [e1, e2, h, hz]))]

/-! ## The mirror -/

theorem lo_facts {a b : Int} (hb : 0 < b) : 0 < ldZ a b ∧ ldZ a b ≤ b ∧ lnZ a b * b = a * ldZ a b ∧ (lnZ a b).natAbs ≤ a.natAbs := by
  obtain ⟨n, d, h1, h2, h3, h4, h5, h6⟩ := low_facts (a := a) hb
  have e1 : lnZ a b = n := h1
  have e2 : ldZ a b = d := h2
  rw [e1, e2]
  exact ⟨h3, h4, h5, h6⟩

theorem lo_eq {a b c d : Int} (hb : 0 < b) (hd : 0 < d) (h : a * d = c * b) : onE a b c d = true := by
  obtain ⟨e1, e2⟩ := low_eq hb hd h
  have e1 : lnZ a b = lnZ c d := e1
  have e2 : ldZ a b = ldZ c d := e2
  unfold onE
  rw [eqZ_t e1, eqZ_t e2]; rfl

theorem rgT_ok {o : Obs} {n d : Int} {k : Ro} (h1 : 1 ≤ d ∧ d ≤ 100000000) (h2 : -100000000000 ≤ n ∧ n ≤ 100000000000) : rgT o n d k = k := by
  unfold rgT
  rw [withinZ_nil.2 h1, withinZ_nil.2 h2, noO_f (neZ_f rfl), noO_f (neZ_f rfl)]

theorem onT_ok {o : Obs} {ux uy vx vy X Y den : Int} {k : Ro} (hden : 0 < den ∧ den ≤ 16000000) (hX : -32000000000 ≤ X ∧ X ≤ 32000000000) (hY : -32000000000 ≤ Y ∧ Y ≤ 32000000000)
    (u1 : -3000 ≤ ux ∧ ux ≤ 3000) (u2 : -3000 ≤ uy ∧ uy ≤ 3000) (v1 : -1000 ≤ vx ∧ vx ≤ 1000) (v2 : -1000 ≤ vy ∧ vy ≤ 1000) (h : (vx - ux) * (Y - uy * den) = (vy - uy) * (X - ux * den)) :
    onT o ux uy vx vy (lnZ X den) (ldZ X den) (lnZ Y den) (ldZ Y den) k = k := by
  obtain ⟨x1, x2, x3, x4⟩ := lo_facts (a := X) hden.1
  obtain ⟨y1, y2, y3, y4⟩ := lo_facts (a := Y) hden.1
  have h := on_eq (u := vx - ux) (v := vy - uy) (X := X) (Y := Y) (den := den) hden.1 x3 y3 h
  generalize lnZ X den = xn at *
  generalize ldZ X den = xd at *
  generalize lnZ Y den = yn at *
  generalize ldZ Y den = yd at *
  obtain ⟨a1, a2, a3⟩ := on_in (u := ux) (v := vx) (n := yn) (c := uy) (d := yd) u1 v1 (by omega) u2 (by omega)
  obtain ⟨b1, b2, b3⟩ := on_in (u := uy) (v := vy) (n := xn) (c := ux) (d := xd) u2 v2 (by omega) u1 (by omega)
  have ea : onN ux vx yn uy yd = (vx - ux) * (yn - uy * yd) := a1
  have eb : onN uy vy xn ux xd = (vy - uy) * (xn - ux * xd) := b1
  unfold onT
  rw [ea, eb, gO_t (by rw [quoG_iff, rng_iff, rng_iff]; omega), gO_t (by rw [quoG_iff, rng_iff, rng_iff]; omega), anO_t (lo_eq y1 x1 h)]

theorem okT_ok {o : Obs} {w : Tup wallK} {s r : Tup v3K} (hw : wChk w = 0) (hs : pChk s = 0) (hr : pChk r = 0) (he : evW w = true) (hp : preM w s r = true) : okT o w s r = some (o, Bo true) := by
  have F := mir_f hw hs hr he
  have S := w_small hw
  have P := p_small hs
  have R := p_small hr
  unfold preM at hp
  simp only [Bool.and_eq_true, Bool.not_eq_true'] at hp
  obtain ⟨h1, h2, h3, _, h5⟩ := hp
  have h1 : sdW w s ≠ 0 := by simpa using h1
  have h2 : sdW w r ≠ 0 := by simpa using h2
  obtain ⟨g1, g2⟩ := sgn_same h1 h2 h3
  obtain ⟨d1, d2, _⟩ := F.quo h1
  have hon := same_sign h1 h2 h3
  rw [← F.pn, ← F.qn] at hon
  rw [decide_eq_false_iff_not] at h5
  have hD := F.D
  have hturn : trW w (pX (imW w s)) (pY (imW w s)) = -trW w (pX s) (pY s) := F.im.turn
  have l1 : (bX w - aX w) * (lY (plW w s r) - aY w * lD (plW w s r)) = (bY w - aY w) * (lX (plW w s r) - aX w * lD (plW w s r)) := by
    rw [F.X, F.Y, F.D]
    have e1 : sdW w s = turnI (aX w) (aY w) (bX w) (bY w) (pX s) (pY s) := F.ts
    have e2 : sdW w r = turnI (aX w) (aY w) (bX w) (bY w) (pX r) (pY r) := F.tr
    exact on_wall hturn (hon.imp (fun h => ⟨h.1.trans e1, h.2.trans e2⟩) (fun h => ⟨h.1.trans (by rw [e1]), h.2.trans (by rw [e2])⟩))
  have l2 : (pX r - pX (imW w s)) * (lY (plW w s r) - pY (imW w s) * lD (plW w s r)) = (pY r - pY (imW w s)) * (lX (plW w s r) - pX (imW w s) * lD (plW w s r)) := by
    rw [F.X, F.Y, F.D]
    exact on_line
  have bX1 := F.Xb
  have bY1 := F.Yb
  have bZ1 := F.Zb
  have ix := F.ix
  have iy := F.iy
  have a1 := S.a1
  have a2 := S.a2
  have hh := S.hh
  obtain ⟨x1, x2, x3, x4⟩ := lo_facts (a := lX (plW w s r)) d1
  obtain ⟨y1, y2, y3, y4⟩ := lo_facts (a := lY (plW w s r)) d1
  obtain ⟨z1, z2, z3, z4⟩ := lo_facts (a := lZ (plW w s r)) d1
  have m := mulb (a := hW w) (b := lD (plW w s r)) 1000 16000000 (by omega) (by omega) (by omega) (by omega)
  have m2 := mulb (a := hW w) (b := ldZ (lZ (plW w s r)) (lD (plW w s r))) 1000 16000000 (by omega) (by omega) (by omega) (by omega)
  have hz : lnZ (lZ (plW w s r)) (lD (plW w s r)) < hW w * ldZ (lZ (plW w s r)) (lD (plW w s r)) := low_lt d1 z1 z3 (by
    have : W (hW w * lD (plW w s r)) = hW w * lD (plW w s r) := rngW (by omega)
    rw [this] at h5
    omega)
  have hlow : lowB w s r = true := by
    have e : rcmpZ ((mZn w s r, mZd w s r, ()) : Tup [ik, ik]) ((hW w, (1 : Int), ()) : Tup [ik, ik]) = -1 := by
      unfold rcmpZ
      have : ltC ((mZn w s r, mZd w s r, ()) : Tup [ik, ik]) ((hW w, (1 : Int), ()) : Tup [ik, ik]) = true := by
        show decide (W (lnZ (lZ (plW w s r)) (lD (plW w s r)) * 1) < W (hW w * ldZ (lZ (plW w s r)) (lD (plW w s r)))) = true
        rw [Int.mul_one, rngW (n := lnZ (lZ (plW w s r)) (lD (plW w s r))) (by omega), rngW (n := hW w * ldZ (lZ (plW w s r)) (lD (plW w s r))) (by omega)]
        simpa using hz
      rw [this]; rfl
    unfold lowB
    rw [e]; rfl
  unfold okT
  rw [noO_f (eqZ_f (show sgW w s ≠ 0 from g1)), noO_f (neZ_f (show sgW w s = sgW w r from g2)), noO_f (by rw [eq3_t rfl rfl rfl]; rfl), noO_f (neZ_f rfl)]
  unfold mXn mXd mYn mYd mZn mZd
  rw [rgT_ok (by omega) (by omega), rgT_ok (by omega) (by omega), rgT_ok (by omega) (by omega), onT_ok ⟨d1, d2⟩ F.Xb F.Yb (by omega) (by omega) S.b1 S.b2 l1, onT_ok ⟨d1, d2⟩ F.Xb F.Yb F.ix F.iy R.x R.y l2, anO_t hlow]

/-! ## The law -/

theorem chk1 {w : Tup wallK} (hw : wChk w = 0) : chkAllW [w] = 0 := by
  unfold chkAllW
  have : chkFrom [] [w] = 0 := by
    unfold chkFrom chkE
    rw [hw]; rfl
  rw [this]; rfl

theorem err1_eq {w : Tup wallK} {s r : Tup v3K} (hw : wChk w = 0) (hs : pChk s = 0) (hr : pChk r = 0) (he : evW w = true) : err1 w s r = bif refB [w] 0 s r then 0 else 7 := by
  have e : e52 [w] (outB [w] 0) s r = 0 := by
    unfold e52
    rw [chk1 hw, hs, hr]; rfl
  have hn : nthW [w] 0 = w := rfl
  unfold err1 err52
  rw [e, hn, he]; rfl

theorem law10_fn (h0 : Lib0 w0) (ha : Good w0 ⟨13, awakeF⟩) (w : Tup wallK) (s r : Tup v3K) :
    FnD (cfg w0) 10 [wD w, .agg [I s.1, I s.2.1, I s.2.2.1, I r.1, I r.2.1, I r.2.2.1]] (Bo true) := by
  have fin : ∀ o : Obs, law10T w s r = some (o, Bo true) → Owed ((cfg w0).at law10) o → FnD (cfg w0) 10 [wD w, .agg [I s.1, I s.2.1, I s.2.2.1, I r.1, I r.2.1, I r.2.2.1]] (Bo true) := fun o h ho =>
    fnD_t (cfg_ok w0) h0 (law10_gd h0 ha) (fd := fnOf Tryz.f10) rfl ((law10T_run w s r).trans h) ho
  cases hl : longN w with
  | true => exact fin [] (by unfold law10T; rw [hl]; rfl) trivial
  | false =>
    by_cases hw : wChk w = 0
    case neg =>
      have : neZ (wChk w) 0 = true := by simpa [neZ] using hw
      exact fin [] (by unfold law10T; rw [hl, this]; rfl) trivial
    by_cases hp : path10 s r = 0
    case neg =>
      have : neZ (path10 s r) 0 = true := by simpa [neZ] using hp
      exact fin [] (by unfold law10T; rw [hl, neZ_f hw, this]; rfl) trivial
    have hp' := hp
    unfold path10 at hp'
    rw [firstZ_nil] at hp'
    have hs := hp' (pChk s) (by simp)
    have hr := hp' (pChk r) (by simp)
    cases he : evW w with
    | false => exact fin [] (by unfold law10T; rw [hl, neZ_f hw, neZ_f hp, eqZ_t hw, he]; rfl) trivial
    | true =>
      have F := mir_f hw hs hr he
      have S := w_small hw
      have P := p_small hs
      refine fin (ob10 w s r) ?_ ⟨ld75 h0 ha F hw he, trivial⟩
      have ht : sgW w (imW w s) = W (0 - sgW w s) := by
        have e1 : sdW w (imW w s) = turnI (aX w) (aY w) (bX w) (bY w) (pX (imW w s)) (pY (imW w s)) := side_img S.a1 S.a2 S.b1 S.b2 F.ix F.iy
        unfold sgW
        rw [e1, F.im.turn, sgn_opp, sgn_wrap]
        have := F.ts
        unfold trW at this
        rw [this]
      have hm : midT (ob10 w s r) w s r = some (ob10 w s r, Bo true) := by
        unfold midT
        rw [ptT_ok F.ix F.iy P F.iz S.a1 S.a2 F.im.sqA, ptT_ok F.ix F.iy P F.iz S.b1 S.b2 F.im.sqB, err1_eq hw hs hr he]
        cases hb : refB [w] 0 s r with
        | false => rfl
        | true =>
          unfold refB at hb
          simp only [Bool.and_eq_true] at hb
          exact okT_ok hw hs hr he hb.1
      unfold law10T
      rw [hl, neZ_f hw, neZ_f hp, eqZ_t hw, he, eqZ_t (imE_of hw hs he), neZ_f (show pZ (imW w s) = pZ s from rfl), neZ_f ht, hm]
      rfl

def sh10 : List Sh := [.b wallK, .b [ik, ik, ik, ik, ik, ik]]

theorem law10_all (h0 : Lib0 w0) (ha : Good w0 ⟨13, awakeF⟩) (a : ArgT sh10) (_ : WfA sh10 a) : FnD (cfg w0) 10 (toShs sh10 a) (Bo true) :=
  law10_fn h0 ha a.1 (t3 a.2.1.1 a.2.1.2.1 a.2.1.2.2.1) (t3 a.2.1.2.2.2.1 a.2.1.2.2.2.2.1 a.2.1.2.2.2.2.2.1)
end Go.Proofs.YtmlglimahbjgbaaGreatDoor

namespace Go.Proofs.YtmlglimahbjgbaaGreatDoor
open Go Go.Am Go.Town Go.RowKit Go.ChangeShapes Go.WideShapes Go.ChangeAt
set_option maxRecDepth 100000

/-! # The card -/

theorem len_two {α : Type} : ∀ {l : List α}, l.length = 2 → ∃ a b, l = [a, b]
  | [a, b], _ => ⟨a, b, rfl⟩
  | [], h => by simp at h
  | [_], h => by simp at h
  | _ :: _ :: _ :: _, h => by simp at h

theorem laid10 : Rows.townImagesRow.laid = Rows.townPathsRow.laid := rfl
theorem sh10_ok : shOks Tryz.prog Tryz.f10.params.toList sh10 = true := by kernel_rfl

abbrev arg10 : Array Value := #[.agg #[.string ByteArray.empty, iv 0, iv 0, iv 0, iv 0, iv 0, iv 0], .agg #[iv 0, iv 0, iv 0, iv 0, iv 0, iv 0]]

theorem lifted (os : Os) (started : os.Started) (H : Type) (enc : TypeId × Value → H) :
    ReturnsInHanded {} Tryz.checked os 10 .any (fun w args => (Rows.townImagesSpec.pre enc Tryz.prog Tryz.f10 [] false w args ∧ laidMetH Tryz.prog Rows.townImagesRow.laid w) ∧ sizedMet enc Tryz.prog Tryz.f10 (OpenSpec.ofChange Rows.townImagesSpec) false w args)
      (Rows.townImagesSpec.post enc Tryz.prog Tryz.f10 false true false false) := by
  refine returnsInHanded_of_change_and (C := Tryz.checked) (X := fun w _ => laidMetH Tryz.prog Rows.townImagesRow.laid w) (fun _ _ _ hh h => h.of_heap hh) own started (by kernel_rfl) Tryz.func10
    (ChangeSpec.witness_shaped (enc := enc) (C := Tryz.checked) (os := os) (X := fun w _ => laidMetH Tryz.prog Rows.townImagesRow.laid w) false (World.doorLaid Tryz.prog 600 os) arg10 8 rfl (World.shaped_of_RefB (by kernel_rfl) (by kernel_rfl)) (by kernel_rfl) (by kernel_rfl) (by kernel_rfl) (door_met os _)) ?_
  intro W base args ds gs before hval0 hW _ _ hL _
  have hval : ∀ (j : Nat) t v, Tryz.f10.params[j]? = some t → args[j]? = some v → Value.okWide Tryz.prog W .any base t v := hval0
  have hW' := hW
  obtain ⟨p, q, hA0, hV, rfl, hfz, hnd⟩ := hW
  have hA : DataW.TrodAll enc Tryz.prog W 0 (fun _ => true) true Tryz.f10.params.toList args.toList ds p := hA0
  obtain ⟨rfl, rfl⟩ := trodVars_none hV
  obtain ⟨a, hwf, ha⟩ := args_imp _ sh10 _ _ _ sh10_ok hA (fun j t v hj hj' => hval j t v (by simpa using hj) (by simpa using hj'))
  obtain ⟨d0, d1, rfl⟩ := len_two ((all_len _ _ _ _ hA).trans (by kernel_rfl : Tryz.f10.params.toList.length = 2))
  have h0 := lib_of hL
  have hb := base_of hL
  refine (fnD_below (C := cfg W) rfl (law10_all h0 (awake_good h0) a hwf) hb (ha _ _)).mono fun e' W' ⟨he, hB⟩ => ?_
  subst he
  exact ⟨_, rfl, ⟨_, _, _, [], _, [], hW', trodAll_mk1 (shut_bool Tryz.underlying4 true), all_below laidOut hB _ _ _ _ (by kernel_rfl) hA (fun x hx => by simpa using hW'.lt x (by simpa using hx)), rfl, hB.frame _, fun h => by cases h⟩⟩

end Go.Proofs.YtmlglimahbjgbaaGreatDoor
