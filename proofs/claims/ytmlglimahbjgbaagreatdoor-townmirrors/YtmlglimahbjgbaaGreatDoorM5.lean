/-
  A part of the proof of the statement that the claim names: see the last file.
-/
import Derived.Test.YtmlglimahbjgbaaGreatDoorM4
import Derived.Test.YtmlglimahbjgbaaGreatDoorAm4
namespace Go.Proofs.YtmlglimahbjgbaaGreatDoor
open Go Go.Am Go.Town
set_option maxRecDepth 100000
variable {w0 : World}
noncomputable section

/-! # TownMirrors: the law's ifs -/

noncomputable def c51f : Ct := ct 51 [.b wallK, .b v3K] fun a => .leaf (.tup [vec3 (or3 (imE a.1 a.2.1) (imW a.1 a.2.1)), I (imE a.1 a.2.1)])
theorem gd51f (h0 : Lib0 w0) : Gd (cfg w0) c51f := gd_sig fun a d hd => by cases hd; exact fn51 h0 a.1 a.2.1

noncomputable def z11 : Tup mirK := t11 0 0 0 0 0 0 0 0 0 0 0
noncomputable def om52 (l : List (Tup wallK)) (k : Int) (s r : Tup v3K) : Tup mirK := bif err52 l k s r == 0 then mirW (nthW l k) k s r else z11
theorem fn52f (h0 : Lib0 w0) (l : List (Tup wallK)) (k : Int) (s r : Tup v3K) : FnD (cfg w0) 52 [.vec wallK l, I k, vec3 s, vec3 r] (.tup [mD (om52 l k s r), I (err52 l k s r)]) := by
  have h := fn52 h0 l k s r
  unfold out52 at h
  unfold om52
  cases hc : (err52 l k s r == 0) with
  | true =>
    rw [hc] at h
    rw [show err52 l k s r = 0 by simpa using hc]
    exact h
  | false => rw [hc] at h; exact h
noncomputable def c52f : Ct := ct 52 [.v wallK, .c ik, .b v3K, .b v3K] fun a => .leaf (.tup [mD (om52 a.1 a.2.1 a.2.2.1 a.2.2.2.1), I (err52 a.1 a.2.1 a.2.2.1 a.2.2.2.1)])
theorem gd52f (h0 : Lib0 w0) : Gd (cfg w0) c52f := gd_sig fun a d hd => by cases hd; exact fn52f h0 a.1 a.2.1 a.2.2.1 a.2.2.2.1

noncomputable def sameM (a b : List (Tup mirK)) : Bool := Nat.ble a.length 100000 && @decide (a = b) (Classical.propDecidable _)
noncomputable def c59 : Ct := ct 59 [.v mirK, .v mirK] fun a => .br (sameM a.1 a.2.1) (.leaf (Bo true)) .bad
theorem gd59 (h0 : Lib0 w0) : Gd (cfg w0) c59 := gd_sig fun a d hd => by
  obtain ⟨hg, hd⟩ := br_run hd
  cases hd
  obtain ⟨x, y, u⟩ := a
  replace hg : sameM x y = true := hg
  unfold sameM at hg
  rw [Bool.and_eq_true] at hg
  have e : x = y := @of_decide_eq_true _ (Classical.propDecidable _) hg.2
  subst e
  exact fn59 h0 x (Nat.le_of_ble_eq_true hg.1)

noncomputable def law6 : List Ct := [⟨13, tG awakeF⟩, c27, c31, c51f, c52f, c53, ⟨19, tG checkWallF⟩, ⟨34, tG checkSpotF⟩, ⟨108, tG firstF⟩, checkC 33, ⟨54, tG whenF⟩, ⟨21, tG checkPathF⟩, c55, c56, c57, c58, c60, c59]
theorem law6_gd (h0 : Lib0 w0) (ha : Good w0 ⟨13, awakeF⟩) : Gds (cfg w0) law6 :=
  ⟨gd_of ha, gd27 h0, gd31 h0, gd51f h0, gd52f h0, gd53 h0, gd_of (rcheck_good (rname_good h0) h0), gd_of (rcheckSpot_good h0), gd_of (rfirst_good h0), gd33 h0, gd_of (rwhen_good h0), gd_of (rcheckPath_good h0), gd55 h0, gd56 h0, gd57 h0, gd58 h0, gd60 h0, gd59 h0, trivial⟩

noncomputable def oWm (w : Tup wallK) : D := .obox [Str w.1, I w.2.1, I w.2.2.1, I w.2.2.2.1, I w.2.2.2.2.1, I w.2.2.2.2.2.1, I w.2.2.2.2.2.2.1]
noncomputable def oM (m : Tup mirK) : D := .obox [I m.1, I m.2.1, I m.2.2.1, I m.2.2.2.1, I m.2.2.2.2.1, I m.2.2.2.2.2.1, I m.2.2.2.2.2.2.1, I m.2.2.2.2.2.2.2.1, I m.2.2.2.2.2.2.2.2.1, I m.2.2.2.2.2.2.2.2.2.1, I m.2.2.2.2.2.2.2.2.2.2.1]
noncomputable def zW : Tup wallK := (ByteArray.empty, (0 : Int), (0 : Int), (0 : Int), (0 : Int), (0 : Int), (0 : Int), ())

/-! ## The wall of an index -/

noncomputable def rl38 : List (Nat × Cv) := [(0, .id), (2, .id), (6, .id), (7, .id), (8, .id), (9, .id), (38, .id)]
noncomputable def s38 (l : List (Tup wallK)) (k : Int) (s r : Tup v3K) (w : Tup wallK) (c : Bool) : List D := [.vec wallK l, I k, Bo false, ov3 s, ov3 r, oWm w, Bo c]
abbrev Rs := Option (Obs × X × List D)
theorem if38_t (l : List (Tup wallK)) (k : Int) (s r : Tup v3K) (w : Tup wallK) : rndD ((cfg w0).at law6) 60 [] 60 (fnOf Tryz.f6).ntmps rl38 (cdB 38 (fnOf Tryz.f6).body) (s38 l k s r w true) =
    bif (Nat.beq 7 7 && (decide (0 ≤ k) && decide (k < l.length))) then some ([], .normal, s38 l k s r (nthW l k) true) else none := by kernel_rfl
theorem if38_f (l : List (Tup wallK)) (k : Int) (s r : Tup v3K) (w : Tup wallK) : rndD ((cfg w0).at law6) 60 [] 60 (fnOf Tryz.f6).ntmps rl38 (cdB 38 (fnOf Tryz.f6).body) (s38 l k s r w false) = some ([], .normal, s38 l k s r w false) := by kernel_rfl

/-! ## All that is known later -/

structure V6 where
  l : List (Tup wallK)
  k : Int
  s : Tup v3K
  r : Tup v3K
  w : Tup wallK
  a : Tup v3K
  e1 : Int
  b : Tup mirK
  e2 : Int
  c : List (Tup mirK)
  e3 : Int
  one : Int
  two : Int
  three : Int
  im : Tup v3K
  mi : Tup mirK
  all : List (Tup mirK)

noncomputable def rel6 (t : Nat) : List (Nat × Cv) := [(0, .id), (2, .id), (6, .id), (7, .id), (8, .id), (9, .id), (10, .id), (11, .id), (12, .id), (13, .id), (14, .ov mirK), (15, .id), (16, .id), (18, .id), (19, .id), (20, .id), (21, .id), (22, .ov mirK), (t, .id)]
noncomputable def s6 (v : V6) (x : Bool) : List D := [.vec wallK v.l, I v.k, Bo false, ov3 v.s, ov3 v.r, oWm v.w, ov3 v.a, I v.e1, oM v.b, I v.e2, .ovec mirK v.c, I v.e3, I v.one, I v.two, I v.three, ov3 v.im, oM v.mi, .ovec mirK v.all, Bo x]

noncomputable def w1 (v : V6) : Int := whenZ (!evW v.w) 21
noncomputable def okC (v : V6) : Bool := wChk v.w == 0
theorem if96_t (v : V6) : rndD ((cfg w0).at law6) 60 [] 60 (fnOf Tryz.f6).ntmps (rel6 96) (cdB 96 (fnOf Tryz.f6).body) (s6 v true) =
    bif okC v then bif w1 v == 0 then bif valI v.w v.s then some ([], .normal, s6 { v with one := w1 v, im := imW v.w v.s } true) else none else some ([], .normal, s6 { v with one := w1 v } true) else none := by kernel_rfl
theorem if96_f (v : V6) : rndD ((cfg w0).at law6) 60 [] 60 (fnOf Tryz.f6).ntmps (rel6 96) (cdB 96 (fnOf Tryz.f6).body) (s6 v false) = some ([], .normal, s6 v false) := by kernel_rfl

theorem if107_t (v : V6) : rndD ((cfg w0).at law6) 60 [] 60 (fnOf Tryz.f6).ntmps (rel6 107) (cdB 107 (fnOf Tryz.f6).body) (s6 v true) =
    bif okC v then bif w1 v == 0 then bif v57 v.l v.k v.s v.r then bif refB v.l v.k v.s v.r then some ([], .normal, s6 { v with two := 0, mi := mirW (nthW v.l v.k) v.k v.s v.r } true) else some ([], .normal, s6 { v with two := 7, mi := z11 } true) else none else some ([], .normal, s6 { v with two := w1 v } true) else none := by kernel_rfl
theorem if107_f (v : V6) : rndD ((cfg w0).at law6) 60 [] 60 (fnOf Tryz.f6).ntmps (rel6 107) (cdB 107 (fnOf Tryz.f6).body) (s6 v false) = some ([], .normal, s6 v false) := by kernel_rfl

theorem if123_t (v : V6) : rndD ((cfg w0).at law6) 60 [] 60 (fnOf Tryz.f6).ntmps (rel6 123) (cdB 123 (fnOf Tryz.f6).body) (s6 v true) =
    bif v58 v.l v.s v.r then some ([], .normal, s6 { v with all := mirsL v.l v.s v.r } true) else none := by kernel_rfl
theorem if123_f (v : V6) : rndD ((cfg w0).at law6) 60 [] 60 (fnOf Tryz.f6).ntmps (rel6 123) (cdB 123 (fnOf Tryz.f6).body) (s6 v false) = some ([], .normal, s6 v false) := by kernel_rfl
end
end Go.Proofs.YtmlglimahbjgbaaGreatDoor

namespace Go.Proofs.YtmlglimahbjgbaaGreatDoor
open Go Go.Am Go.Town
set_option maxRecDepth 100000
variable {w0 : World}
noncomputable section

/-! # TownMirrors: the law's run -/

noncomputable def anM (o : Obs) (b : Bool) (k : Ro) : Ro := bif b then k else some (o, Bo false)
noncomputable def eqY (a b : Int) : Bool := a == b
noncomputable def eq3m (a b : Tup v3K) : Bool := eqY (pX a) (pX b) && (eqY (pY a) (pY b) && (eqY (pZ a) (pZ b) && true))
noncomputable def wAt (l : List (Tup wallK)) (k : Int) (c : Bool) : Tup wallK := bif c then nthW l k else zW
noncomputable def one0 (w : Tup wallK) (s : Tup v3K) : Int := firstZ [wChk w, pChk s]
noncomputable def two0 (l : List (Tup wallK)) (b : Bool) (s r : Tup v3K) : Int := firstZ [chkAllW l, whenZ b 10, firstZ [pChk s, pChk r]]
noncomputable def three0 (l : List (Tup wallK)) (s r : Tup v3K) : Int := firstZ [chkAllW l, firstZ [pChk s, pChk r]]
/-- What stands ahead of the three ifs. -/
noncomputable def v1 (l : List (Tup wallK)) (k : Int) (s r : Tup v3K) (w : Tup wallK) (b : Bool) : V6 :=
  ⟨l, k, s, r, w, or3 (imE w s) (imW w s), imE w s, om52 l k s r, err52 l k s r, orM (e53 l s r) (mirsL l s r), e53 l s r, one0 w s, two0 l b s r, three0 l s r, z3, z11, []⟩
noncomputable def v2 (l : List (Tup wallK)) (k : Int) (s r : Tup v3K) (w : Tup wallK) (b : Bool) : V6 := { v1 l k s r w b with one := imE w s, im := or3 (imE w s) (imW w s) }
noncomputable def v3 (l : List (Tup wallK)) (k : Int) (s r : Tup v3K) (w : Tup wallK) (b : Bool) : V6 := { v2 l k s r w b with two := err52 l k s r, mi := om52 l k s r }
noncomputable def v4 (l : List (Tup wallK)) (k : Int) (s r : Tup v3K) (w : Tup wallK) (b : Bool) : V6 := { v3 l k s r w b with all := orM (e53 l s r) (mirsL l s r) }

noncomputable def k1 (s : Tup v3K) (w : Tup wallK) : Bool := eqY (one0 w s) 0
noncomputable def k2 (l : List (Tup wallK)) (s r : Tup v3K) (b : Bool) : Bool := eqY (two0 l b s r) 0
noncomputable def k3 (l : List (Tup wallK)) (s r : Tup v3K) : Bool := eqY (three0 l s r) 0
noncomputable def m38 (l : List (Tup wallK)) (k : Int) (s r : Tup v3K) (c : Bool) : Ld := ldP 100038 (fnOf Tryz.f6).ntmps rl38 .normal (s38 l k s r (wAt l k c) c)
noncomputable def m96 (l : List (Tup wallK)) (k : Int) (s r : Tup v3K) (w : Tup wallK) (b : Bool) : Ld := ldP 100096 (fnOf Tryz.f6).ntmps (rel6 96) .normal (s6 (v2 l k s r w b) (k1 s w))
noncomputable def m107 (l : List (Tup wallK)) (k : Int) (s r : Tup v3K) (w : Tup wallK) (b : Bool) : Ld := ldP 100107 (fnOf Tryz.f6).ntmps (rel6 107) .normal (s6 (v3 l k s r w b) (k2 l s r b))
noncomputable def m123 (l : List (Tup wallK)) (k : Int) (s r : Tup v3K) (w : Tup wallK) (b : Bool) : Ld := ldP 100123 (fnOf Tryz.f6).ntmps (rel6 123) .normal (s6 (v4 l k s r w b) (k3 l s r))
noncomputable def L6 (l : List (Tup wallK)) (k : Int) (s r : Tup v3K) (c b : Bool) : List Ld := [m38 l k s r c, m96 l k s r (wAt l k c) b, m107 l k s r (wAt l k c) b, m123 l k s r (wAt l k c) b]
noncomputable def ob6 (l : List (Tup wallK)) (k : Int) (s r : Tup v3K) (c b : Bool) : Obs :=
  [(m123 l k s r (wAt l k c) b, cdB 123 (fnOf Tryz.f6).body, s6 (v3 l k s r (wAt l k c) b) (k3 l s r)), (m107 l k s r (wAt l k c) b, cdB 107 (fnOf Tryz.f6).body, s6 (v2 l k s r (wAt l k c) b) (k2 l s r b)),
    (m96 l k s r (wAt l k c) b, cdB 96 (fnOf Tryz.f6).body, s6 (v1 l k s r (wAt l k c) b) (k1 s (wAt l k c))), (m38 l k s r c, cdB 38 (fnOf Tryz.f6).body, s38 l k s r zW c)]

noncomputable def fin6 (o : Obs) (v : V6) : Ro :=
  anM o (eq3m v.a v.im) (anM o (eqY v.e1 v.one) (anM o (eqM v.b v.mi) (anM o (eqY v.e2 v.two) (gO (Nat.ble v.c.length 100000) (gO (sameM v.c v.all) (anM o (eqY v.e3 v.three) (some (o, Bo true))))))))
noncomputable def law6T (l : List (Tup wallK)) (k : Int) (s r : Tup v3K) (c b : Bool) : Ro :=
  bif !shortW l then some ([], Bo true) else
    gO (Nat.ble l.length 100000) (gO (Nat.ble l.length 100000) (gO (fewL l) (fin6 (ob6 l k s r c b) (v4 l k s r (wAt l k c) b))))
noncomputable def ag6 (s r : Tup v3K) : D := .agg [I s.1, I s.2.1, I s.2.2.1, I r.1, I r.2.1, I r.2.2.1]
noncomputable def cIn (l : List (Tup wallK)) (j : Nat) : Bool := decide ((j : Int) < l.length)
noncomputable def cOut (l : List (Tup wallK)) (j : Nat) : Bool := decide ((j : Int) ≥ l.length)
theorem law6T_run (l : List (Tup wallK)) (j : Nat) (s r : Tup v3K) : bodyT ((cfg w0).at law6) 100 (L6 l (Int.ofNat j) s r (cIn l j) (cOut l j)) 100 (fnOf Tryz.f6) [.vec wallK l, ag6 s r, I (Int.ofNat j)] = law6T l (Int.ofNat j) s r (cIn l j) (cOut l j) := by kernel_rfl
noncomputable def obN (l : List (Tup wallK)) (k : Int) (s r : Tup v3K) (b : Bool) : Obs :=
  [(m123 l k s r zW true, cdB 123 (fnOf Tryz.f6).body, s6 (v3 l k s r zW true) (k3 l s r)), (m107 l k s r zW true, cdB 107 (fnOf Tryz.f6).body, s6 (v2 l k s r zW true) (k2 l s r true)),
    (m96 l k s r zW true, cdB 96 (fnOf Tryz.f6).body, s6 (v1 l k s r zW b) (k1 s zW)), (m38 l k s r false, cdB 38 (fnOf Tryz.f6).body, s38 l k s r zW false)]
noncomputable def ltN (j : Nat) : Bool := decide (Int.negSucc j < 0)
noncomputable def geN (l : List (Tup wallK)) (j : Nat) : Bool := decide (Int.negSucc j ≥ l.length)
theorem law6T_neg (l : List (Tup wallK)) (j : Nat) (s r : Tup v3K) : bodyT ((cfg w0).at law6) 100 (L6 l (Int.negSucc j) s r false true) 100 (fnOf Tryz.f6) [.vec wallK l, ag6 s r, I (Int.negSucc j)] =
    bif !shortW l then some ([], Bo true) else
    gO (Nat.ble l.length 100000) (gO (Nat.ble l.length 100000) (gO (fewL l)
      (bif ltN j then fin6 (ob6 l (Int.negSucc j) s r false true) (v4 l (Int.negSucc j) s r zW true) else fin6 (obN l (Int.negSucc j) s r (geN l j)) (v4 l (Int.negSucc j) s r zW true)))) := by kernel_rfl
end
end Go.Proofs.YtmlglimahbjgbaaGreatDoor

namespace Go.Proofs.YtmlglimahbjgbaaGreatDoor
open Go Go.Am Go.Town
set_option maxRecDepth 100000
variable {w0 : World}

/-! # TownMirrors: the law holds -/

theorem first_one (L : List Int) : firstZ [firstZ L] = firstZ L := by
  show (bif firstZ L != 0 then firstZ L else 0) = firstZ L
  cases h : (firstZ L != 0) with
  | true => rfl
  | false => exact (show firstZ L = 0 by simpa using h).symm

theorem three_eq (l : List (Tup wallK)) (s r : Tup v3K) : three0 l s r = e53 l s r := by
  unfold three0 e53
  show (bif chkAllW l != 0 then chkAllW l else firstZ [firstZ [pChk s, pChk r]]) = _
  rw [first_one]; rfl

theorem two_eq (l : List (Tup wallK)) (b : Bool) (s r : Tup v3K) : two0 l b s r = e52 l b s r := by
  unfold two0 e52
  show (bif chkAllW l != 0 then chkAllW l else bif whenZ b 10 != 0 then whenZ b 10 else firstZ [firstZ [pChk s, pChk r]]) = _
  rw [first_one]; rfl

theorem eqY_t {a b : Int} (h : a = b) : eqY a b = true := by subst h; simp [eqY]
theorem eqY_0 {a : Int} (h : eqY a 0 = true) : a = 0 := by simpa [eqY] using h
theorem eqY_n {a : Int} (h : eqY a 0 = false) : a ≠ 0 := by simpa [eqY] using h

theorem one_eq (w : Tup wallK) (s : Tup v3K) : imE w s = bif eqY (one0 w s) 0 then whenZ (!evW w) 21 else one0 w s := by
  unfold imE one0
  by_cases h1 : wChk w = 0
  · by_cases h2 : pChk s = 0
    · rw [h1, h2]
      cases evW w <;> rfl
    · have : (pChk s != 0) = true := by simpa using h2
      rw [h1]
      simp only [firstZ, this, bne_self_eq_false, cond_false, cond_true]
      rw [show eqY (pChk s) 0 = false by simpa [eqY] using h2]; rfl
  · have : (wChk w != 0) = true := by simpa using h1
    simp only [firstZ, this, cond_true]
    rw [show eqY (wChk w) 0 = false by simpa [eqY] using h1]; rfl

theorem ev_of {w : Tup wallK} (h : whenZ (!evW w) 21 = 0) : evW w = true := by
  cases hb : evW w with
  | true => rfl
  | false => rw [hb] at h; cases h

theorem or3_n {e : Int} {s : Tup v3K} (h : e ≠ 0) : or3 e s = z3 := by unfold or3; rw [show (e != 0) = true by simpa using h]; rfl
theorem or3_0 {s : Tup v3K} : or3 0 s = s := rfl

/-! ## The ifs -/

theorem ld96 (h0 : Lib0 w0) (ha : Good w0 ⟨13, awakeF⟩) (l : List (Tup wallK)) (k : Int) (s r : Tup v3K) (w : Tup wallK) (b : Bool) : LdT ((cfg w0).at law6) (m96 l k s r w b) (cdB 96 (fnOf Tryz.f6).body) (s6 (v1 l k s r w b) (k1 s w)) := by
  refine ldT_if (at_ok (cfg_ok w0) law6) (at_sp h0 (law6_gd h0 ha)) (.leaf (n := 60) (m := 60) (L := []) ?_)
  have he := one_eq w s
  unfold k1
  cases hc : eqY (one0 w s) 0 with
  | false =>
    refine (if96_f _).trans ?_
    rw [hc] at he
    have hn := eqY_n hc
    simp only [cond_false] at he
    unfold v2
    rw [he, or3_n hn]
    rfl
  | true =>
    refine (if96_t _).trans ?_
    rw [hc] at he
    simp only [cond_true] at he
    have hz := eqY_0 hc
    unfold one0 at hz
    rw [firstZ_nil] at hz
    have hw := hz (wChk w) (by simp)
    have hs := hz (pChk s) (by simp)
    have hok : okC (v1 l k s r w b) = true := by
      show (wChk w == 0) = true
      rw [hw]; rfl
    rw [hok]
    unfold v2
    rw [he]
    show (bif whenZ (!evW w) 21 == 0 then bif valI w s then _ else none else _) = _
    cases hv : (whenZ (!evW w) 21 == 0) with
    | true =>
      have hev := ev_of (show whenZ (!evW w) 21 = 0 by simpa using hv)
      have : valI w s = true := by unfold valI; rw [hw, hs, hev]; rfl
      rw [this, show whenZ (!evW w) 21 = 0 by simpa using hv, or3_0]
      simp only [cond_true]
      show some ([], X.normal, s6 { v1 l k s r w b with one := whenZ (!evW w) 21, im := imW w s } true) = _
      rw [show whenZ (!evW w) 21 = 0 by simpa using hv]
    | false =>
      rw [or3_n (show whenZ (!evW w) 21 ≠ 0 by simpa using hv)]
      rfl

theorem err_eq (l : List (Tup wallK)) (k : Int) (s r : Tup v3K) : err52 l k s r = bif e52 l (outB l k) s r != 0 then e52 l (outB l k) s r else bif !evW (nthW l k) then 21 else bif refB l k s r then 0 else 7 := rfl

theorem ld107 (h0 : Lib0 w0) (ha : Good w0 ⟨13, awakeF⟩) (l : List (Tup wallK)) (k : Int) (s r : Tup v3K) (w : Tup wallK) (b : Bool) (hb : b = outB l k) (hw : b = false → w = nthW l k) : LdT ((cfg w0).at law6) (m107 l k s r w b) (cdB 107 (fnOf Tryz.f6).body) (s6 (v2 l k s r w b) (k2 l s r b)) := by
  refine ldT_if (at_ok (cfg_ok w0) law6) (at_sp h0 (law6_gd h0 ha)) (.leaf (n := 60) (m := 60) (L := []) ?_)
  have hE := err_eq l k s r
  rw [← hb, ← two_eq] at hE
  unfold k2
  cases hc : eqY (two0 l b s r) 0 with
  | false =>
    have hn := eqY_n hc
    rw [show (two0 l b s r != 0) = true by simpa using hn] at hE
    simp only [cond_true] at hE
    refine (if107_f _).trans ?_
    have hm : om52 l k s r = z11 := by unfold om52; rw [hE, show (two0 l b s r == 0) = false by simpa using hn]; rfl
    unfold v3
    rw [hE, hm]
    rfl
  | true =>
    have hz := eqY_0 hc
    rw [show (two0 l b s r != 0) = false by rw [hz]; rfl] at hE
    simp only [cond_false] at hE
    have hz' := hz
    rw [two_eq] at hz'
    have hz2 := hz'
    unfold e52 at hz'
    rw [firstZ_nil] at hz'
    have hl := hz' (chkAllW l) (by simp)
    have ho := hz' (whenZ b 10) (by simp)
    have hs := hz' (pChk s) (by simp)
    have hr := hz' (pChk r) (by simp)
    have hbf : b = false := by
      cases b with
      | false => rfl
      | true => cases ho
    have hwk := hw hbf
    have hin : inK l k = true := by
      rw [hbf] at hb
      unfold outB at hb
      cases hd : decide (k < 0) with
      | true => rw [hd] at hb; cases hb
      | false =>
        rw [hd] at hb
        simp only [cond_false] at hb
        have h1 := of_decide_eq_false hd
        have h2 := of_decide_eq_false hb.symm
        unfold inK
        simp; omega
    have hwc : wChk w = 0 := by
      rw [hwk]
      refine (chkAll_all hl).2 _ (nth_mem ?_)
      unfold inK at hin
      simp only [Bool.and_eq_true, decide_eq_true_eq] at hin
      omega
    refine (if107_t _).trans ?_
    rw [show okC (v2 l k s r w b) = true by show (wChk w == 0) = true; rw [hwc]; rfl]
    simp only [cond_true]
    show (bif whenZ (!evW w) 21 == 0 then bif v57 l k s r then bif refB l k s r then some ([], X.normal, s6 { v2 l k s r w b with two := 0, mi := mirW (nthW l k) k s r } true) else some ([], X.normal, s6 { v2 l k s r w b with two := 7, mi := z11 } true) else none else some ([], X.normal, s6 { v2 l k s r w b with two := whenZ (!evW w) 21 } true)) = _
    unfold v3 om52
    rw [hE, hwk]
    cases hev : evW (nthW l k) with
    | false => rfl
    | true =>
      have hv : v57 l k s r = true := by unfold v57; rw [hl, hin, hs, hr, hev]; rfl
      rw [hv]
      cases refB l k s r <;> rfl

theorem ld123 (h0 : Lib0 w0) (ha : Good w0 ⟨13, awakeF⟩) (l : List (Tup wallK)) (k : Int) (s r : Tup v3K) (w : Tup wallK) (b : Bool) : LdT ((cfg w0).at law6) (m123 l k s r w b) (cdB 123 (fnOf Tryz.f6).body) (s6 (v3 l k s r w b) (k3 l s r)) := by
  refine ldT_if (at_ok (cfg_ok w0) law6) (at_sp h0 (law6_gd h0 ha)) (.leaf (n := 60) (m := 60) (L := []) ?_)
  unfold k3
  cases hc : eqY (three0 l s r) 0 with
  | false =>
    have hn := eqY_n hc
    rw [three_eq] at hn
    refine (if123_f _).trans ?_
    have : orM (e53 l s r) (mirsL l s r) = [] := by unfold orM; rw [show (e53 l s r != 0) = true by simpa using hn]; rfl
    unfold v4
    rw [this]
    rfl
  | true =>
    have hz := eqY_0 hc
    rw [three_eq] at hz
    refine (if123_t _).trans ?_
    have : orM (e53 l s r) (mirsL l s r) = mirsL l s r := by unfold orM; rw [hz]; rfl
    have hv : v58 l s r = true := by
      unfold e53 at hz
      rw [firstZ_nil] at hz
      unfold v58
      rw [hz (chkAllW l) (by simp), hz (pChk s) (by simp), hz (pChk r) (by simp)]; rfl
    show (bif v58 l s r then _ else _) = _
    rw [hv]
    unfold v4
    rw [this]
    rfl

theorem ld38 (h0 : Lib0 w0) (ha : Good w0 ⟨13, awakeF⟩) (l : List (Tup wallK)) (k : Int) (s r : Tup v3K) (c : Bool) (hc : c = true → inK l k = true) : LdT ((cfg w0).at law6) (m38 l k s r c) (cdB 38 (fnOf Tryz.f6).body) (s38 l k s r zW c) := by
  refine ldT_if (at_ok (cfg_ok w0) law6) (at_sp h0 (law6_gd h0 ha)) (.leaf (n := 60) (m := 60) (L := []) ?_)
  cases c with
  | false => exact (if38_f l k s r zW).trans rfl
  | true =>
    refine (if38_t l k s r zW).trans ?_
    have h := hc rfl
    unfold inK at h
    rw [h]; rfl

/-! ## The law -/

theorem mirs_fold (l : List (Tup wallK)) (s r : Tup v3K) : ∀ (js : List Nat) (acc : List (Tup mirK)), (js.foldl (fun b j => addM l s r j b) acc).length ≤ acc.length + js.length
  | [], acc => by simp
  | j :: js, acc => by
    rw [List.foldl_cons]
    have := mirs_fold l s r js (addM l s r j acc)
    have := addM_len l s r j acc
    rw [List.length_cons]
    omega

theorem orM_len (l : List (Tup wallK)) (s r : Tup v3K) (e : Int) : (orM e (mirsL l s r)).length ≤ l.length := by
  unfold orM
  cases (e != 0) with
  | true => simp
  | false =>
    have := mirs_fold l s r (List.range' 0 l.length) []
    simp only [List.length_nil, List.length_range', Nat.zero_add] at this
    exact this

theorem eq3m_self (a : Tup v3K) : eq3m a a = true := by
  unfold eq3m
  rw [eqY_t rfl, eqY_t rfl, eqY_t rfl]; rfl

theorem short_few {l : List (Tup wallK)} (h : shortW l = true) : fewL l = true ∧ l.length ≤ 33 := by
  unfold shortW at h
  cases hm : manyW l.length with
  | true => rw [hm] at h; cases h
  | false =>
    unfold manyW at hm
    simp only [Bool.and_eq_false_iff, decide_eq_false_iff_not, bne_eq_false_iff_eq] at hm
    unfold fewL manyL
    simp only [Bool.or_eq_true, Nat.ble_eq, decide_eq_true_eq]
    omega

theorem fin6_ok (l : List (Tup wallK)) (k : Int) (s r : Tup v3K) (w : Tup wallK) (b : Bool) (o : Obs) (hl : l.length ≤ 33) : fin6 o (v4 l k s r w b) = some (o, Bo true) := by
  have h1 : (orM (e53 l s r) (mirsL l s r)).length ≤ 100000 := Nat.le_trans (orM_len l s r _) (by omega)
  have h2 : sameM (orM (e53 l s r) (mirsL l s r)) (orM (e53 l s r) (mirsL l s r)) = true := by
    unfold sameM
    rw [Nat.ble_eq_true_of_le h1]
    simp
  unfold fin6
  show anM o (eq3m (or3 (imE w s) (imW w s)) (or3 (imE w s) (imW w s))) (anM o (eqY (imE w s) (imE w s)) (anM o (eqM (om52 l k s r) (om52 l k s r)) (anM o (eqY (err52 l k s r) (err52 l k s r)) (gO (Nat.ble (orM (e53 l s r) (mirsL l s r)).length 100000) (gO (sameM (orM (e53 l s r) (mirsL l s r)) (orM (e53 l s r) (mirsL l s r))) (anM o (eqY (e53 l s r) (three0 l s r)) (some (o, Bo true)))))))) = _
  rw [eq3m_self, eqY_t rfl, eqM_self, eqY_t rfl, Nat.ble_eq_true_of_le h1, h2, eqY_t (three_eq l s r).symm]
  rfl

theorem law6_fn (h0 : Lib0 w0) (ha : Good w0 ⟨13, awakeF⟩) (l : List (Tup wallK)) (s r : Tup v3K) (k : Int) : FnD (cfg w0) 6 [.vec wallK l, ag6 s r, I k] (Bo true) := by
  have main : ∀ c b, bodyT ((cfg w0).at law6) 100 (L6 l k s r c b) 100 (fnOf Tryz.f6) [.vec wallK l, ag6 s r, I k] = law6T l k s r c b → b = outB l k → (c = true → inK l k = true) → (b = false → c = true) → FnD (cfg w0) 6 [.vec wallK l, ag6 s r, I k] (Bo true) := fun c b hrun hb hc hbc => by
    cases hs : shortW l with
    | false =>
      refine fnD_t (cfg_ok w0) h0 (law6_gd h0 ha) (fd := fnOf Tryz.f6) rfl (o := []) (hrun.trans ?_) trivial
      unfold law6T
      rw [hs]; rfl
    | true =>
      obtain ⟨hf, hl⟩ := short_few hs
      refine fnD_t (cfg_ok w0) h0 (law6_gd h0 ha) (fd := fnOf Tryz.f6) rfl (o := ob6 l k s r c b) (hrun.trans ?_)
        ⟨ld123 h0 ha l k s r _ b, ld107 h0 ha l k s r _ b hb (fun h => by rw [hbc h]; rfl), ld96 h0 ha l k s r _ b, ld38 h0 ha l k s r c hc, trivial⟩
      unfold law6T
      rw [hs, Nat.ble_eq_true_of_le (show l.length ≤ 100000 by omega), hf, fin6_ok l k s r _ b _ hl]
      rfl
  cases k with
  | ofNat j =>
    refine main (cIn l j) (cOut l j) (law6T_run l j s r) ?_ (fun h => ?_) (fun h => ?_)
    · unfold outB cOut
      rw [decide_eq_false (show ¬ (Int.ofNat j < 0) by simp)]
      rfl
    · unfold cIn at h
      simp only [decide_eq_true_eq] at h
      unfold inK
      simp; omega
    · unfold cOut at h
      unfold cIn
      simp only [decide_eq_false_iff_not] at h
      simp only [decide_eq_true_eq]
      omega
  | negSucc j =>
    refine main false true ((law6T_neg l j s r).trans ?_) ?_ (fun h => by cases h) (fun h => by cases h)
    · rw [show ltN j = true from decide_eq_true (show Int.negSucc j < 0 by omega)]
      rfl
    unfold outB
    rw [decide_eq_true (show Int.negSucc j < 0 by omega)]
    rfl

def sh6 : List Sh := [.v wallK, .b [ik, ik, ik, ik, ik, ik], .c ik]

theorem law6_all (h0 : Lib0 w0) (ha : Good w0 ⟨13, awakeF⟩) (a : ArgT sh6) (_ : WfA sh6 a) : FnD (cfg w0) 6 (toShs sh6 a) (Bo true) :=
  law6_fn h0 ha a.1 (t3 a.2.1.1 a.2.1.2.1 a.2.1.2.2.1) (t3 a.2.1.2.2.2.1 a.2.1.2.2.2.2.1 a.2.1.2.2.2.2.2.1) a.2.2.1
end Go.Proofs.YtmlglimahbjgbaaGreatDoor
