/-
  A part of the proof of the statement that the claim names: see the last file.
-/
import Derived.Test.YtmlglimahbjgbaaGreatDoorE2
import Derived.Test.YtmlglimahbjgbaaGreatDoorAm4
import Derived.Test.YtmlglimahbjgbaaGreatDoorT9
namespace Go.Proofs.YtmlglimahbjgbaaGreatDoor
open Go Go.Am Go.Town
set_option maxRecDepth 100000
variable {w0 : World}

/-! # TownGrows: the law holds -/

theorem V_in {n : Int} (h1 : -9223372036854775808 ≤ n) (h2 : n ≤ 9223372036854775807) : IntKind.i64.wrap n = n := W_in h1 h2

theorem chkSpot_of {a b c : Int} (h1 : -1000 ≤ a ∧ a ≤ 1000) (h2 : -1000 ≤ b ∧ b ≤ 1000) (h3 : 0 ≤ c ∧ c ≤ 1000) : chkSpot a b c = 0 := by
  unfold chkSpot
  rw [withinZ_nil.2 h1, withinZ_nil.2 h2, withinZ_nil.2 h3]; rfl

theorem spots3_of {a b c d e f g h i : Int} (h1 : chkSpot a b c = 0) (h2 : chkSpot d e f = 0) (h3 : chkSpot g h i = 0) : (spots3 a b c d e f g h i == 0) = true := by
  unfold spots3
  rw [h1, h2, h3]; rfl

theorem wErr_of {w : Wl} {s r : Tup v3K} (h1 : wChk w = 0) (h2 : path9 w s r = 0) : wErr w s r = 0 := by
  unfold path9 at h2
  rw [firstZ_nil] at h2
  unfold wErr errZ
  unfold wChk at h1
  have a := h2 (pChk s) (by simp)
  have b := h2 (pChk r) (by simp)
  unfold pChk at a b
  rw [h1, a, b]; rfl

theorem gT_t {b : Bool} {k : Rt} (h : b = true) : gT b k = k := by rw [h]; rfl
theorem anT_t {o : Obs} {b : Bool} {k : Rt} (h : b = true) : anT o b k = k := by rw [h]; rfl
theorem noT_f {o : Obs} {b : Bool} {k : Rt} (h : b = false) : noT o b k = k := by rw [h]; rfl

theorem r3T_ok {o : Obs} {ax ay bx by' h sx sy sz rx ry rz : Int} (S : Small ax ay bx by' h sx sy sz rx ry rz) : r3T o ax ay sx sy sz rx ry rz = some (o, Bo true) := by
  have c1 := chkSpot_of S.s1 S.s2 S.s3
  have c2 := chkSpot_of S.a1 S.a2 S.s3
  have c3 := chkSpot_of S.r1 S.r2 S.r3
  obtain ⟨d1, d2⟩ := det_facts S.s1 S.s2 S.s3 S.a1 S.a2 S.s3 S.r1 S.r2 S.r3
  obtain ⟨n1, n2⟩ := det_none S.s1 S.s2 S.s3 S.r1 S.r2 S.r3
  unfold r3T
  rw [gT_t (spots3_of c1 c2 c3), gT_t (spots3_of c1 c1 c3), anT_t (by simpa using d1), anT_t (by simpa using d2), anT_t (by simpa using n1), anT_t (by simpa using n2)]

theorem r2T_ok {o : Obs} {ax ay bx by' h sx sy sz rx ry rz n3 : Int} (S : Small ax ay bx by' h sx sy sz rx ry rz) (hn : 0 ≤ n3 ∧ n3 ≤ 255) : r2T o ax ay sx sy sz rx ry rz n3 = some (o, Bo true) := by
  obtain ⟨_, q1, q2⟩ := sq_eq S.s1 S.s2 S.s3 S.r1 S.r2 S.r3
  unfold r2T
  simp only
  rw [V_in (n := n3) (by omega) (by omega)]
  generalize sqZ sx sy sz rx ry rz = s at *
  rw [V_in (n := s + n3) (by omega) (by omega)]
  obtain ⟨f1, f2, f3, f4, f5, f6, f7⟩ := len_facts (n := s + n3) (by omega) (by omega)
  have hq : 0 ≤ s + n3 ∧ s + n3 ≤ 20000000 := by omega
  generalize s + n3 = q at *
  have m1 := mul_bound (a := lowZ q) (b := lowZ q) (A := 5000) (B := 5000) (by omega) (by omega) (by omega) (by omega)
  have m2 := mul_bound (a := highZ q) (b := highZ q) (A := 5000) (B := 5000) (by omega) (by omega) (by omega) (by omega)
  rw [V_in (n := lowZ q + 1) (by omega) (by omega), V_in (n := lowZ q * lowZ q) (by omega) (by omega), V_in (n := highZ q * highZ q) (by omega) (by omega)]
  rw [gT_t (by simp; omega), noT_f (by simp; omega), noT_f (by simp; omega), noT_f (by simp; omega), noT_f (by simp; omega), noT_f (by simp; omega), noT_f (by simp; omega), noT_f (by rw [f7]; simp)]
  exact r3T_ok S

/-! ## The told ifs -/

theorem small_of {w : Wl} {s r : Tup v3K} (h : wErr w s r = 0) : Small w.2.1 w.2.2.1 w.2.2.2.1 w.2.2.2.2.1 w.2.2.2.2.2.1 s.1 s.2.1 s.2.2.1 r.1 r.2.1 r.2.2.1 := errZ_small h

theorem wChk_up {w : Wl} {h' : Int} (hw : wChk w = 0) (hh : 1 ≤ h' ∧ h' ≤ 1000) : wChk (setH w h') = 0 := by
  unfold wChk setH
  unfold wChk at hw
  unfold chkWall at hw ⊢
  rw [firstZ_nil] at hw ⊢
  intro x hx
  simp only [List.mem_cons, List.not_mem_nil, or_false] at hx hw
  rcases hx with rfl | rfl | rfl | rfl | rfl | rfl | rfl | rfl
  · exact hw _ (by simp)
  · exact hw _ (by simp)
  · exact hw _ (by simp)
  · exact hw _ (by simp)
  · exact hw _ (by simp)
  · exact hw _ (by simp)
  · exact withinZ_nil.2 hh
  · exact hw _ (by simp)

theorem gR_t {b : Bool} {k : Rs} (h : b = true) : gR b k = k := by rw [h]; rfl
theorem noR_f {b : Bool} {st : Bool → List D} {k : Rs} (h : b = false) : noR b st k = k := by rw [h]; rfl

def n1 (n : N4) : Int := n.1
def n2 (n : N4) : Int := n.2.1
def n3 (n : N4) : Int := n.2.2.1
def n4 (n : N4) : Int := n.2.2.2.1

theorem high_eq {w : Wl} {n : N4} (hh : 1 ≤ hgt w ∧ hgt w ≤ 1000) (hn : 0 ≤ n1 n ∧ n1 n ≤ 255) : high w n = setH w (hgt w + n1 n) := by
  show setH w (IntKind.i64.wrap (hgt w + IntKind.i64.wrap (n1 n))) = _
  rw [V_in (n := n1 n) (by omega) (by omega), V_in (n := hgt w + n1 n) (by omega) (by omega)]

theorem if70_ok {w : Wl} {n : N4} {s r : Tup v3K} (hw : wChk w = 0) (hp : path9 w s r = 0) (hn : 0 ≤ n1 n ∧ n1 n ≤ 255) (hH : hgt (high w n) ≤ 1000) :
    if70D w n s r (IntKind.i64.wrap (n1 n)) (high w n) true = some ([], .normal, st70 w n s r (IntKind.i64.wrap (n1 n)) (high w n) true false) := by
  have he := wErr_of hw hp
  have S := small_of he
  have hg : 1 ≤ hgt w ∧ hgt w ≤ 1000 := S.hh
  have hh := high_eq (n := n) hg hn
  have h1 : 1 ≤ hgt w + n1 n ∧ hgt w + n1 n ≤ 1000 := by
    rw [hh] at hH
    have : hgt (setH w (hgt w + n1 n)) = hgt w + n1 n := rfl
    omega
  have hw' := wChk_up (h' := hgt w + n1 n) hw h1
  have he' : wErr (setH w (hgt w + n1 n)) s r = 0 := wErr_of (s := s) (r := r) hw' hp
  have hd : wDep w s r ≤ wDep (setH w (hgt w + n1 n)) s r := dep_up hn.1 he he'
  rw [hh, V_in (n := n1 n) (by omega) (by omega)]
  unfold if70D
  simp only
  rw [he, he']
  have hd' : decide (wDep (setH w (hgt w + n1 n)) s r < wDep w s r) = false := by simpa using hd
  rw [hd']
  cases hc : wCut w s r with
  | false => rfl
  | true =>
    have hc' : wCut (setH w (hgt w + n1 n)) s r = true := cut_up hn.1 he he' hc
    obtain ⟨x1, x2, x3, x4, x5, x6⟩ := ex_up (up := n1 n) he he' hc
    have y1 : wDen (setH w (hgt w + n1 n)) s r = wDen w s r := x1
    have y2 : wNum (setH w (hgt w + n1 n)) s r = wNum w s r + n1 n * wDen w s r := x2
    have y3 : -16000000000 ≤ wNum w s r := x3
    have y4 : wNum w s r ≤ 16000000000 := x4
    have y5 : 0 ≤ wDen w s r := x5
    have y6 : wDen w s r ≤ 16000000 := x6
    have m := mul_bound (a := n1 n) (b := wDen w s r) (A := 255) (B := 16000000) (by omega) (by omega) (by omega) (by omega)
    rw [hc', y1, y2, V_in (n := n1 n * wDen w s r) (by omega) (by omega), V_in (n := wNum w s r + n1 n * wDen w s r) (by omega) (by omega)]
    simp [gR, noR]

theorem dep_mv {nm : ByteArray} {ax ay bx by' h e sx sy sz rx ry rz dx dy : Int} (hz : errZ nm ax ay bx by' h e sx sy sz rx ry rz = 0)
    (hz' : errZ nm (IntKind.i64.wrap (ax + dx)) (IntKind.i64.wrap (ay + dy)) (IntKind.i64.wrap (bx + dx)) (IntKind.i64.wrap (by' + dy)) h e (IntKind.i64.wrap (sx + dx)) (IntKind.i64.wrap (sy + dy)) sz (IntKind.i64.wrap (rx + dx)) (IntKind.i64.wrap (ry + dy)) rz = 0) (hx : -128 ≤ dx ∧ dx ≤ 127) (hy : -128 ≤ dy ∧ dy ≤ 127) :
    depP (IntKind.i64.wrap (ax + dx)) (IntKind.i64.wrap (ay + dy)) (IntKind.i64.wrap (bx + dx)) (IntKind.i64.wrap (by' + dy)) h (IntKind.i64.wrap (sx + dx)) (IntKind.i64.wrap (sy + dy)) sz (IntKind.i64.wrap (rx + dx)) (IntKind.i64.wrap (ry + dy)) rz = depP ax ay bx by' h sx sy sz rx ry rz := by
  have S := errZ_small hz
  obtain ⟨_, _⟩ := S.a1
  obtain ⟨_, _⟩ := S.a2
  obtain ⟨_, _⟩ := S.b1
  obtain ⟨_, _⟩ := S.b2
  obtain ⟨_, _⟩ := S.s1
  obtain ⟨_, _⟩ := S.s2
  obtain ⟨_, _⟩ := S.r1
  obtain ⟨_, _⟩ := S.r2
  rw [V_in (n := ax + dx) (by omega) (by omega), V_in (n := ay + dy) (by omega) (by omega), V_in (n := bx + dx) (by omega) (by omega), V_in (n := by' + dy) (by omega) (by omega), V_in (n := sx + dx) (by omega) (by omega), V_in (n := sy + dy) (by omega) (by omega), V_in (n := rx + dx) (by omega) (by omega), V_in (n := ry + dy) (by omega) (by omega)] at hz' ⊢
  exact dep_move hz hz'

theorem if228_ok {w : Wl} {n : N4} {s r : Tup v3K} (hw : wChk w = 0) (hp : path9 w s r = 0) (k2 : 0 ≤ n2 n ∧ n2 n ≤ 255) (k3 : 0 ≤ n3 n ∧ n3 n ≤ 255)
    (hw' : wChk (mvd w (shift (n2 n)) (shift (n3 n))) = 0) (hp' : path9 w (mv3 s (shift (n2 n)) (shift (n3 n))) (mv3 r (shift (n2 n)) (shift (n3 n))) = 0) :
    if228D w n s r (mvd w (shift (n2 n)) (shift (n3 n))) (mv3 s (shift (n2 n)) (shift (n3 n))) (mv3 r (shift (n2 n)) (shift (n3 n))) true =
      some ([], .normal, st228 w n s r (mvd w (shift (n2 n)) (shift (n3 n))) (mv3 s (shift (n2 n)) (shift (n3 n))) (mv3 r (shift (n2 n)) (shift (n3 n))) true false) := by
  have he := wErr_of hw hp
  have S := small_of he
  have he' : wErr (mvd w (shift (n2 n)) (shift (n3 n))) (mv3 s (shift (n2 n)) (shift (n3 n))) (mv3 r (shift (n2 n)) (shift (n3 n))) = 0 := wErr_of hw' hp'
  have hs : shift (n2 n) = n2 n - 128 := by unfold shift; rw [V_in (n := n2 n) (by omega) (by omega), V_in (n := n2 n - 128) (by omega) (by omega)]
  have ht : shift (n3 n) = n3 n - 128 := by unfold shift; rw [V_in (n := n3 n) (by omega) (by omega), V_in (n := n3 n - 128) (by omega) (by omega)]
  have hdep : wDep (mvd w (shift (n2 n)) (shift (n3 n))) (mv3 s (shift (n2 n)) (shift (n3 n))) (mv3 r (shift (n2 n)) (shift (n3 n))) = wDep w s r := by
    rw [hs, ht] at he' ⊢
    obtain ⟨nm, ax, ay, bx, by', h, e, u⟩ := w
    obtain ⟨sx, sy, sz, u1⟩ := s
    obtain ⟨rx, ry, rz, u2⟩ := r
    have hx : -128 ≤ n2 n - 128 ∧ n2 n - 128 ≤ 127 := by omega
    have hy : -128 ≤ n3 n - 128 ∧ n3 n - 128 ≤ 127 := by omega
    generalize n2 n - 128 = dx at *
    generalize n3 n - 128 = dy at *
    exact dep_mv he he' hx hy
  unfold if228D
  simp only [cond_true]
  rw [he, he', hdep]
  simp [gR, noR]

/-! ## The law -/

theorem ld70 (h0 : Lib0 w0) (ha : Good w0 ⟨13, awakeF⟩) {w : Wl} {n : N4} {s r : Tup v3K} (hw : wChk w = 0) (hp : path9 w s r = 0) (hn : 0 ≤ n1 n ∧ n1 n ≤ 255) : LdT ((cfg w0).at law9) (l70 w n s r) (cdB 70 (fnOf Tryz.f9).body) (pre70 w n s r) := by
  refine ldT_if (at_ok (cfg_ok w0) law9) (at_sp h0 (law9_gd h0 ha)) (.leaf (n := 60) (m := 60) (L := []) ?_)
  unfold pre70
  cases hd : decide (hgt (high w n) ≤ 1000) with
  | true => exact (if70_run w n s r _ _).trans (if70_ok hw hp hn (by simpa using hd))
  | false => exact (if70_not w n s r _ _).trans rfl

theorem ld228 (h0 : Lib0 w0) (ha : Good w0 ⟨13, awakeF⟩) {w : Wl} {n : N4} {s r : Tup v3K} (c : Bool) (hw : wChk w = 0) (hp : path9 w s r = 0) (k2 : 0 ≤ n2 n ∧ n2 n ≤ 255) (k3 : 0 ≤ n3 n ∧ n3 n ≤ 255)
    (hc : c = true → wChk (mvd w (shift (n2 n)) (shift (n3 n))) = 0 ∧ path9 w (mv3 s (shift (n2 n)) (shift (n3 n))) (mv3 r (shift (n2 n)) (shift (n3 n))) = 0) : LdT ((cfg w0).at law9) (l228 w n s r) (cdB 228 (fnOf Tryz.f9).body) (pre228 w n s r c) := by
  refine ldT_cond (at_ok (cfg_ok w0) law9) (at_sp h0 (law9_gd h0 ha)) rfl fun x ds' h => ?_
  simp only [l228, FT.run, Option.some.injEq, Prod.mk.injEq] at h
  obtain ⟨rfl, rfl⟩ := h
  refine ⟨60, 60, [], [], ?_, trivial⟩
  unfold pre228
  cases c with
  | true => exact (if228_run w n s r _ _ _).trans (if228_ok hw hp k2 k3 (hc rfl).1 (hc rfl).2)
  | false => exact (if228_not w n s r _ _ _).trans rfl

theorem law9_fn (h0 : Lib0 w0) (ha : Good w0 ⟨13, awakeF⟩) (w : Wl) (n : N4) (s r : Tup v3K) (k1 : 0 ≤ n1 n ∧ n1 n ≤ 255) (k2 : 0 ≤ n2 n ∧ n2 n ≤ 255) (k3 : 0 ≤ n3 n ∧ n3 n ≤ 255) (k4 : 0 ≤ n4 n ∧ n4 n ≤ 255) :
    FnD (cfg w0) 9 [wallD w, .agg [I s.1, I s.2.1, I s.2.2.1, I r.1, I r.2.1, I r.2.2.1], .agg [u8 n.1, u8 n.2.1, u8 n.2.2.1, u8 n.2.2.2.1]] (Bo true) := by
  have fin : ∀ o : Obs, law9T w n s r = some (o, Bo true) → Owed ((cfg w0).at law9) o → FnD (cfg w0) 9 [wallD w, .agg [I s.1, I s.2.1, I s.2.2.1, I r.1, I r.2.1, I r.2.2.1], .agg [u8 n.1, u8 n.2.1, u8 n.2.2.1, u8 n.2.2.2.1]] (Bo true) := fun o h ho =>
    fnD_t (cfg_ok w0) h0 (law9_gd h0 ha) (fd := fnOf Tryz.f9) rfl ((law9T_run w n s r).trans h) ho
  cases hl : longN9 w with
  | true => exact fin [] (by unfold law9T; rw [hl]; rfl) trivial
  | false =>
    by_cases hw : wChk w = 0
    case neg =>
      have : (wChk w != 0) = true := by simpa using hw
      exact fin [] (by unfold law9T; rw [hl, this]; rfl) trivial
    by_cases hp : path9 w s r = 0
    case neg =>
      have : (path9 w s r != 0) = true := by simpa using hp
      exact fin [] (by unfold law9T; rw [hl, hw, this]; rfl) trivial
    have S := small_of (wErr_of hw hp)
    by_cases hm : wChk (mvd w (shift (n2 n)) (shift (n3 n))) = 0
    · refine fin [(l228 w n s r, cdB 228 (fnOf Tryz.f9).body, pre228 w n s r (path9 w (mv3 s (shift (n2 n)) (shift (n3 n))) (mv3 r (shift (n2 n)) (shift (n3 n))) == 0)), (l70 w n s r, cdB 70 (fnOf Tryz.f9).body, pre70 w n s r)] ?_ ⟨ld228 h0 ha (path9 w (mv3 s (shift (n2 n)) (shift (n3 n))) (mv3 r (shift (n2 n)) (shift (n3 n))) == 0) hw hp k2 k3 (fun h => ⟨hm, by simpa using h⟩), ld70 h0 ha hw hp k1, trivial⟩
      unfold law9T
      rw [hl, hw, hp]
      show (bif wChk (mvd w (shift (n2 n)) (shift (n3 n))) == 0 then _ else _) = _
      rw [hm]
      exact r2T_ok S k4
    · refine fin [(l228 w n s r, cdB 228 (fnOf Tryz.f9).body, pre228 w n s r false), (l70 w n s r, cdB 70 (fnOf Tryz.f9).body, pre70 w n s r)] ?_ ⟨ld228 h0 ha false hw hp k2 k3 (fun h => by cases h), ld70 h0 ha hw hp k1, trivial⟩
      have hm' : (wChk (mvd w (shift (n2 n)) (shift (n3 n))) == 0) = false := by simpa using hm
      unfold law9T
      rw [hl, hw, hp]
      show (bif wChk (mvd w (shift (n2 n)) (shift (n3 n))) == 0 then _ else _) = _
      rw [hm']
      exact r2T_ok S k4

theorem u8_rng {n : Int} (h : (Lit.int .u8 n).wf = true) : 0 ≤ n ∧ n ≤ 255 := by
  simp only [Lit.wf, Bool.and_eq_true, decide_eq_true_eq] at h
  exact ⟨h.1, h.2⟩

def sh9 : List Sh := [.b wallK, .b [ik, ik, ik, ik, ik, ik], .b [uk, uk, uk, uk]]
def t3' (a b c : Int) : Tup v3K := (a, b, c, ())

theorem law9_all (h0 : Lib0 w0) (ha : Good w0 ⟨13, awakeF⟩) (a : ArgT sh9) (hw : WfA sh9 a) : FnD (cfg w0) 9 (toShs sh9 a) (Bo true) :=
  law9_fn h0 ha a.1 a.2.2.1 (t3' a.2.1.1 a.2.1.2.1 a.2.1.2.2.1) (t3' a.2.1.2.2.2.1 a.2.1.2.2.2.2.1 a.2.1.2.2.2.2.2.1)
    (u8_rng hw.2.2.1.1) (u8_rng hw.2.2.1.2.1) (u8_rng hw.2.2.1.2.2.1) (u8_rng hw.2.2.1.2.2.2.1)
end Go.Proofs.YtmlglimahbjgbaaGreatDoor

namespace Go.Proofs.YtmlglimahbjgbaaGreatDoor
open Go Go.Am Go.Town Go.RowKit Go.ChangeShapes Go.WideShapes Go.ChangeAt
set_option maxRecDepth 100000

/-! # The card -/

theorem laid9 : Rows.townGrowsRow.laid = Rows.townPathsRow.laid := rfl
theorem sh9_ok : shOks Tryz.prog Tryz.f9.params.toList sh9 = true := by kernel_rfl

abbrev arg9 : Array Value := #[.agg #[.string ByteArray.empty, iv 0, iv 0, iv 0, iv 0, iv 0, iv 0], .agg #[iv 0, iv 0, iv 0, iv 0, iv 0, iv 0], .agg #[.int .u8 0, .int .u8 0, .int .u8 0, .int .u8 0]]

theorem lifted (os : Os) (started : os.Started) (H : Type) (enc : TypeId × Value → H) :
    ReturnsInHanded {} Tryz.checked os 9 .any (fun w args => (Rows.townGrowsSpec.pre enc Tryz.prog Tryz.f9 [] false w args ∧ laidMetH Tryz.prog Rows.townGrowsRow.laid w) ∧ sizedMet enc Tryz.prog Tryz.f9 (OpenSpec.ofChange Rows.townGrowsSpec) false w args)
      (Rows.townGrowsSpec.post enc Tryz.prog Tryz.f9 false true false false) := by
  refine returnsInHanded_of_change_and (C := Tryz.checked) (X := fun w _ => laidMetH Tryz.prog Rows.townGrowsRow.laid w) (fun _ _ _ hh h => h.of_heap hh) own started (by kernel_rfl) Tryz.func9
    (ChangeSpec.witness_shaped (enc := enc) (C := Tryz.checked) (os := os) (X := fun w _ => laidMetH Tryz.prog Rows.townGrowsRow.laid w) false (World.doorLaid Tryz.prog 600 os) arg9 8 rfl (World.shaped_of_RefB (by kernel_rfl) (by kernel_rfl)) (by kernel_rfl) (by kernel_rfl) (by kernel_rfl) (door_met os _)) ?_
  intro W base args ds gs before hval0 hW _ _ hL _
  have hval : ∀ (j : Nat) t v, Tryz.f9.params[j]? = some t → args[j]? = some v → Value.okWide Tryz.prog W .any base t v := hval0
  have hW' := hW
  obtain ⟨p, q, hA0, hV, rfl, hfz, hnd⟩ := hW
  have hA : DataW.TrodAll enc Tryz.prog W 0 (fun _ => true) true Tryz.f9.params.toList args.toList ds p := hA0
  obtain ⟨rfl, rfl⟩ := trodVars_none hV
  obtain ⟨a, hwf, ha⟩ := args_imp _ sh9 _ _ _ sh9_ok hA (fun j t v hj hj' => hval j t v (by simpa using hj) (by simpa using hj'))
  obtain ⟨d0, d1, d2, rfl⟩ := len_three ((all_len _ _ _ _ hA).trans (by kernel_rfl : Tryz.f9.params.toList.length = 3))
  have h0 := lib_of hL
  have hb := base_of hL
  refine (fnD_below (C := cfg W) rfl (law9_all h0 (awake_good h0) a hwf) hb (ha _ _)).mono fun e' W' ⟨he, hB⟩ => ?_
  subst he
  exact ⟨_, rfl, ⟨_, _, _, [], _, [], hW', trodAll_mk1 (shut_bool Tryz.underlying4 true), all_below laidOut hB _ _ _ _ (by kernel_rfl) hA (fun x hx => by simpa using hW'.lt x (by simpa using hx)), rfl, hB.frame _, fun h => by cases h⟩⟩

end Go.Proofs.YtmlglimahbjgbaaGreatDoor
