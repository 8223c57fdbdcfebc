/-
  A part of the proof of the statement that the claim names: see the last file.
-/
import Derived.Test.YtmlglimahbjgbaaGreatDoorB1
import Derived.Test.YtmlglimahbjgbaaGreatDoorT9
namespace Go.Proofs.YtmlglimahbjgbaaGreatDoor
open Go Go.Am Go.Town
set_option maxRecDepth 100000
variable {w0 : World}
noncomputable section


def numB (have' e bad want : Int) : Bool := bif have' == (bif bad != 0 then 0 else want) then e == bad else false

theorem fn26 (h0 : Lib0 w0) (a e b w : Int) : FnD (cfg w0) 26 [I a, I e, I b, I w] (Bo (numB a e b w)) :=
  fnD_k (cfg_ok w0) h0 (cs := []) trivial (fd := fnOf Tryz.f26) rfl (n := 40) ((show bodyK ((cfg w0).at []) 40 (fnOf Tryz.f26) [I a, I e, I b, I w] =
    bif b != 0 then (bif a == 0 then some (Bo (e == b)) else some (Bo false)) else (bif a == w then some (Bo (e == b)) else some (Bo false)) by kernel_rfl).trans (by
      unfold numB
      cases (b != 0)
      · simp only [cond_false]; cases (a == w) <;> rfl
      · simp only [cond_true]; cases (a == 0) <;> rfl))

abbrev iv2 : List Kd := [ik, ik]
def z2 : Tup iv2 := ((0 : Int), (0 : Int), ())
def pair (x : Tup iv2) : D := .agg [I x.1, I x.2.1]
def eqI (a b : Int) : Bool := a == b
def eq2 (x y : Tup iv2) : Bool := eqI x.1 y.1 && (eqI x.2.1 y.2.1 && true)
def ivB (x : Tup iv2) (e b : Int) (y : Tup iv2) : Bool := bif eq2 x (bif b != 0 then z2 else y) then e == b else false

theorem fn39 (h0 : Lib0 w0) (x : Tup iv2) (e b : Int) (y : Tup iv2) : FnD (cfg w0) 39 [pair x, I e, I b, pair y] (Bo (ivB x e b y)) :=
  fnD_k (cfg_ok w0) h0 (cs := []) trivial (fd := fnOf Tryz.f39) rfl (n := 40) ((show bodyK ((cfg w0).at []) 40 (fnOf Tryz.f39) [pair x, I e, I b, pair y] =
    bif b != 0 then (bif eq2 x z2 then some (Bo (e == b)) else some (Bo false)) else (bif eq2 x y then some (Bo (e == b)) else some (Bo false)) by kernel_rfl).trans (by
      unfold ivB
      cases (b != 0)
      · simp only [cond_false]; cases (eq2 x y) <;> rfl
      · simp only [cond_true]; cases (eq2 x z2) <;> rfl))

def cs40 : List Ct := [c95]
def liB (x : List (Tup intK)) (e b : Int) (y : List (Tup intK)) : Bool := bif sameI x (bif b != 0 then [] else y) then e == b else false
theorem fn40 (h0 : Lib0 w0) (x : List (Tup intK)) (e b : Int) (y : List (Tup intK)) (hl : x.length ≤ 100000) : FnD (cfg w0) 40 [.vec intK x, I e, I b, .vec intK y] (Bo (liB x e b y)) :=
  fnD_k (cfg_ok w0) h0 (cs := cs40) ⟨gd95 h0, trivial⟩ (fd := fnOf Tryz.f40) rfl (n := 40) ((show bodyK ((cfg w0).at cs40) 40 (fnOf Tryz.f40) [.vec intK x, I e, I b, .vec intK y] =
    bif b != 0 then (bif Nat.ble x.length 100000 then bif sameI x [] then some (Bo (e == b)) else some (Bo false) else none) else (bif Nat.ble x.length 100000 then bif sameI x y then some (Bo (e == b)) else some (Bo false) else none) by kernel_rfl).trans (by
      unfold liB
      rw [Nat.ble_eq_true_of_le hl]
      cases (b != 0)
      · simp only [cond_false, cond_true]; cases (sameI x y) <;> rfl
      · simp only [cond_true]; cases (sameI x []) <;> rfl))

def pr2 (a b : Int) : Tup iv2 := (a, b, ())

def lvL' : List Ct := [⟨115, tG (intsF withinK)⟩, ⟨116, tG (intsF lenK)⟩, ⟨104, tG checkSpotF⟩, ⟨98, tG firstF⟩, ⟨117, tG detF⟩]
theorem lvL'_gd (h0 : Lib0 w0) : Gds (cfg w0) lvL' := ⟨gd_of (within_good h0), gd_of (len_good h0), gd_of (checkSpot_good h0), gd_of (first_good h0), gd_of (detour_good h0), trivial⟩

def sqE (n : Int) : Int := withinZ n 0 20000000
def lenI (n : Int) : Tup iv2 := pr2 (lowZ n) (highZ n)
theorem fn28 (h0 : Lib0 w0) (n : Int) : FnD (cfg w0) 28 [I n] (bif sqE n != 0 then .tup [pair z2, I (sqE n)] else .tup [pair (lenI n), I 0]) :=
  fnD_k (cfg_ok w0) h0 (lvL'_gd h0) (fd := fnOf Tryz.f28) rfl (n := 60) ((show bodyK ((cfg w0).at lvL') 60 (fnOf Tryz.f28) [I n] =
    bif sqE n != 0 then some (.tup [pair z2, I (sqE n)]) else bif sqB n then some (.tup [pair (lenI n), I 0]) else none by kernel_rfl).trans (by
      cases hc : (sqE n != 0)
      · have := withinZ_nil.1 (show withinZ n 0 20000000 = 0 by simpa [sqE] using hc)
        rw [sqB_iff.2 ⟨this.1, by omega⟩]; rfl
      · rfl))
def c28 : Ct := ct 28 [.c ik] fun a => .br (sqE a.1 != 0) (.leaf (.tup [pair z2, I (sqE a.1)])) (.leaf (.tup [pair (lenI a.1), I 0]))
theorem gd28 (h0 : Lib0 w0) : Gd (cfg w0) c28 := gd_sig fun a d hd => by
  have := fn28 h0 a.1
  simp only [FT.run] at hd
  cases hc : (sqE a.1 != 0) <;> rw [hc] at hd this <;> cases hd <;> exact this

def sp3 (a b c : Tup v3K) : Int := spots3 a.1 a.2.1 a.2.2.1 b.1 b.2.1 b.2.2.1 c.1 c.2.1 c.2.2.1
def sq3 (a b : Tup v3K) : Int := sqZ a.1 a.2.1 a.2.2.1 b.1 b.2.1 b.2.2.1
def det3 (a b c : Tup v3K) : Tup iv2 := pr2 (detL (sq3 a b) (sq3 b c) (sq3 a c)) (detH (sq3 a b) (sq3 b c) (sq3 a c))

theorem sq_ok {a b : Tup v3K} (ha : pChk a = 0) (hb : pChk b = 0) : sqB (sq3 a b) = true := by
  obtain ⟨a1, a2, a3⟩ := chkSpot_nil ha
  obtain ⟨b1, b2, b3⟩ := chkSpot_nil hb
  exact sq_small a1 a2 a3 b1 b2 b3

theorem fn29 (h0 : Lib0 w0) (a b c : Tup v3K) : FnD (cfg w0) 29 [vec3 a, vec3 b, vec3 c] (bif sp3 a b c != 0 then .tup [pair z2, I (sp3 a b c)] else .tup [pair (det3 a b c), I 0]) :=
  fnD_k (cfg_ok w0) h0 (lvL'_gd h0) (fd := fnOf Tryz.f29) rfl (n := 60) ((show bodyK ((cfg w0).at lvL') 60 (fnOf Tryz.f29) [vec3 a, vec3 b, vec3 c] =
    bif sp3 a b c != 0 then some (.tup [pair z2, I (sp3 a b c)]) else bif sqB (sq3 a b) && (sqB (sq3 b c) && sqB (sq3 a c)) then some (.tup [pair (det3 a b c), I 0]) else none by kernel_rfl).trans (by
      cases hc : (sp3 a b c != 0)
      · have hz : firstZ [pChk a, pChk b, pChk c] = 0 := (by simpa using hc : sp3 a b c = 0)
        rw [firstZ_nil] at hz
        rw [sq_ok (hz (pChk a) (by simp)) (hz (pChk b) (by simp)), sq_ok (hz (pChk b) (by simp)) (hz (pChk c) (by simp)), sq_ok (hz (pChk a) (by simp)) (hz (pChk c) (by simp))]; rfl
      · rfl))
def c29 : Ct := ct 29 [.b v3K, .b v3K, .b v3K] fun a => .br (sp3 a.1 a.2.1 a.2.2.1 != 0) (.leaf (.tup [pair z2, I (sp3 a.1 a.2.1 a.2.2.1)])) (.leaf (.tup [pair (det3 a.1 a.2.1 a.2.2.1), I 0]))
theorem gd29 (h0 : Lib0 w0) : Gd (cfg w0) c29 := gd_sig fun a d hd => by
  have := fn29 h0 a.1 a.2.1 a.2.2.1
  simp only [FT.run] at hd
  cases hc : (sp3 a.1 a.2.1 a.2.2.1 != 0) <;> rw [hc] at hd this <;> cases hd <;> exact this


def cs30 : List Ct := [checkC 38, ⟨104, tG checkSpotF⟩, ⟨98, tG firstF⟩, c118]
theorem cs30_gd (h0 : Lib0 w0) : Gds (cfg w0) cs30 := ⟨gd38 h0, gd_of (checkSpot_good h0), gd_of (first_good h0), gd118 h0, trivial⟩
def e30 (l : List (Tup wallK)) (s r : Tup v3K) : Int := firstZ [chkAllW l, pChk s, pChk r]

theorem chkFrom_nil : ∀ (l : List (Tup wallK)) (seen : List ByteArray), chkFrom seen l = 0 → ∀ w ∈ l, wChk w = 0
  | [], _, _, w, hw => by cases hw
  | v :: vs, seen, h, w, hw => by
    unfold chkFrom at h
    cases hc : (chkE seen v != 0) with
    | true => rw [hc] at h; simp only [cond_true] at h; rw [h] at hc; cases hc
    | false =>
      rw [hc] at h
      simp only [cond_false] at h
      rcases List.mem_cons.1 hw with rfl | hw
      · have : chkE seen w = 0 := by simpa using hc
        unfold chkE at this
        cases he : (wChk w != 0) with
        | true => rw [he] at this; simpa using this
        | false => simpa using he
      · exact chkFrom_nil vs _ h w hw

theorem chkAll_nil {l : List (Tup wallK)} (h : chkAllW l = 0) : l.length ≤ 32 ∧ ∀ w ∈ l, wChk w = 0 := by
  unfold chkAllW at h
  cases hc : decide ((l.length : Int) > 32) with
  | true => rw [hc] at h; cases h
  | false =>
    rw [hc] at h
    refine ⟨?_, chkFrom_nil l [] h⟩
    rw [decide_eq_false_iff_not] at hc
    omega

theorem ok_all {l : List (Tup wallK)} {s r : Tup v3K} (h : e30 l s r = 0) : l.length ≤ 32 ∧ l.all (okW s r) = true := by
  unfold e30 at h
  rw [firstZ_nil] at h
  obtain ⟨h1, h2⟩ := chkAll_nil (l := l) (h _ (by simp))
  refine ⟨h1, ?_⟩
  rw [List.all_eq_true]
  intro w hw
  have hs := h (pChk s) (by simp)
  have hr := h (pChk r) (by simp)
  have hw' := h2 w hw
  unfold okW wErr errZ
  unfold wChk at hw'
  unfold pChk at hs hr
  rw [hw', hs, hr]; rfl

theorem fn30 (h0 : Lib0 w0) (l : List (Tup wallK)) (s r : Tup v3K) : FnD (cfg w0) 30 [.vec wallK l, vec3 s, vec3 r]
    (bif e30 l s r != 0 then .tup [.val (.slice none 0 0), I 0, I (e30 l s r)] else .tup [.vec intK (l.map (depE s r)), I (sumT (l.map (depE s r))), I 0]) :=
  fnD_k (cfg_ok w0) h0 (cs30_gd h0) (fd := fnOf Tryz.f30) rfl (n := 60) ((show bodyK ((cfg w0).at cs30) 60 (fnOf Tryz.f30) [.vec wallK l, vec3 s, vec3 r] =
    bif e30 l s r != 0 then some (.tup [.val (.slice none 0 0), I 0, I (e30 l s r)]) else
    bif Nat.ble l.length 100000 && l.all (okW s r) then some (.tup [.vec intK (l.map (depE s r)), I (sumT (l.map (depE s r))), I 0]) else none by kernel_rfl).trans (by
      cases hc : (e30 l s r != 0)
      · obtain ⟨h1, h2⟩ := ok_all (l := l) (s := s) (r := r) (by simpa using hc)
        rw [Nat.ble_eq_true_of_le (show l.length ≤ 100000 by omega), h2]; rfl
      · rfl))
def c30 : Ct := ct 30 [.v wallK, .b v3K, .b v3K] fun a => .br (e30 a.1 a.2.1 a.2.2.1 != 0) (.leaf (.tup [.val (.slice none 0 0), I 0, I (e30 a.1 a.2.1 a.2.2.1)])) (.leaf (.tup [.vec intK ((a.1 : List (Tup wallK)).map (depE a.2.1 a.2.2.1)), I (sumT ((a.1 : List (Tup wallK)).map (depE a.2.1 a.2.2.1))), I 0]))
theorem gd30 (h0 : Lib0 w0) : Gd (cfg w0) c30 := gd_sig fun a d hd => by
  have := fn30 h0 a.1 a.2.1 a.2.2.1
  simp only [FT.run] at hd
  cases hc : (e30 a.1 a.2.1 a.2.2.1 != 0) <;> rw [hc] at hd this <;> cases hd <;> exact this
end
end Go.Proofs.YtmlglimahbjgbaaGreatDoor

namespace Go.Proofs.YtmlglimahbjgbaaGreatDoor
open Go Go.Am Go.Town
set_option maxRecDepth 100000
variable {w0 : World}
noncomputable section


def orZ (e : Int) (x : Int) : Int := bif e != 0 then 0 else x
def or2 (e : Int) (x : Tup iv2) : Tup iv2 := pr2 (orZ e x.1) (orZ e x.2.1)
def orL (e : Int) (x : List (Tup intK)) : List (Tup intK) := bif e != 0 then [] else x

def c28v : Ct := ct 28 [.c ik] fun a => .leaf (.tup [pair (or2 (sqE a.1) (lenI a.1)), I (sqE a.1)])
theorem gd28v (h0 : Lib0 w0) : Gd (cfg w0) c28v := gd_sig fun a d hd => by
  cases hd
  have := fn28 h0 a.1
  unfold or2 orZ
  cases hc : (sqE a.1 != 0) <;> rw [hc] at this
  · rw [show sqE a.1 = 0 by simpa using hc]; exact this
  · exact this

def c29v : Ct := ct 29 [.b v3K, .b v3K, .b v3K] fun a => .leaf (.tup [pair (or2 (sp3 a.1 a.2.1 a.2.2.1) (det3 a.1 a.2.1 a.2.2.1)), I (sp3 a.1 a.2.1 a.2.2.1)])
theorem gd29v (h0 : Lib0 w0) : Gd (cfg w0) c29v := gd_sig fun a d hd => by
  cases hd
  have := fn29 h0 a.1 a.2.1 a.2.2.1
  unfold or2 orZ
  cases hc : (sp3 a.1 a.2.1 a.2.2.1 != 0) <;> rw [hc] at this
  · rw [show sp3 a.1 a.2.1 a.2.2.1 = 0 by simpa using hc]; exact this
  · exact this

def deps (l : List (Tup wallK)) (s r : Tup v3K) : List (Tup intK) := l.map (depE s r)
theorem fn30v (h0 : Lib0 w0) (l : List (Tup wallK)) (s r : Tup v3K) : FnD (cfg w0) 30 [.vec wallK l, vec3 s, vec3 r] (.tup [.vec intK (orL (e30 l s r) (deps l s r)), I (orZ (e30 l s r) (sumT (deps l s r))), I (e30 l s r)]) := by
  have := fn30 h0 l s r
  unfold orL orZ
  cases hc : (e30 l s r != 0) <;> rw [hc] at this
  · rw [show e30 l s r = 0 by simpa using hc]; exact this
  · exact this.nil_vec (ks := intK) (vs := [iv 0, iv (e30 l s r)]) rfl (by decide)
def c30v : Ct := ct 30 [.v wallK, .b v3K, .b v3K] fun a => .leaf (.tup [.vec intK (orL (e30 a.1 a.2.1 a.2.2.1) (deps a.1 a.2.1 a.2.2.1)), I (orZ (e30 a.1 a.2.1 a.2.2.1) (sumT (deps a.1 a.2.1 a.2.2.1))), I (e30 a.1 a.2.1 a.2.2.1)])
theorem gd30v (h0 : Lib0 w0) : Gd (cfg w0) c30v := gd_sig fun a d hd => by cases hd; exact fn30v h0 a.1 a.2.1 a.2.2.1

def c26 : Ct := ct 26 [.c ik, .c ik, .c ik, .c ik] fun a => .leaf (Bo (numB a.1 a.2.1 a.2.2.1 a.2.2.2.1))
theorem gd26 (h0 : Lib0 w0) : Gd (cfg w0) c26 := gd_sig fun a d hd => by cases hd; exact fn26 h0 a.1 a.2.1 a.2.2.1 a.2.2.2.1
def c39 : Ct := ct 39 [.b iv2, .c ik, .c ik, .b iv2] fun a => .leaf (Bo (ivB a.1 a.2.1 a.2.2.1 a.2.2.2.1))
theorem gd39 (h0 : Lib0 w0) : Gd (cfg w0) c39 := gd_sig fun a d hd => by cases hd; exact fn39 h0 a.1 a.2.1 a.2.2.1 a.2.2.2.1
def c40 : Ct := ct 40 [.v intK, .c ik, .c ik, .v intK] fun a => .br (Nat.ble (a.1 : List (Tup intK)).length 100000) (.leaf (Bo (liB a.1 a.2.1 a.2.2.1 a.2.2.2.1))) .bad
theorem gd40 (h0 : Lib0 w0) : Gd (cfg w0) c40 := gd_sig fun a d hd => by
  obtain ⟨hg, hd⟩ := br_run hd
  cases hd
  exact fn40 h0 a.1 a.2.1 a.2.2.1 a.2.2.2.1 (Nat.le_of_ble_eq_true hg)

def law4 : List Ct := [⟨13, tG awakeF⟩, c27, c28v, c29v, c31, c30v, ⟨32, tG (intsF withinK)⟩, checkC 33, ⟨34, tG checkSpotF⟩, ⟨108, tG firstF⟩, ⟨21, tG checkPathF⟩, ⟨35, tG (intsF lenK)⟩, ⟨36, tG detF⟩, c37, checkC 38, c39, c40, c26]
theorem law4_gd (h0 : Lib0 w0) (ha : Good w0 ⟨13, awakeF⟩) : Gds (cfg w0) law4 :=
  ⟨gd_of ha, gd27 h0, gd28v h0, gd29v h0, gd31 h0, gd30v h0, gd_of (range_good h0), gd33 h0, gd_of (rcheckSpot_good h0), gd_of (rfirst_good h0), gd_of (rcheckPath_good h0), gd_of (rlen_good h0), gd_of (rdetour_good h0), gd37 h0, gd38 h0, gd39 h0, gd40 h0, gd26 h0, trivial⟩

def spots (a b c : Tup v3K) : D := .agg [I a.1, I a.2.1, I a.2.2.1, I b.1, I b.2.1, I b.2.2.1, I c.1, I c.2.1, I c.2.2.1]
def three4 (l : List (Tup wallK)) (a c : Tup v3K) : Int := firstZ [chkAllW l, firstZ [pChk a, pChk c]]

def tail4 (l : List (Tup wallK)) (a b c : Tup v3K) (n : Int) (L V : Tup iv2) (ds : List (Tup intK)) (sm : Int) : Option D :=
  g1 (Nat.ble l.length 100000) (an (chkAllW l == chkAllW l) (an (ivB (or2 (sqE n) (lenI n)) (sqE n) (sqE n) L) (an (ivB (or2 (sp3 a b c) (det3 a b c)) (sp3 a b c) (sp3 a b c) V)
    (g1 (Nat.ble (orL (e30 l a c) (deps l a c)).length 100000) (an (liB (orL (e30 l a c) (deps l a c)) (e30 l a c) (three4 l a c) ds) (an (numB (orZ (e30 l a c) (sumT (deps l a c))) (e30 l a c) (three4 l a c) sm) (some (Bo true))))))))
def m3 (l : List (Tup wallK)) (a b c : Tup v3K) (n : Int) (L V : Tup iv2) : Option D :=
  bif three4 l a c == 0 then g1 (Nat.ble l.length 100000 && l.all (okW a c)) (tail4 l a b c n L V (deps l a c) (sumT (deps l a c))) else tail4 l a b c n L V [] 0
def m2 (l : List (Tup wallK)) (a b c : Tup v3K) (n : Int) (L : Tup iv2) : Option D :=
  bif sp3 a b c == 0 then g1 (sqB (sq3 a b) && (sqB (sq3 b c) && sqB (sq3 a c))) (m3 l a b c n L (det3 a b c)) else m3 l a b c n L z2
def law4D (l : List (Tup wallK)) (a b c : Tup v3K) (n : Int) : Option D :=
  bif !shortW l then some (Bo true) else
  g1 (Nat.ble l.length 100000) (bif sqE n == 0 then g1 (sqB n) (m2 l a b c n (lenI n)) else m2 l a b c n z2)

theorem law4_run (l : List (Tup wallK)) (a b c : Tup v3K) (n : Int) : bodyK ((cfg w0).at law4) 100 (fnOf Tryz.f4) [.vec wallK l, spots a b c, I n] = law4D l a b c n := by kernel_rfl

theorem eq2_self (x : Tup iv2) : eq2 x x = true := by
  have h : ∀ a : Int, eqI a a = true := fun a => by simp [eqI]
  unfold eq2
  rw [h x.1, h x.2.1]; rfl

theorem ivB_ok (e : Int) (x y : Tup iv2) (h : e = 0 → y = x) : ivB (or2 e x) e e y = true := by
  unfold ivB
  cases he : (e != 0) with
  | true =>
    have : or2 e x = z2 := by unfold or2 orZ; rw [he]; rfl
    rw [this, cond_true, eq2_self]
    simp
  | false =>
    have h0 : e = 0 := by simpa using he
    have : or2 e x = x := by unfold or2 orZ; rw [he]; rfl
    rw [this, h h0, cond_false, eq2_self]
    simp

theorem numB_ok (e x y : Int) (h : e = 0 → y = x) : numB (orZ e x) e e y = true := by
  unfold numB orZ
  cases he : (e != 0) with
  | true => simp
  | false => rw [h (by simpa using he)]; simp

theorem sameI_self (x : List (Tup intK)) : sameI x x = true := by simp [sameI]

theorem liB_ok (e : Int) (x y : List (Tup intK)) (h : e = 0 → y = x) : liB (orL e x) e e y = true := by
  unfold liB orL
  cases he : (e != 0) with
  | true => simp [sameI_self]
  | false => rw [h (by simpa using he)]; simp [sameI_self]

theorem three4_eq (l : List (Tup wallK)) (a c : Tup v3K) : three4 l a c = e30 l a c := firstZ_tail _ _ _

theorem tail4_ok (l : List (Tup wallK)) (a b c : Tup v3K) (n : Int) (L V : Tup iv2) (ds : List (Tup intK)) (sm : Int) (hl : l.length ≤ 100000) (hL : sqE n = 0 → L = lenI n) (hV : sp3 a b c = 0 → V = det3 a b c) (hd : e30 l a c = 0 → ds = deps l a c) (hs : e30 l a c = 0 → sm = sumT (deps l a c)) :
    tail4 l a b c n L V ds sm = some (Bo true) := by
  unfold tail4
  have h2 : (orL (e30 l a c) (deps l a c)).length ≤ 100000 := by
    unfold orL deps
    cases (e30 l a c != 0) <;> simp <;> omega
  rw [three4_eq, Nat.ble_eq_true_of_le hl, ivB_ok _ _ _ hL, ivB_ok _ _ _ hV, Nat.ble_eq_true_of_le h2, liB_ok _ _ _ hd, numB_ok _ _ _ hs]
  simp [g1, an]

theorem m3_ok (l : List (Tup wallK)) (a b c : Tup v3K) (n : Int) (L V : Tup iv2) (hl : l.length ≤ 100000) (hL : sqE n = 0 → L = lenI n) (hV : sp3 a b c = 0 → V = det3 a b c) : m3 l a b c n L V = some (Bo true) := by
  unfold m3
  rw [three4_eq]
  by_cases he : e30 l a c = 0
  · obtain ⟨_, hok⟩ := ok_all he
    rw [tail4_ok l a b c n L V _ _ hl hL hV (fun _ => rfl) (fun _ => rfl), Nat.ble_eq_true_of_le hl, hok]
    simp [g1, he]
  · rw [tail4_ok l a b c n L V [] 0 hl hL hV (fun h => absurd h he) (fun h => absurd h he)]
    have : (e30 l a c == 0) = false := by simp [he]
    rw [this]; rfl

theorem m2_ok (l : List (Tup wallK)) (a b c : Tup v3K) (n : Int) (L : Tup iv2) (hl : l.length ≤ 100000) (hL : sqE n = 0 → L = lenI n) : m2 l a b c n L = some (Bo true) := by
  unfold m2
  by_cases he : sp3 a b c = 0
  · have hz : firstZ [pChk a, pChk b, pChk c] = 0 := he
    rw [firstZ_nil] at hz
    rw [m3_ok l a b c n L _ hl hL (fun _ => rfl), sq_ok (hz (pChk a) (by simp)) (hz (pChk b) (by simp)), sq_ok (hz (pChk b) (by simp)) (hz (pChk c) (by simp)), sq_ok (hz (pChk a) (by simp)) (hz (pChk c) (by simp))]
    simp [g1, he]
  · have : (sp3 a b c == 0) = false := by simp [he]
    rw [this, cond_false]
    exact m3_ok l a b c n L _ hl hL (fun h => absurd h he)

theorem short_len {l : List (Tup wallK)} (h : shortW l = true) : l.length ≤ 33 := by
  unfold shortW at h
  cases hm : manyW l.length with
  | true => rw [hm] at h; cases h
  | false =>
    simp only [manyW, Bool.and_eq_false_iff, decide_eq_false_iff_not, bne_eq_false_iff_eq] at hm
    omega

theorem law4_ok (l : List (Tup wallK)) (a b c : Tup v3K) (n : Int) : law4D l a b c n = some (Bo true) := by
  unfold law4D
  cases hs : shortW l with
  | false => rfl
  | true =>
    have hl : l.length ≤ 100000 := by have := short_len hs; omega
    rw [Nat.ble_eq_true_of_le hl]
    by_cases he : sqE n = 0
    · have hb := withinZ_nil.1 (show withinZ n 0 20000000 = 0 from he)
      rw [m2_ok l a b c n _ hl (fun _ => rfl), sqB_iff.2 ⟨hb.1, by omega⟩]
      simp [g1, he]
    · have : (sqE n == 0) = false := by simp [he]
      rw [this, cond_false]
      exact m2_ok l a b c n _ hl (fun h => absurd h he)

theorem law4_fn (h0 : Lib0 w0) (ha : Good w0 ⟨13, awakeF⟩) (l : List (Tup wallK)) (a b c : Tup v3K) (n : Int) : FnD (cfg w0) 4 [.vec wallK l, spots a b c, I n] (Bo true) :=
  fnD_k (cfg_ok w0) h0 (law4_gd h0 ha) (fd := fnOf Tryz.f4) rfl ((law4_run l a b c n).trans (law4_ok l a b c n))
end
end Go.Proofs.YtmlglimahbjgbaaGreatDoor
