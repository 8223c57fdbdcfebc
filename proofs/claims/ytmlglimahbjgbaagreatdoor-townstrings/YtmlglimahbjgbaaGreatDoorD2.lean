/-
  A part of the proof of the statement that the claim names: see the last file.
-/
import Derived.Test.YtmlglimahbjgbaaGreatDoorD1
namespace Go.Proofs.YtmlglimahbjgbaaGreatDoor
open Go Go.Am Go.Town
set_option maxRecDepth 100000
variable {w0 : World}
noncomputable section


def numB (have' e bad want : Int) : Bool := bif have' == (bif bad != 0 then 0 else want) then e == bad else false

theorem fn26 (h0 : Lib0 w0) (a e b w : Int) : FnD (cfg w0) 26 [I a, I e, I b, I w] (Bo (numB a e b w)) :=
  fnD_k (cfg_ok w0) h0 (cs := []) trivial (fd := fnOf Tryz.f26) rfl (n := 40) ((show bodyK ((cfg w0).at []) 40 (fnOf Tryz.f26) [I a, I e, I b, I w] =
    bif b != 0 then (bif a == 0 then some (Bo (e == b)) else some (Bo false)) else (bif a == w then some (Bo (e == b)) else some (Bo false)) by kernel_rfl).trans (by
      unfold numB
      cases (b != 0)
      · simp only [cond_false]; cases (a == w) <;> rfl
      · simp only [cond_true]; cases (a == 0) <;> rfl))

abbrev iv2 : List Kd := [ik, ik]
def z2 : Tup iv2 := ((0 : Int), (0 : Int), ())
def pair (x : Tup iv2) : D := .agg [I x.1, I x.2.1]
def eqI (a b : Int) : Bool := a == b
def eq2 (x y : Tup iv2) : Bool := eqI x.1 y.1 && (eqI x.2.1 y.2.1 && true)
def ivB (x : Tup iv2) (e b : Int) (y : Tup iv2) : Bool := bif eq2 x (bif b != 0 then z2 else y) then e == b else false

theorem fn39 (h0 : Lib0 w0) (x : Tup iv2) (e b : Int) (y : Tup iv2) : FnD (cfg w0) 39 [pair x, I e, I b, pair y] (Bo (ivB x e b y)) :=
  fnD_k (cfg_ok w0) h0 (cs := []) trivial (fd := fnOf Tryz.f39) rfl (n := 40) ((show bodyK ((cfg w0).at []) 40 (fnOf Tryz.f39) [pair x, I e, I b, pair y] =
    bif b != 0 then (bif eq2 x z2 then some (Bo (e == b)) else some (Bo false)) else (bif eq2 x y then some (Bo (e == b)) else some (Bo false)) by kernel_rfl).trans (by
      unfold ivB
      cases (b != 0)
      · simp only [cond_false]; cases (eq2 x y) <;> rfl
      · simp only [cond_true]; cases (eq2 x z2) <;> rfl))

def cs40 : List Ct := [c95]
def liB (x : List (Tup intK)) (e b : Int) (y : List (Tup intK)) : Bool := bif sameI x (bif b != 0 then [] else y) then e == b else false
theorem fn40 (h0 : Lib0 w0) (x : List (Tup intK)) (e b : Int) (y : List (Tup intK)) (hl : x.length ≤ 100000) : FnD (cfg w0) 40 [.vec intK x, I e, I b, .vec intK y] (Bo (liB x e b y)) :=
  fnD_k (cfg_ok w0) h0 (cs := cs40) ⟨gd95 h0, trivial⟩ (fd := fnOf Tryz.f40) rfl (n := 40) ((show bodyK ((cfg w0).at cs40) 40 (fnOf Tryz.f40) [.vec intK x, I e, I b, .vec intK y] =
    bif b != 0 then (bif Nat.ble x.length 100000 then bif sameI x [] then some (Bo (e == b)) else some (Bo false) else none) else (bif Nat.ble x.length 100000 then bif sameI x y then some (Bo (e == b)) else some (Bo false) else none) by kernel_rfl).trans (by
      unfold liB
      rw [Nat.ble_eq_true_of_le hl]
      cases (b != 0)
      · simp only [cond_false, cond_true]; cases (sameI x y) <;> rfl
      · simp only [cond_true]; cases (sameI x []) <;> rfl))

def pr2 (a b : Int) : Tup iv2 := (a, b, ())

def lvL' : List Ct := [⟨115, tG (intsF withinK)⟩, ⟨116, tG (intsF lenK)⟩, ⟨104, tG checkSpotF⟩, ⟨98, tG firstF⟩, ⟨117, tG detF⟩]
theorem lvL'_gd (h0 : Lib0 w0) : Gds (cfg w0) lvL' := ⟨gd_of (within_good h0), gd_of (len_good h0), gd_of (checkSpot_good h0), gd_of (first_good h0), gd_of (detour_good h0), trivial⟩

def sqE (n : Int) : Int := withinZ n 0 20000000
def lenI (n : Int) : Tup iv2 := pr2 (lowZ n) (highZ n)
theorem fn28 (h0 : Lib0 w0) (n : Int) : FnD (cfg w0) 28 [I n] (bif sqE n != 0 then .tup [pair z2, I (sqE n)] else .tup [pair (lenI n), I 0]) :=
  fnD_k (cfg_ok w0) h0 (lvL'_gd h0) (fd := fnOf Tryz.f28) rfl (n := 60) ((show bodyK ((cfg w0).at lvL') 60 (fnOf Tryz.f28) [I n] =
    bif sqE n != 0 then some (.tup [pair z2, I (sqE n)]) else bif sqB n then some (.tup [pair (lenI n), I 0]) else none by kernel_rfl).trans (by
      cases hc : (sqE n != 0)
      · have := withinZ_nil.1 (show withinZ n 0 20000000 = 0 by simpa [sqE] using hc)
        rw [sqB_iff.2 ⟨this.1, by omega⟩]; rfl
      · rfl))
def c28 : Ct := ct 28 [.c ik] fun a => .br (sqE a.1 != 0) (.leaf (.tup [pair z2, I (sqE a.1)])) (.leaf (.tup [pair (lenI a.1), I 0]))
theorem gd28 (h0 : Lib0 w0) : Gd (cfg w0) c28 := gd_sig fun a d hd => by
  have := fn28 h0 a.1
  simp only [FT.run] at hd
  cases hc : (sqE a.1 != 0) <;> rw [hc] at hd this <;> cases hd <;> exact this

def sp3 (a b c : Tup v3K) : Int := spots3 a.1 a.2.1 a.2.2.1 b.1 b.2.1 b.2.2.1 c.1 c.2.1 c.2.2.1
def sq3 (a b : Tup v3K) : Int := sqZ a.1 a.2.1 a.2.2.1 b.1 b.2.1 b.2.2.1
def det3 (a b c : Tup v3K) : Tup iv2 := pr2 (detL (sq3 a b) (sq3 b c) (sq3 a c)) (detH (sq3 a b) (sq3 b c) (sq3 a c))

theorem sq_ok {a b : Tup v3K} (ha : pChk a = 0) (hb : pChk b = 0) : sqB (sq3 a b) = true := by
  obtain ⟨a1, a2, a3⟩ := chkSpot_nil ha
  obtain ⟨b1, b2, b3⟩ := chkSpot_nil hb
  exact sq_small a1 a2 a3 b1 b2 b3

theorem fn29 (h0 : Lib0 w0) (a b c : Tup v3K) : FnD (cfg w0) 29 [vec3 a, vec3 b, vec3 c] (bif sp3 a b c != 0 then .tup [pair z2, I (sp3 a b c)] else .tup [pair (det3 a b c), I 0]) :=
  fnD_k (cfg_ok w0) h0 (lvL'_gd h0) (fd := fnOf Tryz.f29) rfl (n := 60) ((show bodyK ((cfg w0).at lvL') 60 (fnOf Tryz.f29) [vec3 a, vec3 b, vec3 c] =
    bif sp3 a b c != 0 then some (.tup [pair z2, I (sp3 a b c)]) else bif sqB (sq3 a b) && (sqB (sq3 b c) && sqB (sq3 a c)) then some (.tup [pair (det3 a b c), I 0]) else none by kernel_rfl).trans (by
      cases hc : (sp3 a b c != 0)
      · have hz : firstZ [pChk a, pChk b, pChk c] = 0 := (by simpa using hc : sp3 a b c = 0)
        rw [firstZ_nil] at hz
        rw [sq_ok (hz (pChk a) (by simp)) (hz (pChk b) (by simp)), sq_ok (hz (pChk b) (by simp)) (hz (pChk c) (by simp)), sq_ok (hz (pChk a) (by simp)) (hz (pChk c) (by simp))]; rfl
      · rfl))
def c29 : Ct := ct 29 [.b v3K, .b v3K, .b v3K] fun a => .br (sp3 a.1 a.2.1 a.2.2.1 != 0) (.leaf (.tup [pair z2, I (sp3 a.1 a.2.1 a.2.2.1)])) (.leaf (.tup [pair (det3 a.1 a.2.1 a.2.2.1), I 0]))
theorem gd29 (h0 : Lib0 w0) : Gd (cfg w0) c29 := gd_sig fun a d hd => by
  have := fn29 h0 a.1 a.2.1 a.2.2.1
  simp only [FT.run] at hd
  cases hc : (sp3 a.1 a.2.1 a.2.2.1 != 0) <;> rw [hc] at hd this <;> cases hd <;> exact this


def cs30 : List Ct := [checkC 38, ⟨104, tG checkSpotF⟩, ⟨98, tG firstF⟩, c118]
theorem cs30_gd (h0 : Lib0 w0) : Gds (cfg w0) cs30 := ⟨gd38 h0, gd_of (checkSpot_good h0), gd_of (first_good h0), gd118 h0, trivial⟩
def e30 (l : List (Tup wallK)) (s r : Tup v3K) : Int := firstZ [chkAllW l, pChk s, pChk r]

theorem chkFrom_nil : ∀ (l : List (Tup wallK)) (seen : List ByteArray), chkFrom seen l = 0 → ∀ w ∈ l, wChk w = 0
  | [], _, _, w, hw => by cases hw
  | v :: vs, seen, h, w, hw => by
    unfold chkFrom at h
    cases hc : (chkE seen v != 0) with
    | true => rw [hc] at h; simp only [cond_true] at h; rw [h] at hc; cases hc
    | false =>
      rw [hc] at h
      simp only [cond_false] at h
      rcases List.mem_cons.1 hw with rfl | hw
      · have : chkE seen w = 0 := by simpa using hc
        unfold chkE at this
        cases he : (wChk w != 0) with
        | true => rw [he] at this; simpa using this
        | false => simpa using he
      · exact chkFrom_nil vs _ h w hw

theorem chkAll_nil {l : List (Tup wallK)} (h : chkAllW l = 0) : l.length ≤ 32 ∧ ∀ w ∈ l, wChk w = 0 := by
  unfold chkAllW at h
  cases hc : decide ((l.length : Int) > 32) with
  | true => rw [hc] at h; cases h
  | false =>
    rw [hc] at h
    refine ⟨?_, chkFrom_nil l [] h⟩
    rw [decide_eq_false_iff_not] at hc
    omega

theorem ok_all {l : List (Tup wallK)} {s r : Tup v3K} (h : e30 l s r = 0) : l.length ≤ 32 ∧ l.all (okW s r) = true := by
  unfold e30 at h
  rw [firstZ_nil] at h
  obtain ⟨h1, h2⟩ := chkAll_nil (l := l) (h _ (by simp))
  refine ⟨h1, ?_⟩
  rw [List.all_eq_true]
  intro w hw
  have hs := h (pChk s) (by simp)
  have hr := h (pChk r) (by simp)
  have hw' := h2 w hw
  unfold okW wErr errZ
  unfold wChk at hw'
  unfold pChk at hs hr
  rw [hw', hs, hr]; rfl

theorem fn30 (h0 : Lib0 w0) (l : List (Tup wallK)) (s r : Tup v3K) : FnD (cfg w0) 30 [.vec wallK l, vec3 s, vec3 r]
    (bif e30 l s r != 0 then .tup [.val (.slice none 0 0), I 0, I (e30 l s r)] else .tup [.vec intK (l.map (depE s r)), I (sumT (l.map (depE s r))), I 0]) :=
  fnD_k (cfg_ok w0) h0 (cs30_gd h0) (fd := fnOf Tryz.f30) rfl (n := 60) ((show bodyK ((cfg w0).at cs30) 60 (fnOf Tryz.f30) [.vec wallK l, vec3 s, vec3 r] =
    bif e30 l s r != 0 then some (.tup [.val (.slice none 0 0), I 0, I (e30 l s r)]) else
    bif Nat.ble l.length 100000 && l.all (okW s r) then some (.tup [.vec intK (l.map (depE s r)), I (sumT (l.map (depE s r))), I 0]) else none by kernel_rfl).trans (by
      cases hc : (e30 l s r != 0)
      · obtain ⟨h1, h2⟩ := ok_all (l := l) (s := s) (r := r) (by simpa using hc)
        rw [Nat.ble_eq_true_of_le (show l.length ≤ 100000 by omega), h2]; rfl
      · rfl))
def c30 : Ct := ct 30 [.v wallK, .b v3K, .b v3K] fun a => .br (e30 a.1 a.2.1 a.2.2.1 != 0) (.leaf (.tup [.val (.slice none 0 0), I 0, I (e30 a.1 a.2.1 a.2.2.1)])) (.leaf (.tup [.vec intK ((a.1 : List (Tup wallK)).map (depE a.2.1 a.2.2.1)), I (sumT ((a.1 : List (Tup wallK)).map (depE a.2.1 a.2.2.1))), I 0]))
theorem gd30 (h0 : Lib0 w0) : Gd (cfg w0) c30 := gd_sig fun a d hd => by
  have := fn30 h0 a.1 a.2.1 a.2.2.1
  simp only [FT.run] at hd
  cases hc : (e30 a.1 a.2.1 a.2.2.1 != 0) <;> rw [hc] at hd this <;> cases hd <;> exact this
end
end Go.Proofs.YtmlglimahbjgbaaGreatDoor
