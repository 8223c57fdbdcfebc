/-
 A part of the proof of the statement that the claim names: see the last file.
-/
import Derived.Test.YtmlglimahbjgbaaGreatDoorT5
namespace Go.Proofs.YtmlglimahbjgbaaGreatDoor
open Go Go.Am Go.Town
set_option maxRecDepth 100000
variable {w0 : World}
def eqV : Value → Value → Bool
 | .int k a, .int k' b => decide (k = k') && decide (a = b)
 | .string a, .string b => a.data.toList == b.data.toList
 | .bool a, .bool b => a == b
 | _, _ => false
theorem eqV_eq {a b : Value} (h : eqV a b = true) : a = b := by
 unfold eqV at h
 split at h
 ·simp only [Bool.and_eq_true, decide_eq_true_eq] at h; rw [h.1, h.2]
 ·rw [bytes_eq h]
 ·rw [beq_iff_eq] at h; rw [h]
 ·cases h
def eqL (E : D → D → Bool) : List D → List D → Bool
 | [], [] => true
 | a :: xs, b :: ys => E a b && eqL E xs ys
 | _, _ => false
def eqD : Nat → D → D → Bool
 | 0, _, _ => false
 | n + 1, a, b => match a, b with
   | .val x, .val y => eqV x y
   | .agg xs, .agg ys => eqL (eqD n) xs ys
   | .sl k z xs, .sl k' z' ys => Nat.beq k k' && Nat.beq z z' && eqL (eqD n) xs ys
   | _, _ => false
theorem eqL_eq {E : D → D → Bool} (hE : ∀ a b, E a b = true → a = b) : ∀ {xs ys : List D}, eqL E xs ys = true → xs = ys
 | [], [], _ => rfl
 | a :: xs, b :: ys, h => by
   simp only [eqL, Bool.and_eq_true] at h
   rw [hE a b h.1, eqL_eq hE h.2]
 | [], _ :: _, h => by cases h
 | _ :: _, [], h => by cases h
theorem eqD_eq : ∀ (n : Nat) (a b : D), eqD n a b = true → a = b
 | 0, _, _, h => by cases h
 | n + 1, a, b, h => by
   unfold eqD at h
   split at h
   ·rw [eqV_eq h]
   ·rw [eqL_eq (eqD_eq n) h]
   ·simp only [Bool.and_eq_true, Nat.beq_eq] at h
    rw [h.1.1, h.1.2, eqL_eq (eqD_eq n) h.2]
   ·cases h
def atF (ds : List D) (d : D) (xs : List D) : Option (Bool × D) :=
 match eqL (eqD 8) xs ds with
 | true => some (true, d)
 | false => none
theorem atF_inv {ds xs : List D} {d d' : D} (h : atF ds d xs = some (true, d')) : xs = ds ∧ d' = d := by
 unfold atF at h
 split at h
 ·rename_i e
  cases h
  exact ⟨eqL_eq (eqD_eq 8) e, rfl⟩
 ·cases h
def strB (l : List UInt8) : D := Str ⟨l.toArray⟩
def blockD : D := .agg [strB [98], .sl 4 2 [I 0, I 0, I 4, I 0, I 4, I 3, I 0, I 3], I 5, I 100]
noncomputable def awA : List Ctr := [⟨158, nameF⟩, ⟨144, nameF⟩, ⟨99, checkWallF⟩, ⟨100, checkPointF⟩, ⟨104, checkSpotF⟩, ⟨98, firstF⟩, ⟨115, intsF withinK⟩, ⟨119, whenF⟩, ⟨101, intsF cmpK⟩, ⟨105, excessF⟩, ⟨106, lowF⟩, ⟨165, upF⟩, ⟨117, detF⟩, ⟨116, intsF lenK⟩, ⟨167, sqrF⟩]
theorem awA_good (h0 : Lib0 w0) : Goods w0 awA :=
 ⟨name_good h0, rname_good h0, check_good (name_good h0) h0, checkPoint_good h0, checkSpot_good h0, first_good h0, within_good h0, when_good h0, cmp_good h0, excess_good h0, low_good h0, up_good h0, detour_good h0, len_good h0, apart_good h0, trivial⟩
theorem run_good (h0 : Lib0 w0) {cs : List Ctr} (hcs : Goods w0 cs) {g : Nat} {fd : AFn} (hfd : fnTr.get g = some fd) {ds : List D} {d : D} {n : Nat} (h : bodyD (cfgC w0 cs) (ev (cfgC w0 cs) n) fd ds = some d) : Good w0 ⟨g, atF ds d⟩ := fun xs d' hd => by
 obtain ⟨rfl, rfl⟩ := atF_inv hd
 exact bodyD_sound (C := cfgC w0 cs) (cfgC_ok w0 cs) (ev_sound (cfgC_ok w0 cs) (specs_ok h0 hcs) n) hfd h
theorem block_run : bodyD (cfgC w0 awA) (ev (cfgC w0 awA) 400) (fnOf Tryz.f137) [blockD] = some (I 0) := by kernel_rfl
theorem block_good (h0 : Lib0 w0) : Good w0 ⟨137, atF [blockD] (I 0)⟩ := run_good h0 (awA_good h0) (fd := fnOf Tryz.f137) rfl block_run
noncomputable def awB : List Ctr := [⟨14, sideF⟩, ⟨15, cutsF⟩, ⟨16, excF⟩, ⟨17, depF⟩, ⟨107, depthF⟩, ⟨137, atF [blockD] (I 0)⟩] ++ awA
theorem awB_good (h0 : Lib0 w0) : Goods w0 awB := ⟨side_good h0, cuts_good h0, exc_good h0, dep_good h0, depth_good h0, block_good h0, awA_good h0⟩
def depthsIn : List D := [.sl 1 7 [strB [119], I 0, I (-10), I 0, I 10, I 6, I 500], nums [-8, 0, 2], nums [4, 0, 5]]
def depthsOut : D := .tup [.sl 1 1 [I 2], I 2, I 0]
theorem depths_at : bodyD (cfgC w0 awB) (ev (cfgC w0 awB) 400) (fnOf Tryz.f30) depthsIn = some depthsOut := by kernel_rfl
theorem depths_atG (h0 : Lib0 w0) : Good w0 ⟨30, atF depthsIn depthsOut⟩ := run_good h0 (awB_good h0) (fd := fnOf Tryz.f30) rfl depths_at
def factorIn : List D := [.sl 2 2 [I 1, I 800, I 3, I 500], I 2]
def factorOut : D := .tup [I 800, I 0]
theorem factor_at : bodyD (cfgC w0 awB) (ev (cfgC w0 awB) 400) (fnOf Tryz.f41) factorIn = some factorOut := by kernel_rfl
theorem factor_atG (h0 : Lib0 w0) : Good w0 ⟨41, atF factorIn factorOut⟩ := run_good h0 (awB_good h0) (fd := fnOf Tryz.f41) rfl factor_at
def screenedIn : List D := [.sl 1 7 [strB [119], I 0, I (-10), I 0, I 10, I 6, I 500], .sl 2 2 [I 1, I 800, I 3, I 500], nums [-8, 0, 2, 4, 0, 5], I 1001]
def screenedOut : D := .tup [nums [800, 801], I 0]
theorem screened_at : bodyD (cfgC w0 awB) (ev (cfgC w0 awB) 400) (fnOf Tryz.f43) screenedIn = some screenedOut := by kernel_rfl
theorem screened_atG (h0 : Lib0 w0) : Good w0 ⟨43, atF screenedIn screenedOut⟩ := run_good h0 (awB_good h0) (fd := fnOf Tryz.f43) rfl screened_at
def imageIn : List D := [.agg [strB [119], I 0, I (-10), I 0, I 10, I 6, I 500], nums [-8, 0, 2]]
def imageOut : D := .tup [nums [8, 0, 2], I 0]
theorem image_at : bodyD (cfgC w0 awB) (ev (cfgC w0 awB) 400) (fnOf Tryz.f51) imageIn = some imageOut := by kernel_rfl
theorem image_atG (h0 : Lib0 w0) : Good w0 ⟨51, atF imageIn imageOut⟩ := run_good h0 (awB_good h0) (fd := fnOf Tryz.f51) rfl image_at
def image2In : List D := [.agg [strB [100], I 0, I 0, I 5, I 5, I 1, I 0], nums [3, 1, 2]]
def image2Out : D := .tup [nums [1, 3, 2], I 0]
theorem image2_at : bodyD (cfgC w0 awB) (ev (cfgC w0 awB) 400) (fnOf Tryz.f51) image2In = some image2Out := by kernel_rfl
theorem image2_atG (h0 : Lib0 w0) : Good w0 ⟨51, atF image2In image2Out⟩ := run_good h0 (awB_good h0) (fd := fnOf Tryz.f51) rfl image2_at
def reflectedIn : List D := [.sl 1 7 [strB [119], I 0, I (-10), I 0, I 10, I 6, I 500], I 0, nums [-8, 0, 2], nums [-4, 6, 2]]
def reflectedOut : D := .tup [nums [0, 8, 0, 2, 0, 1, 4, 1, 2, 1, 180], I 0]
theorem reflected_at : bodyD (cfgC w0 awB) (ev (cfgC w0 awB) 400) (fnOf Tryz.f52) reflectedIn = some reflectedOut := by kernel_rfl
theorem reflected_atG (h0 : Lib0 w0) : Good w0 ⟨52, atF reflectedIn reflectedOut⟩ := run_good h0 (awB_good h0) (fd := fnOf Tryz.f52) rfl reflected_at
def mirrorsIn : List D := [.sl 1 7 [strB [119], I 0, I (-10), I 0, I 10, I 6, I 500], nums [-8, 0, 2], nums [-4, 6, 2]]
def mirrorsOut : D := .tup [.sl 1 11 [I 0, I 8, I 0, I 2, I 0, I 1, I 4, I 1, I 2, I 1, I 180], I 0]
theorem mirrors_at : bodyD (cfgC w0 awB) (ev (cfgC w0 awB) 400) (fnOf Tryz.f53) mirrorsIn = some mirrorsOut := by kernel_rfl
theorem mirrors_atG (h0 : Lib0 w0) : Good w0 ⟨53, atF mirrorsIn mirrorsOut⟩ := run_good h0 (awB_good h0) (fd := fnOf Tryz.f53) rfl mirrors_at
def heardIn : List D := [.sl 1 7 [strB [119], I 0, I (-10), I 0, I 10, I 6, I 500], .sl 2 2 [I 1, I 800, I 3, I 500], nums [-8, 0, 2, -4, 6, 2], I 1000]
def heardOut : D := .tup [nums [1500, 1500], I 0]
theorem heard_at : bodyD (cfgC w0 awB) (ev (cfgC w0 awB) 400) (fnOf Tryz.f44) heardIn = some heardOut := by kernel_rfl
theorem heard_atG (h0 : Lib0 w0) : Good w0 ⟨44, atF heardIn heardOut⟩ := run_good h0 (awB_good h0) (fd := fnOf Tryz.f44) rfl heard_at
def wallsIn : List D := [.sl 1 4 [strB [98], .sl 4 2 [I 0, I 0, I 4, I 0, I 4, I 3, I 0, I 3], I 5, I 100]]
def wallsOut : D := .tup [.sl 4 7 [strB [98, 95, 48], I 0, I 0, I 4, I 0, I 5, I 100, strB [98, 95, 49], I 4, I 0, I 4, I 3, I 5, I 100, strB [98, 95, 50], I 4, I 3, I 0, I 3, I 5, I 100, strB [98, 95, 51], I 0, I 3, I 0, I 0, I 5, I 100], I 0]
theorem walls_at : bodyD (cfgC w0 awB) (ev (cfgC w0 awB) 400) (fnOf Tryz.f63) wallsIn = some wallsOut := by kernel_rfl
theorem walls_atG (h0 : Lib0 w0) : Good w0 ⟨63, atF wallsIn wallsOut⟩ := run_good h0 (awB_good h0) (fd := fnOf Tryz.f63) rfl walls_at
def facingIn : List D := [blockD, nums [6, 9]]
def facingOut : D := .tup [.sl 2 1 [I 1, I 2], I 0]
theorem facing_at : bodyD (cfgC w0 awB) (ev (cfgC w0 awB) 400) (fnOf Tryz.f65) facingIn = some facingOut := by kernel_rfl
theorem facing_atG (h0 : Lib0 w0) : Good w0 ⟨65, atF facingIn facingOut⟩ := run_good h0 (awB_good h0) (fd := fnOf Tryz.f65) rfl facing_at
def withinIn : List D := [.sl 4 7 [strB [98, 95, 48], I 0, I 0, I 4, I 0, I 5, I 100, strB [98, 95, 49], I 4, I 0, I 4, I 3, I 5, I 100, strB [98, 95, 50], I 4, I 3, I 0, I 3, I 5, I 100, strB [98, 95, 51], I 0, I 3, I 0, I 0, I 5, I 100], nums [1, 1, 5, 2]]
def withinOut : D := .tup [.sl 1 7 [strB [98, 95, 49], I 4, I 0, I 4, I 3, I 5, I 100], I 0]
theorem within_at : bodyD (cfgC w0 awB) (ev (cfgC w0 awB) 400) (fnOf Tryz.f68) withinIn = some withinOut := by kernel_rfl
theorem within_atG (h0 : Lib0 w0) : Good w0 ⟨68, atF withinIn withinOut⟩ := run_good h0 (awB_good h0) (fd := fnOf Tryz.f68) rfl within_at
def printIn : List D := [.sl 1 7 [strB [119], I 0, I (-10), I 0, I 10, I 6, I 500]]
def printOut : D := .tup [strB [119, 97, 108, 108, 32, 119, 32, 48, 32, 45, 49, 48, 32, 48, 32, 49, 48, 32, 54, 32, 53, 48, 48, 10], I 0]
theorem print_at : bodyD (cfgC w0 awB) (ev (cfgC w0 awB) 400) (fnOf Tryz.f86) printIn = some printOut := by kernel_rfl
theorem print_atG (h0 : Lib0 w0) : Good w0 ⟨86, atF printIn printOut⟩ := run_good h0 (awB_good h0) (fd := fnOf Tryz.f86) rfl print_at
def hasIn : List D := [blockD, nums [4, 3]]
def hasOut : D := .tup [Bo true, I 0]
theorem has_at : bodyD (cfgC w0 awB) (ev (cfgC w0 awB) 400) (fnOf Tryz.f67) hasIn = some hasOut := by kernel_rfl
theorem has_atG (h0 : Lib0 w0) : Good w0 ⟨67, atF hasIn hasOut⟩ := run_good h0 (awB_good h0) (fd := fnOf Tryz.f67) rfl has_at
def orF (F F' : List D → Option (Bool × D)) (xs : List D) : Option (Bool × D) :=
 match F xs with
 | some r => some r
 | none => F' xs
theorem or_good {g : Nat} {F F' : List D → Option (Bool × D)} (h : Good w0 ⟨g, F⟩) (h' : Good w0 ⟨g, F'⟩) : Good w0 ⟨g, orF F F'⟩ := fun xs d hd => by
 simp only [orF] at hd
 cases hF : F xs with
 | none => rw [hF] at hd; exact h' xs d hd
 | some r => rw [hF] at hd; exact h xs d (hF.trans hd)
noncomputable def awC : List Ctr := [⟨30, atF depthsIn depthsOut⟩, ⟨41, atF factorIn factorOut⟩, ⟨43, atF screenedIn screenedOut⟩, ⟨51, orF (atF imageIn imageOut) (atF image2In image2Out)⟩, ⟨52, atF reflectedIn reflectedOut⟩, ⟨53, atF mirrorsIn mirrorsOut⟩, ⟨44, atF heardIn heardOut⟩, ⟨63, atF wallsIn wallsOut⟩, ⟨65, atF facingIn facingOut⟩, ⟨68, atF withinIn withinOut⟩, ⟨86, atF printIn printOut⟩, ⟨67, atF hasIn hasOut⟩] ++ awB
theorem awC_good (h0 : Lib0 w0) : Goods w0 awC := ⟨depths_atG h0, factor_atG h0, screened_atG h0, or_good (image_atG h0) (image2_atG h0), reflected_atG h0, mirrors_atG h0, heard_atG h0, walls_atG h0, facing_atG h0, within_atG h0, print_atG h0, has_atG h0, awB_good h0⟩
theorem awake_run : bodyD (cfgC w0 awC) (ev (cfgC w0 awC) 400) (fnOf Tryz.f13) [] = some (Bo true) := by kernel_rfl
end Go.Proofs.YtmlglimahbjgbaaGreatDoor
