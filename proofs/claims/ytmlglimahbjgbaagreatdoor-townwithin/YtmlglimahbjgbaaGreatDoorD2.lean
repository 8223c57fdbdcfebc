/-
 A part of the proof of the statement that the claim names: see the last file.
-/
import Derived.Test.YtmlglimahbjgbaaGreatDoorD1
namespace Go.Proofs.YtmlglimahbjgbaaGreatDoor
open Go Go.Am Go.Town
set_option maxRecDepth 100000
variable {w0 : World}
noncomputable section
abbrev iv2 : List Kd := [ik, ik]
def z2 : Tup iv2 := ((0 : Int), (0 : Int), ())
def eqI (a b : Int) : Bool := a == b
def cs30 : List Ct := [checkC 38, ⟨104, tG checkSpotF⟩, ⟨98, tG firstF⟩, c118]
theorem cs30_gd (h0 : Lib0 w0) : Gds (cfg w0) cs30 := ⟨gd38 h0, gd_of (checkSpot_good h0), gd_of (first_good h0), gd118 h0, trivial⟩
def e30 (l : List (Tup wallK)) (s r : Tup v3K) : Int := firstZ [chkAllW l, pChk s, pChk r]
theorem chkFrom_nil : ∀ (l : List (Tup wallK)) (seen : List ByteArray), chkFrom seen l = 0 → ∀ w ∈ l, wChk w = 0
 | [], _, _, w, hw => by cases hw
 | v :: vs, seen, h, w, hw => by
   unfold chkFrom at h
   cases hc : (chkE seen v != 0) with
   | true => rw [hc] at h; simp only [cond_true] at h; rw [h] at hc; cases hc
   | false =>
     rw [hc] at h
     simp only [cond_false] at h
     rcases List.mem_cons.1 hw with rfl | hw
     ·have : chkE seen w = 0 := by simpa using hc
      unfold chkE at this
      cases he : (wChk w != 0) with
      | true => rw [he] at this; simpa using this
      | false => simpa using he
     ·exact chkFrom_nil vs _ h w hw
theorem chkAll_nil {l : List (Tup wallK)} (h : chkAllW l = 0) : l.length ≤ 32 ∧ ∀ w ∈ l, wChk w = 0 := by
 unfold chkAllW at h
 cases hc : decide ((l.length : Int) > 32) with
 | true => rw [hc] at h; cases h
 | false =>
   rw [hc] at h
   refine ⟨?_, chkFrom_nil l [] h⟩
   rw [decide_eq_false_iff_not] at hc
   omega
theorem ok_all {l : List (Tup wallK)} {s r : Tup v3K} (h : e30 l s r = 0) : l.length ≤ 32 ∧ l.all (okW s r) = true := by
 unfold e30 at h
 rw [firstZ_nil] at h
 obtain ⟨h1, h2⟩ := chkAll_nil (l := l) (h _ (by simp))
 refine ⟨h1, ?_⟩
 rw [List.all_eq_true]
 intro w hw
 have hs := h (pChk s) (by simp)
 have hr := h (pChk r) (by simp)
 have hw' := h2 w hw
 unfold okW wErr errZ
 unfold wChk at hw'
 unfold pChk at hs hr
 rw [hw', hs, hr]; rfl
theorem fn30 (h0 : Lib0 w0) (l : List (Tup wallK)) (s r : Tup v3K) : FnD (cfg w0) 30 [.vec wallK l, vec3 s, vec3 r]
  (bif e30 l s r != 0 then .tup [.val (.slice none 0 0), I 0, I (e30 l s r)] else .tup [.vec intK (l.map (depE s r)), I (sumT (l.map (depE s r))), I 0]) :=
 fnD_k (cfg_ok w0) h0 (cs30_gd h0) (fd := fnOf Tryz.f30) rfl (n := 60) ((show bodyK ((cfg w0).at cs30) 60 (fnOf Tryz.f30) [.vec wallK l, vec3 s, vec3 r] =
  bif e30 l s r != 0 then some (.tup [.val (.slice none 0 0), I 0, I (e30 l s r)]) else
  bif Nat.ble l.length 100000 && l.all (okW s r) then some (.tup [.vec intK (l.map (depE s r)), I (sumT (l.map (depE s r))), I 0]) else none by kernel_rfl).trans (by
   cases hc : (e30 l s r != 0)
   ·obtain ⟨h1, h2⟩ := ok_all (l := l) (s := s) (r := r) (by simpa using hc)
    rw [Nat.ble_eq_true_of_le (show l.length ≤ 100000 by omega), h2]; rfl
   ·rfl))
end
end Go.Proofs.YtmlglimahbjgbaaGreatDoor
