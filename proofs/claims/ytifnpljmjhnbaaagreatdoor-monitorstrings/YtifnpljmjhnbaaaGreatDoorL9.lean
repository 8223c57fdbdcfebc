/-
  A part of the proof of the statement that the claim names: see the last file.
-/
import Derived.Test.YtifnpljmjhnbaaaGreatDoorL6
import Derived.Test.YtifnpljmjhnbaaaGreatDoorL8
import Derived.Test.YtifnpljmjhnbaaaGreatDoorM6
namespace Go.Proofs.YtifnpljmjhnbaaaGreatDoor
open Go Go.Am Go.RowKit
set_option maxRecDepth 100000
variable {w0 : World}
noncomputable section


def cs13 : List Ct := [c23, c24, c26, c29, c51, c79, c80, c81, c82]
def gD' (b : Bool) (k : Option D) : Option D := bif b then k else none
def fD' (b : Bool) (k : Option D) : Option D := bif b then k else some (Bo false)
def le13 (s : ByteArray) : Option D := gD' (Nat.ble (parP s).1.length 100000) (fD' (sameI (parP s).1 (parP s).1) (fD' ((parP s).2.1 == (parP s).2.1) (fD' ((parP s).2.2 == (parP s).2.2) (some (Bo true)))))
def in13 (l : TLq) (s : ByteArray) : Option D := gD' (sm l) (gD' (sm l) (gD' (sm l) (bif chkR l == 0 then gD' (okR l) (fD' ((prP l).1.toList == (prO l).1.toList) (fD' ((prP l).2 == (prO l).2) (le13 s))) else
  fD' ((prP l).1.toList == mtL.toList) (fD' ((prP l).2 == chkR l) (le13 s)))))
def law13 (l : TLq) (s : ByteArray) : Option D := bif !shortB l then some (Bo true) else bif decide (((s.size : Nat) : Int) > 300) then bif ((s.size : Nat) : Int) != 4097 then some (Bo true) else in13 l s else in13 l s
theorem run13 (l : TLq) (s : ByteArray) : bodyK ((cfg w0).at cs13) 40 (fnOf Tryz.f13) [.vec intK l, St_ s] = law13 l s := by kernel_rfl
theorem parP_len (s : ByteArray) : (parP s).1.length ≤ 100000 := by
  unfold parP
  cases hc : (e80 s != 0) with
  | true => exact Nat.zero_le _
  | false =>
    have hs := e80_le hc
    simp only [cond_false]
    cases hg : goP (spl 10 (bl s)) ⟨[], 0, 0⟩ with
    | bad i => exact Nat.zero_le _
    | good q =>
      have h := goP_len _ _ _ hg
      have h2 : (bl s).count 10 ≤ (bl s).length := List.count_le_length
      rw [bl_len] at h2
      rw [spl_len] at h
      simp only [List.length_nil] at h
      unfold fz80
      simp only
      cases (e80b q != 0) with
      | true => exact Nat.zero_le _
      | false => show q.o.length ≤ 100000; omega
theorem le13_true (s : ByteArray) : le13 s = some (Bo true) := by
  unfold le13 gD' fD' sameI
  rw [(Nat.ble_eq ..).mpr (parP_len s), decide_eq_true rfl, beq_self_eq_true, beq_self_eq_true]
  rfl
theorem law13_true (l : TLq) (s : ByteArray) : law13 l s = some (Bo true) := by
  unfold law13
  cases hs : shortB l with
  | false => rfl
  | true =>
    have hl : sm l = true := by
      unfold shortB at hs
      refine (Nat.ble_eq ..).mpr ?_
      cases hd : decide ((l.length : Int) ≤ 40) with
      | true => have := of_decide_eq_true hd; omega
      | false =>
        rw [hd] at hs
        have : (l.length : Int) = 1025 := eq_of_beq hs
        omega
    have hin : in13 l s = some (Bo true) := by
      unfold in13 gD' fD'
      rw [hl, le13_true]
      simp only [cond_true]
      unfold okR prP
      cases hc : (chkR l == 0) with
      | true =>
        have hne : (chkR l != 0) = false := by unfold bne; rw [hc]; rfl
        rw [hne]
        simp only [cond_true, cond_false, beq_self_eq_true]
      | false =>
        have hne : (chkR l != 0) = true := by unfold bne; rw [hc]; rfl
        rw [hne]
        simp only [cond_true, cond_false, beq_self_eq_true]
    rw [hin]
    simp only [Bool.not_true, cond_false]
    cases decide (((s.size : Nat) : Int) > 300) <;> cases (((s.size : Nat) : Int) != 4097) <;> rfl
theorem law13_fn (h0 : Lib0 w0) (l : TLq) (s : ByteArray) : FnD (cfg w0) 13 [.vec intK l, St_ s] (Bo true) :=
  fnD_k (cfg_ok w0) h0 (cs := cs13) ⟨gd23 h0, gd24 h0, gd26 h0, gd29 h0, gd51 h0, gd79 h0, gd80 h0, gd81 h0, gd82 h0, trivial⟩ (fd := fnOf Tryz.f13) rfl ((run13 l s).trans (law13_true l s))
end
end Go.Proofs.YtifnpljmjhnbaaaGreatDoor
