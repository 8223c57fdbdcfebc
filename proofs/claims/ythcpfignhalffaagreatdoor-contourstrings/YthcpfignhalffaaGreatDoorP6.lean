/-
 A part of the proof of the statement that the claim names: see the last file.
-/
import Derived.Test.YthcpfignhalffaaGreatDoorC7
import Derived.Test.YthcpfignhalffaaGreatDoorC8
import Derived.Test.YthcpfignhalffaaGreatDoorP5
namespace Go.Proofs.YthcpfignhalffaaGreatDoor
open Go Go.Am
set_option maxRecDepth 100000
variable {w0 : World}
noncomputable section
def asGN (d : D) : Option (Int × Int) :=
 match d with
 | .agg [.val (.int .i64 w), .val (.int .i64 h), .val (.slice none 0 0)] => some (w, h)
 | _ => none
def nG (p : Int × Int) : D := .agg [I p.1, I p.2, nilD]
theorem asGN_eq {d : D} {p : Int × Int} (h : asGN d = some p) : d = nG p := by
 unfold asGN at h
 split at h
 ·cases h; rfl
 ·cases h
def orN (d : D) : Option Gr :=
 match asG d with
 | some g => some g
 | none => match asGN d with
   | some p => some ⟨p.1, p.2, []⟩
   | none => none
def sameG (a b : Gr) : Bool := sizeB a b && sameI a.l b.l
theorem run59 (a b : Gr) : bodyK ((cfg w0).at [c97]) 40 (fnOf Tryz.f59) [gD a, gD b] =
  bif a.w == b.w then bif a.h == b.h then bif Nat.ble a.l.length 100000 then some (Bo (sameI a.l b.l)) else none else some (Bo false) else some (Bo false) := by cases a; cases b; kernel_rfl
theorem run59n (a : Gr) (p : Int × Int) : bodyK ((cfg w0).at [c97]) 40 (fnOf Tryz.f59) [gD a, nG p] =
  bif a.w == p.1 then bif a.h == p.2 then bif Nat.ble a.l.length 100000 then some (Bo (sameI a.l [])) else none else some (Bo false) else some (Bo false) := by cases a; cases p; kernel_rfl
theorem same_t {a b : Gr} (h : Nat.ble a.l.length 100000 = true) : (bif a.w == b.w then bif a.h == b.h then bif Nat.ble a.l.length 100000 then some (Bo (sameI a.l b.l)) else none else some (Bo false) else some (Bo false)) = some (Bo (sameG a b)) := by
 unfold sameG sizeB
 rw [h]
 cases (a.w == b.w) <;> cases (a.h == b.h) <;> rfl
def c59 : Ct := gC 59 [.x] fun a y => match orN y.1 with
 | some b => .br (smG a) (.leaf (Bo (sameG a b))) .bad
 | none => .bad
theorem gd59 (h0 : Lib0 w0) : Gd (cfg w0) c59 := gd_g fun a y d hd => by
 obtain ⟨x, u⟩ := y
 simp only at hd
 unfold orN at hd
 cases hx : asG x with
 | some b =>
   rw [hx] at hd
   obtain ⟨hg, hd⟩ := br_run hd
   cases hd
   cases asG_eq hx
   exact fnD_k (cfg_ok w0) h0 (cs := [c97]) ⟨gd97 h0, trivial⟩ (fd := fnOf Tryz.f59) rfl (n := 40) ((run59 a b).trans (same_t hg))
 | none =>
   rw [hx] at hd
   cases hn : asGN x with
   | none => rw [hn] at hd; cases hd
   | some p =>
     rw [hn] at hd
     obtain ⟨hg, hd⟩ := br_run hd
     cases hd
     cases asGN_eq hn
     exact fnD_k (cfg_ok w0) h0 (cs := [c97]) ⟨gd97 h0, trivial⟩ (fd := fnOf Tryz.f59) rfl (n := 40) ((run59n a p).trans (same_t (b := ⟨p.1, p.2, []⟩) hg))
end
end Go.Proofs.YthcpfignhalffaaGreatDoor
namespace Go.Proofs.YthcpfignhalffaaGreatDoor
open Go Go.Am
set_option maxRecDepth 100000
variable {w0 : World}
noncomputable section
def few (g : Gr) : Bool := decide ((g.l.length : Int) ≤ 36)
end
end Go.Proofs.YthcpfignhalffaaGreatDoor
namespace Go.Proofs.YthcpfignhalffaaGreatDoor
open Go Go.Am Go.RowKit
set_option maxRecDepth 100000
variable {w0 : World}
noncomputable section
def cs10 : List Ct := [c14, ownC 16, c86, c87, chkC 20, c88, c89, c59]
def gD' (b : Bool) (k : Option D) : Option D := bif b then k else none
def fD' (b : Bool) (k : Option D) : Option D := bif b then k else some (Bo false)
def le10 (s : ByteArray) : Option D := gD' (smG (parP s).1) (fD' (sameG (parP s).1 (parP s).1) (fD' ((parP s).2.1 == (parP s).2.1) (fD' ((parP s).2.2 == (parP s).2.2) (some (Bo true)))))
def in10 (g : Gr) (s : ByteArray) : Option D := gD' (smG g) (gD' (smG g) (gD' (smG g) (bif chkG g == 0 then gD' (chkG g == 0) (fD' ((prX g).1.toList == (prtG g).toList) (fD' ((prX g).2 == chkG g) (le10 s))) else
 fD' ((prX g).1.toList == mtL.toList) (fD' ((prX g).2 == chkG g) (le10 s)))))
def law10 (g : Gr) (s : ByteArray) : Option D := bif !few g then some (Bo true) else bif decide (((s.size : Nat) : Int) > 400) then bif ((s.size : Nat) : Int) != 4097 then some (Bo true) else in10 g s else in10 g s
theorem run10 (g : Gr) (s : ByteArray) : bodyK ((cfg w0).at cs10) 60 (fnOf Tryz.f10) [gD g, St_ s] = law10 g s := by cases g; kernel_rfl
theorem parP_sm (s : ByteArray) : smG (parP s).1 = true := by
 refine (Nat.ble_eq ..).mpr ?_
 unfold parP
 cases hc : (gtT s != 0) with
 | true => exact Nat.zero_le _
 | false =>
   obtain ⟨hs, hne⟩ := gtT_le hc
   simp only [cond_false]
   cases hg : goP (spl 10 (bl s)) [] with
   | bad q => exact Nat.zero_le _
   | good q =>
     have h4 := goP_fl _ _ _ hg
     have h5 := spl_sum 10 (bl s)
     rw [bl_len] at h5
     have h6 := flQ_drop_le q 1
     simp only [flQ_nil, List.length_nil] at h4
     show (fz87 q).1.l.length ≤ 100000
     unfold fz87
     cases (e87 ((((q.length : Nat) : Int) - 1 != gH q) || apQ q) q != 0) with
     | true => exact Nat.zero_le _
     | false =>
       show (flQ (tlQ q)).length ≤ 100000
       rw [tlQ_eq]
       omega
theorem sameG_refl (g : Gr) : sameG g g = true := by
 unfold sameG sizeB sameI
 rw [decide_eq_true rfl, beq_self_eq_true, beq_self_eq_true]; rfl
theorem le10_true (s : ByteArray) : le10 s = some (Bo true) := by
 unfold le10 gD' fD'
 rw [parP_sm, sameG_refl, beq_self_eq_true, beq_self_eq_true]
 rfl
theorem law10_true (g : Gr) (s : ByteArray) : law10 g s = some (Bo true) := by
 unfold law10
 cases hf : few g with
 | false => rfl
 | true =>
   have hg : smG g = true := by
    unfold few at hf
    have := of_decide_eq_true hf
    exact (Nat.ble_eq ..).mpr (by omega)
   have hin : in10 g s = some (Bo true) := by
    unfold in10 gD' fD'
    rw [hg, le10_true]
    simp only [cond_true]
    unfold prX
    cases hc : (chkG g == 0) with
    | true =>
      have hne : (chkG g != 0) = false := by unfold bne; rw [hc]; rfl
      have hz : chkG g = 0 := by simpa using hc
      rw [hne]
      simp only [cond_true, cond_false, beq_self_eq_true]
      rw [hz]; rfl
    | false =>
      have hne : (chkG g != 0) = true := by unfold bne; rw [hc]; rfl
      rw [hne]
      simp only [cond_true, cond_false, beq_self_eq_true]
   rw [hin]
   simp only [Bool.not_true, cond_false]
   cases decide (((s.size : Nat) : Int) > 400) <;> cases (((s.size : Nat) : Int) != 4097) <;> rfl
theorem law10_fn (h0 : Lib0 w0) (g : Gr) (s : ByteArray) : FnD (cfg w0) 10 [gD g, St_ s] (Bo true) :=
 fnD_k (cfg_ok w0) h0 (cs := cs10) ⟨gd14 h0, gd16 h0, gd86 h0, gd87 h0, gd20 h0, gd88 h0, gd89 h0, gd59 h0, trivial⟩ (fd := fnOf Tryz.f10) rfl ((run10 g s).trans (law10_true g s))
end
end Go.Proofs.YthcpfignhalffaaGreatDoor
