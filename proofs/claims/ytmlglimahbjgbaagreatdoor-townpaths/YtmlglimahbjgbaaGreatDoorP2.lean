/-
  A part of the proof of the statement that the claim names: see the last file.
-/
import Derived.Test.YtmlglimahbjgbaaGreatDoorT5
namespace Go.Proofs.YtmlglimahbjgbaaGreatDoor
open Go Go.Am Go.Town
set_option maxRecDepth 100000
variable {w0 : World}

/-! # TownPaths -/

def lawT (g : Bool) (one two E K S XN XD E3 Dp : Int) (C : Bool) : Option D := bif g then some (Bo (true)) else bif (one == 0) then bif (two == 0) then bif (E == 0) then bif (E == 0) then bif (E == 0) then bif (one != 0) then bif ((bif (one != 0) then 0 else K) == 0) then bif (one == one) then bif ((bif E != 0 then false else C) == C) then bif (E == two) then bif ((XN == XN) && ((XD == XD) && true)) then bif (E3 == E3) then bif (two != 0) then bif ((bif (E != 0) then 0 else Dp) == 0) then bif (E == two) then some (Bo (true)) else some (Bo (false)) else some (Bo (false)) else bif ((bif (E != 0) then 0 else Dp) == Dp) then bif (E == two) then some (Bo (true)) else some (Bo (false)) else some (Bo (false)) else some (Bo (false)) else some (Bo (false)) else some (Bo (false)) else some (Bo (false)) else some (Bo (false)) else some (Bo (false)) else bif ((bif (one != 0) then 0 else K) == S) then bif (one == one) then bif ((bif E != 0 then false else C) == C) then bif (E == two) then bif ((XN == XN) && ((XD == XD) && true)) then bif (E3 == E3) then bif (two != 0) then bif ((bif (E != 0) then 0 else Dp) == 0) then bif (E == two) then some (Bo (true)) else some (Bo (false)) else some (Bo (false)) else bif ((bif (E != 0) then 0 else Dp) == Dp) then bif (E == two) then some (Bo (true)) else some (Bo (false)) else some (Bo (false)) else some (Bo (false)) else some (Bo (false)) else some (Bo (false)) else some (Bo (false)) else some (Bo (false)) else some (Bo (false)) else none else none else none else bif (one != 0) then bif ((bif (one != 0) then 0 else K) == 0) then bif (one == one) then bif ((bif E != 0 then false else C) == false) then bif (E == two) then bif ((XN == 0) && ((XD == 0) && true)) then bif (E3 == two) then bif (two != 0) then bif ((bif (E != 0) then 0 else Dp) == 0) then bif (E == two) then some (Bo (true)) else some (Bo (false)) else some (Bo (false)) else bif ((bif (E != 0) then 0 else Dp) == 0) then bif (E == two) then some (Bo (true)) else some (Bo (false)) else some (Bo (false)) else some (Bo (false)) else some (Bo (false)) else some (Bo (false)) else some (Bo (false)) else some (Bo (false)) else some (Bo (false)) else bif ((bif (one != 0) then 0 else K) == S) then bif (one == one) then bif ((bif E != 0 then false else C) == false) then bif (E == two) then bif ((XN == 0) && ((XD == 0) && true)) then bif (E3 == two) then bif (two != 0) then bif ((bif (E != 0) then 0 else Dp) == 0) then bif (E == two) then some (Bo (true)) else some (Bo (false)) else some (Bo (false)) else bif ((bif (E != 0) then 0 else Dp) == 0) then bif (E == two) then some (Bo (true)) else some (Bo (false)) else some (Bo (false)) else some (Bo (false)) else some (Bo (false)) else some (Bo (false)) else some (Bo (false)) else some (Bo (false)) else some (Bo (false)) else bif (two == 0) then bif (E == 0) then bif (E == 0) then bif (E == 0) then bif (one != 0) then bif ((bif (one != 0) then 0 else K) == 0) then bif (one == one) then bif ((bif E != 0 then false else C) == C) then bif (E == two) then bif ((XN == XN) && ((XD == XD) && true)) then bif (E3 == E3) then bif (two != 0) then bif ((bif (E != 0) then 0 else Dp) == 0) then bif (E == two) then some (Bo (true)) else some (Bo (false)) else some (Bo (false)) else bif ((bif (E != 0) then 0 else Dp) == Dp) then bif (E == two) then some (Bo (true)) else some (Bo (false)) else some (Bo (false)) else some (Bo (false)) else some (Bo (false)) else some (Bo (false)) else some (Bo (false)) else some (Bo (false)) else some (Bo (false)) else bif ((bif (one != 0) then 0 else K) == 0) then bif (one == one) then bif ((bif E != 0 then false else C) == C) then bif (E == two) then bif ((XN == XN) && ((XD == XD) && true)) then bif (E3 == E3) then bif (two != 0) then bif ((bif (E != 0) then 0 else Dp) == 0) then bif (E == two) then some (Bo (true)) else some (Bo (false)) else some (Bo (false)) else bif ((bif (E != 0) then 0 else Dp) == Dp) then bif (E == two) then some (Bo (true)) else some (Bo (false)) else some (Bo (false)) else some (Bo (false)) else some (Bo (false)) else some (Bo (false)) else some (Bo (false)) else some (Bo (false)) else some (Bo (false)) else none else none else none else bif (one != 0) then bif ((bif (one != 0) then 0 else K) == 0) then bif (one == one) then bif ((bif E != 0 then false else C) == false) then bif (E == two) then bif ((XN == 0) && ((XD == 0) && true)) then bif (E3 == two) then bif (two != 0) then bif ((bif (E != 0) then 0 else Dp) == 0) then bif (E == two) then some (Bo (true)) else some (Bo (false)) else some (Bo (false)) else bif ((bif (E != 0) then 0 else Dp) == 0) then bif (E == two) then some (Bo (true)) else some (Bo (false)) else some (Bo (false)) else some (Bo (false)) else some (Bo (false)) else some (Bo (false)) else some (Bo (false)) else some (Bo (false)) else some (Bo (false)) else bif ((bif (one != 0) then 0 else K) == 0) then bif (one == one) then bif ((bif E != 0 then false else C) == false) then bif (E == two) then bif ((XN == 0) && ((XD == 0) && true)) then bif (E3 == two) then bif (two != 0) then bif ((bif (E != 0) then 0 else Dp) == 0) then bif (E == two) then some (Bo (true)) else some (Bo (false)) else some (Bo (false)) else bif ((bif (E != 0) then 0 else Dp) == 0) then bif (E == two) then some (Bo (true)) else some (Bo (false)) else some (Bo (false)) else some (Bo (false)) else some (Bo (false)) else some (Bo (false)) else some (Bo (false)) else some (Bo (false)) else some (Bo (false))

theorem lawT_eq {g : Bool} {one two E K S XN XD E3 Dp : Int} {C : Bool} (h1 : two = E) (h2 : K = S) (h3 : E ≠ 0 → XN = 0 ∧ XD = 0 ∧ E3 = E) : lawT g one two E K S XN XD E3 Dp C = some (Bo true) := by
  subst h1 h2
  unfold lawT
  cases g
  · by_cases ho : one = 0
    · subst ho
      by_cases ht : two = 0
      · subst ht; simp
      · obtain ⟨rfl, rfl, rfl⟩ := h3 ht
        have e1 : (E3 == 0) = false := by simp [ht]
        have e2 : (E3 != 0) = true := by simp [ht]
        simp [e1, e2]
    · have f1 : (one == 0) = false := by simp [ho]
      have f2 : (one != 0) = true := by simp [ho]
      by_cases ht : two = 0
      · subst ht; simp [f1, f2]
      · obtain ⟨rfl, rfl, rfl⟩ := h3 ht
        have e1 : (E3 == 0) = false := by simp [ht]
        have e2 : (E3 != 0) = true := by simp [ht]
        simp [e1, e2, f1, f2]
  · rfl

def awakeF (ds : List D) : Option (Bool × D) :=
  match ds with
  | [] => some (true, Bo true)
  | _ => none

noncomputable def law3C : List Ctr := [⟨13, awakeF⟩, ⟨14, sideF⟩, ⟨15, cutsF⟩, ⟨16, excF⟩, ⟨17, depF⟩, ⟨19, checkWallF⟩, ⟨20, checkPointF⟩, ⟨21, checkPathF⟩, ⟨22, rsideF⟩, ⟨23, rcutsF⟩, ⟨24, depthF⟩, ⟨25, rexcF⟩, ⟨108, firstF⟩]
theorem law3C_good (h0 : Lib0 w0) (ha : Good w0 ⟨13, awakeF⟩) : Goods w0 law3C :=
  ⟨ha, side_good h0, cuts_good h0, exc_good h0, dep_good h0, rcheck_good (rname_good h0) h0, rcheckPoint_good h0, rcheckPath_good h0, rside_good h0, rcuts_good h0, rdepth_good h0, rexc_good h0, rfirst_good h0, trivial⟩

theorem firstZ_tail (a b c : Int) : firstZ [a, firstZ [b, c]] = firstZ [a, b, c] := by
  simp only [firstZ]
  cases (a != 0)
  · simp only [cond_false]
    cases hb : (b != 0)
    · simp only [cond_false]
      cases hc : (c != 0) <;> simp [hc]
    · simp [hb]
  · rfl

theorem law3_run (n : ByteArray) (a b c d h e p q r s t u x y : Int) : bodyK (cfgC w0 law3C) 100 (fnOf Tryz.f3) [wall n a b c d h e, .agg [I p, I q, I r, I s, I t, I u], nums [x, y]] = some (Bo true) := by
  have hrun : bodyK (cfgC w0 law3C) 100 (fnOf Tryz.f3) [wall n a b c d h e, .agg [I p, I q, I r, I s, I t, I u], nums [x, y]] =
    lawT (decide (((n.size : Nat) : Int) > 40)) (firstZ [chkWall n a b c d h e, chkPoint x y]) (firstZ [chkWall n a b c d h e, firstZ [chkSpot p q r, chkSpot s t u]]) (errZ n a b c d h e p q r s t u) (cmpZ (sideZ a b c d x y 1) 0) (sgnZ (sideZ a b c d x y 1))
      (bif (errZ n a b c d h e p q r s t u == 0) && cutP a b c d h p q r s t u then (numP a b c d h p q r s t u).tdiv (gcdZ (numP a b c d h p q r s t u) (denP a b c d p q s t)) else 0)
      (bif (errZ n a b c d h e p q r s t u == 0) && cutP a b c d h p q r s t u then (denP a b c d p q s t).tdiv (gcdZ (numP a b c d h p q r s t u) (denP a b c d p q s t)) else 0)
      (exErr (errZ n a b c d h e p q r s t u) (cutP a b c d h p q r s t u)) (depP a b c d h p q r s t u) (cutP a b c d h p q r s t u) := by kernel_rfl
  refine hrun.trans (lawT_eq (firstZ_tail _ _ _) (cmp_sgn _) fun hE => ?_)
  have e1 : (errZ n a b c d h e p q r s t u == 0) = false := by simp [hE]
  have e2 : (errZ n a b c d h e p q r s t u != 0) = true := by simp [hE]
  unfold exErr
  rw [e1, e2]
  exact ⟨rfl, rfl, rfl⟩

theorem fnD_body {w0 : World} (h0 : Lib0 w0) {cs : List Ctr} (hcs : Goods w0 cs) {g : Nat} {fd : AFn} (hfd : fnTr.get g = some fd) {ds : List D} {d : D} {n : Nat} (h : bodyK (cfgC w0 cs) n fd ds = some d) : FnD (cfg w0) g ds d := by
  rw [bodyK_eq] at h
  exact bodyD_sound (C := cfgC w0 cs) (cfgC_ok w0 cs) (ev_sound (cfgC_ok w0 cs) (specs_ok h0 hcs) n) hfd h

theorem law3_fn (h0 : Lib0 w0) (ha : Good w0 ⟨13, awakeF⟩) (n : ByteArray) (a b c d h e p q r s t u x y : Int) : FnD (cfg w0) 3 [wall n a b c d h e, .agg [I p, I q, I r, I s, I t, I u], nums [x, y]] (Bo true) :=
  fnD_body h0 (law3C_good h0 ha) (fd := fnOf Tryz.f3) rfl (law3_run ..)
end Go.Proofs.YtmlglimahbjgbaaGreatDoor
