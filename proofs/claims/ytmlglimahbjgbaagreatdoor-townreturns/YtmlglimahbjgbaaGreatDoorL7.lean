/-
  A part of the proof of the statement that the claim names: see the last file.
-/
import Derived.Test.YtmlglimahbjgbaaGreatDoorL6
namespace Go.Proofs.YtmlglimahbjgbaaGreatDoor
open Go Go.Am Go.Town
set_option maxRecDepth 100000
variable {w0 : World}
noncomputable section

/-! # Heard over five walls: the first two are known to reflect, or not to -/

noncomputable def ansM (b : Bool) (l : List (Tup wallK)) (k : Int) (s r : Tup v3K) : D := bif b then yesM (mirW (nth l k.toNat) k s r) else noM
noncomputable def eqB (a b : Bool) : Bool := a == b
noncomputable def refF (b0 b1 : Bool) (l : List (Tup wallK)) (k : Int) (s r : Tup v3K) : FT D :=
  bif decide (k = 0) then .br (eqB (refB l k s r) b0) (.leaf (ansM b0 l k s r)) .bad else
  bif decide (k = 1) then .br (eqB (refB l k s r) b1) (.leaf (ansM b1 l k s r)) .bad else
  .br (refB l k s r) (.leaf (yesM (mirW (nth l k.toNat) k s r))) (.leaf noM)
noncomputable def c130x (b0 b1 : Bool) : Ct := ct 130 [.v wallK, .c ik, .b v3K, .b v3K] fun a => .br (okM a.1 a.2.1 a.2.2.1 a.2.2.2.1) (refF b0 b1 a.1 a.2.1 a.2.2.1 a.2.2.2.1) .bad

theorem refF_run {b0 b1 : Bool} {l : List (Tup wallK)} {k : Int} {s r : Tup v3K} {d : D} (h : (refF b0 b1 l k s r).run = some d) : d = ansM (refB l k s r) l k s r := by
  unfold refF at h
  cases h0 : decide (k = 0) with
  | true =>
    rw [h0] at h
    obtain ⟨e, h⟩ := br_run h
    cases h
    have : refB l k s r = b0 := by simpa [eqB] using e
    rw [this]
  | false =>
    rw [h0] at h
    cases h1 : decide (k = 1) with
    | true =>
      rw [h1] at h
      obtain ⟨e, h⟩ := br_run h
      cases h
      have : refB l k s r = b1 := by simpa [eqB] using e
      rw [this]
    | false =>
      rw [h1] at h
      unfold ansM
      cases hb : refB l k s r with
      | true => simp only [cond_false, FT.run, hb] at h ⊢; cases h; rfl
      | false => simp only [cond_false, FT.run, hb] at h ⊢; cases h; rfl

theorem gd130x (h0 : Lib0 w0) (b0 b1 : Bool) : Gd (cfg w0) (c130x b0 b1) := gd_sig fun a d hd => by
  obtain ⟨hg, hd⟩ := br_run hd
  have := fn130 h0 a.1 a.2.1 a.2.2.1 a.2.2.2.1 hg
  rw [refF_run hd]
  exact this

noncomputable def cs44x (b0 b1 : Bool) : List Ct := [c121, c122, tmC 124, c128, c130x b0 b1, cEch]
theorem cs44x_gd (h0 : Lib0 w0) (b0 b1 : Bool) : Gds (cfg w0) (cs44x b0 b1) := ⟨gd121 h0, gd122 h0, gd124 h0, gd128 h0, gd130x h0 b0 b1, gdEch h0, trivial⟩

noncomputable def goX (b : Bool) (l : List (Tup wallK)) (s r : Tup v3K) (en : Int) (j : Nat) (acc : List (Tup mirK)) (k : List (Tup mirK) → Rx) : Rx :=
  bif !evW (nth l j) then k acc else bif okM l j s r then (bif eqB (refB l j s r) b then (bif b then (bif enB en (eW (nth l j)) then k (acc ++ [mirW (nth l j) j s r]) else none) else k acc) else none) else none
noncomputable def goXX (b0 b1 : Bool) (l : List (Tup wallK)) (t : List (Tup stpK)) (s r : Tup v3K) (en : Int) : Rx :=
  goX b0 l s r en 0 [] fun a0 => goX b1 l s r en 1 a0 fun a1 => goE l t s r en [2, 3, 4] a1

theorem goX_eq {l : List (Tup wallK)} {t : List (Tup stpK)} {s r : Tup v3K} {en : Int} {j : Nat} {js : List Nat} {acc : List (Tup mirK)} {k : List (Tup mirK) → Rx} (hk : ∀ a, k a = goE l t s r en js a) :
    goX (refB l j s r) l s r en j acc k = goE l t s r en (j :: js) acc := by
  unfold goX goE
  rw [show eqB (refB l j s r) (refB l j s r) = true by simp [eqB]]
  rw [hk acc, hk]
  cases evW (nth l j) <;> cases okM l j s r <;> cases refB l j s r <;> rfl

noncomputable def ex44x (w0 : World) (b0 b1 : Bool) (l : List (Tup wallK)) (t : List (Tup stpK)) (s r : Tup v3K) (en : Int) : Rx := rndD ((cfg w0).at (cs44x b0 b1)) 80 [] 80 (fnOf Tryz.f44).ntmps rel44 (.block 0 bk44) (st44 l t s r en nilD)
end
end Go.Proofs.YtmlglimahbjgbaaGreatDoor
