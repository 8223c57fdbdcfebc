/-
 A part of the proof of the statement that the claim names: see the last file.
-/
import Derived.Test.YthcpfignhalffaaGreatDoorP1
import Derived.Test.YthcpfignhalffaaGreatDoorP6
import Derived.Test.YthcpfignhalffaaGreatDoorPd
namespace Go.Proofs.YthcpfignhalffaaGreatDoor
open Go Go.Am
set_option maxRecDepth 100000
noncomputable section
theorem thr_step : ((List.range 120).all fun k => decide (thrN k < thrN (k + 1))) = true := by kernel_rfl
theorem thr_mono : ∀ (d i : Nat), i + d ≤ 120 → 0 < d → thrN i < thrN (i + d)
 | 0, _, _, h => by omega
 | d + 1, i, h, _ => by
   have h1 : thrN (i + d) < thrN (i + d + 1) := by
    have := List.all_eq_true.1 thr_step (i + d) (by simp; omega)
    simpa using this
   rcases Nat.eq_zero_or_pos d with hd | hd
   ·subst hd; simpa using h1
   ·exact Nat.lt_trans (thr_mono d i (by omega) hd) h1
def IsLv (e m : Int) : Prop := -1 ≤ m ∧ m ≤ 120 ∧ (0 ≤ m → thr m ≤ e) ∧ (m < 120 → e < thr (m + 1))
theorem lv_uniq {e m n : Int} (h : IsLv e m) (k : IsLv e n) : m = n := by
 have key : ∀ {m n : Int}, IsLv e m → IsLv e n → ¬ m < n := fun {m n} h k hlt => by
  obtain ⟨a1, a2, _, a4⟩ := h
  obtain ⟨b1, b2, b3, _⟩ := k
  have h1 := a4 (by omega)
  have h2 := b3 (by omega)
  have : thr (m + 1) ≤ thr n := by
   unfold thr
   rcases Nat.lt_or_ge (m + 1).toNat n.toNat with hl | hl
   ·have := thr_mono (n.toNat - (m + 1).toNat) (m + 1).toNat (by omega) (by omega)
    rw [show (m + 1).toNat + (n.toNat - (m + 1).toNat) = n.toNat by omega] at this
    omega
   ·rw [show (m + 1).toNat = n.toNat by omega]; omega
  omega
 have h1 := key h k
 have h2 := key k h
 omega
theorem levF_lv (e : Int) : ∀ (f : Nat) (k : Int), -1 ≤ k → k ≤ 120 → 120 < k + f → (0 ≤ k → thr k ≤ e) → IsLv e (levF f e k)
 | 0, k, _, h1, h2, _ => by omega
 | f + 1, k, h0, h1, h2, h3 => by
   unfold levF
   cases hc : (decide (k < 120) && decide (thr (k + 1) ≤ e)) with
   | true =>
     simp only [Bool.and_eq_true, decide_eq_true_eq] at hc
     exact levF_lv e f (k + 1) (by omega) (by omega) (by omega) (fun _ => hc.2)
   | false =>
     show IsLv e k
     refine ⟨h0, h1, h3, fun hk => ?_⟩
     simp only [Bool.and_eq_false_iff, decide_eq_false_iff_not] at hc
     rcases hc with hc | hc <;> omega
theorem lev_lv (e : Int) : IsLv e (lev e) := levF_lv e 122 (-1) (by decide) (by decide) (by decide) (fun h => absurd h (by decide))
theorem levB_inv (e : Int) : ∀ (n k : Nat) (b : Int), k + n ≤ 121 → -1 ≤ b → b < k → (0 ≤ b → thr b ≤ e) → (∀ j : Nat, b < j → j < k → e < thr j) →
  (fun m : Int => -1 ≤ m ∧ m < ((k + n : Nat) : Int) ∧ (0 ≤ m → thr m ≤ e) ∧ (∀ j : Nat, m < j → j < k + n → e < thr j)) ((List.range' k n).foldl (fun b (k : Nat) => stepB e (k : Int) b) b)
 | 0, k, b, _, h1, h2, h3, h4 => ⟨h1, by simpa using h2, h3, h4⟩
 | n + 1, k, b, h0, h1, h2, h3, h4 => by
   rw [List.range'_succ, List.foldl_cons]
   unfold stepB
   have hkn : k + (n + 1) = (k + 1) + n := by omega
   rw [hkn]
   cases hc : decide (thr (k : Int) ≤ e) with
   | true =>
     rw [decide_eq_true_eq] at hc
     exact levB_inv e n (k + 1) (k : Int) (by omega) (by omega) (by omega) (fun _ => hc) (fun j j1 j2 => by omega)
   | false =>
     rw [decide_eq_false_iff_not] at hc
     exact levB_inv e n (k + 1) b (by omega) h1 (by omega) h3 (fun j j1 j2 => by
      rcases Nat.lt_or_ge j k with hj | hj
      ·exact h4 j j1 hj
      ·have : j = k := by omega
       subst this; omega)
theorem levB_lv (e : Int) : IsLv e (levB e) := by
 have := levB_inv e 121 0 (-1) (by omega) (by omega) (by omega) (fun h => absurd h (by decide)) (fun j _ h => absurd h (by omega))
 rw [← List.range_eq_range'] at this
 obtain ⟨h1, h2, h3, h4⟩ := this
 have h1 : -1 ≤ levB e := h1
 have h2 : levB e < 121 := h2
 refine ⟨h1, by omega, h3, fun hk => ?_⟩
 have := h4 (levB e + 1).toNat (by show levB e < _; omega) (by omega)
 rwa [show (((levB e + 1).toNat : Nat) : Int) = levB e + 1 by omega] at this
theorem lev_eq (e : Int) : lev e = levB e := lv_uniq (lev_lv e) (levB_lv e)
theorem levR_eq {e : Int} (h1 : 0 ≤ e) (h2 : e ≤ maxE) : levR e = levB e := by
 have : withinZ e 0 maxE = 0 := by
  unfold withinZ whenZ
  have a1 : ¬ e < 0 := by omega
  have a2 : ¬ e > maxE := by omega
  simp [a1, a2]
 unfold levR
 rw [this]
 exact lev_eq e
end
end Go.Proofs.YthcpfignhalffaaGreatDoor
namespace Go.Proofs.YthcpfignhalffaaGreatDoor
open Go Go.Am
set_option maxRecDepth 100000
noncomputable section
theorem same_refl (a : Gr) : sameG a a = true := by simp [sameG, sizeB, sameI]
theorem chk_sm {g : Gr} (h : chkG g = 0) : g.l.length ≤ 256 := by
 obtain ⟨h1, h2, h3, h4, h5, _⟩ := chk_len h
 have hm := mul_bound (a := g.w) (b := g.h) (by omega) h3 (by omega) h5
 rw [W_in (by omega)] at h1
 omega
structure EndOK (a b : Gr) (bx : Bx) (x y one : Int) (df : List (Tup intK)) (box : Int) (tl : Gr) (three : Int) (ov : Gr) (four : Int) (jo : Gr) : Prop where
 e1 : one = e62 a b
 d : e62 a b = 0 → df = difP a b
 e2 : box = e78 a bx
 t : e78 a bx = 0 → tl = tileG a bx
 e3 : three = (overX a b x y).2
 o : (overX a b x y).2 = 0 → ov = (overX a b x y).1
 e4 : four = (joinX a b).2
 j : (joinX a b).2 = 0 → jo = (joinX a b).1
end
end Go.Proofs.YthcpfignhalffaaGreatDoor
namespace Go.Proofs.YthcpfignhalffaaGreatDoor
open Go Go.Am
set_option maxRecDepth 100000
noncomputable section
theorem nthI {l : List (Tup intK)} {j : Nat} (h : j < l.length) : nth l j = l[j] := by simp [nth, h]
theorem nthF {l : List (Tup flK)} {j : Nat} (h : j < l.length) : nth l j = l[j] := by simp [nth, h]
theorem nth_upd {g : Nat → Tup intK → Tup intK} {l : List (Tup intK)} {j : Nat} (h : j < l.length) : nth (updL g 0 l) j = g j (nth l j) := by
 have := updL_get g l 0 j
 rw [nthI h, nthI (by rw [updL_len]; exact h)]
 rw [List.getElem?_eq_getElem h, List.getElem?_eq_getElem (by rw [updL_len]; exact h)] at this
 simpa using this
theorem nth_sumL {gs : List Gr} {j : Nat} (h : j < hdL gs) : nth (sumL gs) j = t1 (sumI gs j) := by
 rw [nthI (by rw [sumL_len]; exact h)]
 simp [sumL]
theorem sumT_cons (g : Gr) (gs : List Gr) (j : Nat) : sumT (g :: gs) j = vAt g j + sumT gs j := by simp [sumT]
theorem sumT_mem {gs : List Gr} (h : ∀ g ∈ gs, chkG g = 0) {k : Nat} {g : Gr} (hg : gs[k]? = some g) (j : Nat) : vAt g j ≤ sumT gs j := by
 induction gs generalizing k with
 | nil => cases hg
 | cons a r ih =>
   have h1 := vAt_ok (h a (by simp)) j
   have h2 := (sumT_ok (i := j) (gs := r) fun x hx => h x (by simp [hx])).1
   rw [sumT_cons]
   match k, hg with
   | 0, hg => cases hg; omega
   | k + 1, hg => have := ih (fun x hx => h x (by simp [hx])) hg; omega
theorem few_hd {gs : List Gr} (h : gs.all few = true) : hdL gs ≤ 36 := by
 cases gs with
 | nil => exact Nat.zero_le _
 | cons g r =>
   rw [List.all_cons, Bool.and_eq_true] at h
   have := of_decide_eq_true h.1
   show g.l.length ≤ 36
   omega
theorem few_sm {gs : List Gr} (h : gs.all few = true) : smGs gs = true := by
 unfold smGs
 rw [List.all_eq_true] at h ⊢
 intro g hg
 have := of_decide_eq_true (h g hg)
 exact Nat.ble_eq_true_of_le (by omega)
theorem pick_len (p : Nat → Bool) (w : Int) (n : Nat) : (pick p w n).length ≤ n := by
 unfold pick
 rw [List.length_map]
 exact Nat.le_trans (List.length_filter_le ..) (by simp)
end
end Go.Proofs.YthcpfignhalffaaGreatDoor
namespace Go.Proofs.YthcpfignhalffaaGreatDoor
open Go Go.Am
set_option maxRecDepth 100000
noncomputable section
end
end Go.Proofs.YthcpfignhalffaaGreatDoor
namespace Go.Proofs.YthcpfignhalffaaGreatDoor
open Go Go.Am
set_option maxRecDepth 100000
variable {w0 : World}
noncomputable section
end
end Go.Proofs.YthcpfignhalffaaGreatDoor
