/-
  A part of the proof of the statement that the claim names: see the last file.
-/
import Derived.Test.YthcpfignhalffaaGreatDoorP4
namespace Go.Proofs.YthcpfignhalffaaGreatDoor
open Go Go.Am
set_option maxRecDepth 100000
noncomputable section


theorem W_def (n : Int) : W n = if n % 2 ^ 64 ≥ 2 ^ 63 then n % 2 ^ 64 - 2 ^ 64 else n % 2 ^ 64 := by
  unfold W IntKind.wrap
  simp [IntKind.bits, IntKind.signed]
theorem W_area (n a b : Int) : W (n + W (W a - W b)) = W (W (n + W a) - W b) := by
  simp only [W_def]
  omega
theorem area_eq (l : List (Tup ptK)) : areaP l = areaR l := by
  unfold areaP areaR
  congr 1
  funext n i
  exact W_area ..
theorem foldl_cong {α β : Type} {f g : β → α → β} : ∀ {l : List α} {b : β}, (∀ x ∈ l, ∀ b, f b x = g b x) → l.foldl f b = l.foldl g b
  | [], _, _ => rfl
  | x :: xs, b, h => by
    rw [List.foldl_cons, List.foldl_cons, h x (by simp) b]
    exact foldl_cong fun y hy b => h y (by simp [hy]) b
theorem acc_cong {p q : Nat → Bool} {l : List (Tup ptK)} (h : ∀ j, j < l.length → p j = q j) : accX p l = accX q l := by
  unfold accX
  refine foldl_cong fun j hj s => ?_
  have : j < l.length := by simpa using hj
  unfold accS
  rw [h j this]
theorem levB_le (e : Int) : levB e ≤ 120 := (levB_lv e).2.1
theorem levs_at {g : Gr} (hc : chkG g = 0) {j : Nat} (hj : j < g.l.length) : levR (i1 (nth g.l j)) = levB (i1 (nth g.l j)) ∧ i1 (nth (g.l.map lbE) j) = levB (i1 (nth g.l j)) := by
  obtain ⟨_, _, _, _, _, va⟩ := chk_len hc
  have ea := va _ (List.getElem_mem hj)
  have na : nth g.l j = g.l[j] := by simp [nth, hj]
  have nb : nth (g.l.map lbE) j = lbE g.l[j] := by simp [nth, hj]
  rw [na, nb]
  exact ⟨levR_eq ea.1 ea.2, rfl⟩
theorem ab_eq {g : Gr} {pe : List (Tup ptK)} (hc : chkG g = 0) (hl : pe.length = g.l.length) (v : Int) : accX (abP g v) pe = sumB g v 121 pe := by
  refine acc_cong fun j hj => ?_
  have hj : j < g.l.length := by omega
  obtain ⟨e1, e2⟩ := levs_at hc hj
  have na : nth (g.l.map (abE v)) j = abE v (nth g.l j) := by simp [nth, hj]
  have := levB_le (i1 (nth g.l j))
  unfold abP prR
  rw [na, e2, decide_eq_true (show levB (i1 (nth g.l j)) < 121 by omega), Bool.and_true]
  show decide (levR (i1 (nth g.l j)) ≥ v) = _
  rw [e1]
theorem pb_eq {g : Gr} {pe : List (Tup ptK)} (hc : chkG g = 0) (hl : pe.length = g.l.length) (lo hi : Int) : accX (prB g lo hi) pe = sumB g lo hi pe := by
  refine acc_cong fun j hj => ?_
  have hj : j < g.l.length := by omega
  obtain ⟨e1, e2⟩ := levs_at hc hj
  unfold prB prR
  rw [e1, e2]
theorem cls_eq {g : Gr} {pe : List (Tup ptK)} (hc : chkG g = 0) (hl : pe.length = g.l.length) (lv : List (Tup intK)) : clsP g pe lv = clsR g pe lv := by
  unfold clsP clsR
  congr 1
  funext j
  rw [pb_eq hc hl]

theorem num_ok (p : List (Tup ptK)) : numB (areaX p).1 (areaX p).2 (chkP p) (bif chkP p == 0 then areaR p else 0) = true := by
  unfold numB areaX
  cases h : (chkP p != 0) with
  | true => simp
  | false =>
    have hz : chkP p = 0 := by simpa using h
    simp [hz, area_eq]
theorem firstZ_ne {x : Int} {l : List Int} (h : x ≠ 0) : firstZ (x :: l) = x := by
  unfold firstZ
  have : (x != 0) = true := by simpa using h
  rw [this]; rfl
def badP (g : Gr) (pe : List (Tup ptK)) : Int := bif chkG g == 0 then chkPe g pe else chkG g
theorem ex_ok (g : Gr) (pe : List (Tup ptK)) (v : Int) : exX g pe v = (bif firstZ [badP g pe, withinZ v 0 maxL] == 0 then sumB g v 121 pe else (0, 0), firstZ [badP g pe, withinZ v 0 maxL]) := by
  unfold exX badP
  by_cases hc : chkG g = 0
  · rw [hc]
    show (bif e31 g pe v != 0 then ((0, 0), e31 g pe v) else (accX (abP g v) pe, 0)) = (bif e31 g pe v == 0 then sumB g v 121 pe else (0, 0), e31 g pe v)
    by_cases he : e31 g pe v = 0
    · rw [ab_eq hc (chkPe_zero (e31_zero he)).1, he]; rfl
    · rw [show (e31 g pe v != 0) = true by simpa using he, show (e31 g pe v == 0) = false by simpa using he]; rfl
  · have : (chkG g == 0) = false := by simpa using hc
    rw [show (chkG g != 0) = true by simpa using hc, this]
    simp only [cond_true, cond_false]
    rw [firstZ_ne hc, this]; rfl
theorem cl_ok (g : Gr) (pe : List (Tup ptK)) (lv : List (Tup intK)) : clX g pe lv = (bif firstZ [badP g pe, chkL lv] == 0 then clsR g pe lv else [], firstZ [badP g pe, chkL lv]) := by
  unfold clX badP
  by_cases hc : chkG g = 0
  · rw [hc]
    show (bif e33 g pe lv != 0 then ([], e33 g pe lv) else (clsP g pe lv, 0)) = (bif e33 g pe lv == 0 then clsR g pe lv else [], e33 g pe lv)
    by_cases he : e33 g pe lv = 0
    · rw [cls_eq hc (chkPe_zero (firstZ_nil' he (chkPe g pe) (by simp))).1, he]; rfl
    · rw [show (e33 g pe lv != 0) = true by simpa using he, show (e33 g pe lv == 0) = false by simpa using he]; rfl
  · have : (chkG g == 0) = false := by simpa using hc
    rw [show (chkG g != 0) = true by simpa using hc, this]
    simp only [cond_true, cond_false]
    rw [firstZ_ne hc, this]; rfl
theorem sameP_self (l : List (Tup ptK)) : sameP l l = true := by unfold sameP; simp

theorem endA_ok (p : List (Tup ptK)) (g : Gr) (pe : List (Tup ptK)) (v : Int) (lv : List (Tup intK)) (hl : lv.length ≤ 1000) :
    endA p g pe v lv (bif chkP p == 0 then areaR p else 0) (firstZ [badP g pe, withinZ v 0 maxL]) (bif firstZ [badP g pe, withinZ v 0 maxL] == 0 then sumB g v 121 pe else (0, 0)) (firstZ [badP g pe, chkL lv]) (bif firstZ [badP g pe, chkL lv] == 0 then clsR g pe lv else []) = some (Bo true) := by
  unfold endA
  rw [num_ok, ex_ok, cl_ok]
  have hs : smP (bif firstZ [badP g pe, chkL lv] == 0 then clsR g pe lv else []) = true := by
    cases (firstZ [badP g pe, chkL lv] == 0)
    · rfl
    · show Nat.ble _ _ = true
      rw [Nat.ble_eq]
      show (clsR g pe lv).length ≤ _
      unfold clsR
      rw [List.length_map, List.length_range']
      omega
  simp only [hs, sameP_self, beq_self_eq_true, Bool.and_self, Bool.and_true, cond_true]
theorem badP_zero {g : Gr} {pe : List (Tup ptK)} (h : badP g pe = 0) : chkG g = 0 ∧ pe.length = g.l.length := by
  unfold badP at h
  by_cases hc : chkG g = 0
  · rw [hc] at h
    exact ⟨hc, (chkPe_zero h).1⟩
  · rw [show (chkG g == 0) = false by simpa using hc] at h
    exact absurd h hc
theorem len_of {g : Gr} {pe : List (Tup ptK)} {x : Int} (h : (firstZ [badP g pe, x] == 0) = true) : Nat.beq pe.length g.l.length = true :=
  (Nat.beq_eq ..).mpr (badP_zero (firstZ_nil' (by simpa using h) _ (by simp))).2
theorem a3_ok {p : List (Tup ptK)} {g : Gr} {pe : List (Tup ptK)} {v : Int} {lv : List (Tup intK)} (hg : smG g = true) (hl : lv.length ≤ 1000) :
    a3 p g pe v lv (bif chkP p == 0 then areaR p else 0) (firstZ [badP g pe, withinZ v 0 maxL]) (bif firstZ [badP g pe, withinZ v 0 maxL] == 0 then sumB g v 121 pe else (0, 0)) (firstZ [badP g pe, chkL lv]) = some (Bo true) := by
  have h := endA_ok p g pe v lv hl
  unfold a3
  cases hz : (firstZ [badP g pe, chkL lv] == 0) with
  | true =>
    rw [hz] at h
    rw [hg, len_of hz, (Nat.ble_eq ..).mpr (show lv.length ≤ 100000 by omega)]
    exact h
  | false =>
    rw [hz] at h
    exact h
theorem a2_ok {p : List (Tup ptK)} {g : Gr} {pe : List (Tup ptK)} {v : Int} {lv : List (Tup intK)} (hg : smG g = true) (hl : lv.length ≤ 1000) :
    a2 p g pe v lv (bif chkP p == 0 then areaR p else 0) (firstZ [badP g pe, withinZ v 0 maxL]) (firstZ [badP g pe, chkL lv]) = some (Bo true) := by
  have h := a3_ok (p := p) (pe := pe) (v := v) hg hl
  unfold a2
  cases hz : (firstZ [badP g pe, withinZ v 0 maxL] == 0) with
  | true =>
    rw [hz] at h
    rw [hg, len_of hz]
    exact h
  | false =>
    rw [hz] at h
    exact h
theorem aa0_ok {p : List (Tup ptK)} {g : Gr} {pe : List (Tup ptK)} {v : Int} {lv : List (Tup intK)} (hp : smP p = true) (hg : smG g = true) (hl : lv.length ≤ 1000) : aa0 p g pe v lv (badP g pe) = some (Bo true) := by
  have h := a2_ok (p := p) (pe := pe) (v := v) hg hl
  unfold aa0 aa1
  rw [(Nat.ble_eq ..).mpr (show lv.length ≤ 100000 by omega), hp]
  cases hz : (chkP p == 0) with
  | true => rw [hz] at h; exact h
  | false => rw [hz] at h; exact h
theorem aaM_ok {p : List (Tup ptK)} {g : Gr} {pe : List (Tup ptK)} {v : Int} {lv : List (Tup intK)} (hp : p.length ≤ 2000) (hg : g.l.length ≤ 1000) (he : pe.length ≤ 1000) (hl : lv.length ≤ 1000) : aaM p g pe v lv = some (Bo true) := by
  have sp : smP p = true := (Nat.ble_eq ..).mpr (by omega)
  have sg : smG g = true := (Nat.ble_eq ..).mpr (by omega)
  have se : smP pe = true := (Nat.ble_eq ..).mpr (by omega)
  have sl : Nat.ble lv.length 100000 = true := (Nat.ble_eq ..).mpr (by omega)
  have h := aa0_ok (pe := pe) (v := v) sp sg hl
  unfold aaM
  rw [roomV_own (by omega), sp, sg, se, sl, room_own sl]
  unfold badP at h
  cases hz : (chkG g == 0) with
  | true => rw [hz] at h; exact h
  | false => rw [hz] at h; exact h
theorem law4_true (p : List (Tup ptK)) (g : Gr) (pe : List (Tup ptK)) (v : Int) (lv : List (Tup intK)) : law4 p g pe v lv = some (Bo true) := by
  have key : p.length ≤ 2000 → (bif !few g then some (Bo true) else bif decide ((pe.length : Int) > 37) then some (Bo true) else bif decide ((lv.length : Int) > 9) then some (Bo true) else aaM p g pe v lv) = some (Bo true) := fun hp => by
    cases hf : few g with
    | false => rfl
    | true =>
      have hg : (g.l.length : Int) ≤ 36 := of_decide_eq_true hf
      by_cases h1 : (pe.length : Int) > 37
      · rw [decide_eq_true h1]; rfl
      · by_cases h2 : (lv.length : Int) > 9
        · rw [decide_eq_false h1, decide_eq_true h2]; rfl
        · rw [decide_eq_false h1, decide_eq_false h2]
          exact aaM_ok hp (by omega) (by omega) (by omega)
  unfold law4
  by_cases h : (p.length : Int) > 40
  · by_cases h' : (p.length : Int) = 1025
    · rw [decide_eq_true h, show ((p.length : Int) != 1025) = false by simpa using h']
      exact key (by omega)
    · rw [decide_eq_true h, show ((p.length : Int) != 1025) = true by simpa using h']; rfl
  · rw [decide_eq_false h]
    exact key (by omega)
end
end Go.Proofs.YthcpfignhalffaaGreatDoor

namespace Go.Proofs.YthcpfignhalffaaGreatDoor
open Go Go.Am
set_option maxRecDepth 100000
variable {w0 : World}
noncomputable section


theorem run4 (p : List (Tup ptK)) (g : Gr) (pe : List (Tup ptK)) (v : Int) (lv : List (Tup intK)) : bodyK ((cfg w0).at csA) 60 (fnOf Tryz.f4) [.vec ptK p, gD g, crD pe v lv] = law4 p g pe v lv := by cases g; kernel_rfl
theorem law4_fn (h0 : Lib0 w0) (p : List (Tup ptK)) (g : Gr) (pe : List (Tup ptK)) (v : Int) (lv : List (Tup intK)) : FnD (cfg w0) 4 [.vec ptK p, gD g, crD pe v lv] (Bo true) :=
  fnD_k (cfg_ok w0) h0 (csA_gd h0) (fd := fnOf Tryz.f4) rfl ((run4 ..).trans (law4_true ..))
end
end Go.Proofs.YthcpfignhalffaaGreatDoor
