/-
  A part of the proof of the statement that the claim names: see the last file.
-/
import Derived.Test.YtmlglimahbjgbaaGreatDoorL3
namespace Go.Proofs.YtmlglimahbjgbaaGreatDoor
open Go Go.Am Go.Town
set_option maxRecDepth 100000
variable {w0 : World}
noncomputable section

theorem run53_5 (a b c d e : Tup wallK) (s r : Tup v3K) : bodyK ((cfg w0).at cs53) 80 (fnOf Tryz.f53) [.vec wallK [a, b, c, d, e], vec3 s, vec3 r] = out53 [a, b, c, d, e] s r [0, 1, 2, 3, 4] := by kernel_rfl
end
end Go.Proofs.YtmlglimahbjgbaaGreatDoor

namespace Go.Proofs.YtmlglimahbjgbaaGreatDoor
open Go Go.Am Go.Town
set_option maxRecDepth 100000
variable {w0 : World}
noncomputable section

/-! # The program's Mirrors: its contract -/

theorem ofV_self {k : Kd} (h : k.isFlat = true) (x : El k) : ofV k (toV k x) = some x := by
  cases k with
  | list ks => cases h
  | int k => simp [ofV, toV]
  | str => rfl
  | bool => rfl
  | float k => simp [ofV, toV]

theorem ofVs_self : ∀ {ks : List Kd} (_ : flatK ks = true) (x : Tup ks), ofVs ks (toVs ks x) = some x
  | [], _, _ => rfl
  | k :: ks, h, x => by
    simp only [flatK, List.all_cons, Bool.and_eq_true] at h
    simp only [ofVs, toVs]
    rw [ofV_self h.1, ofVs_self (ks := ks) h.2 x.2]
    rfl

theorem ofRows_flat {ks : List Kd} (h : flatK ks = true) : ∀ l : List (Tup ks), ofRows ks l.length (l.flatMap (toVs ks)) = some l
  | [] => rfl
  | x :: xs => by
    have e : (toVs ks x).length = ks.length := toVs_len ks x
    simp only [List.length_cons, ofRows, List.flatMap_cons]
    rw [← e, List.take_left, List.drop_left, ofVs_self h, ofRows_flat h xs]

theorem flat_len {ks : List Kd} : ∀ l : List (Tup ks), (l.flatMap (toVs ks)).length = l.length * ks.length
  | [] => by simp
  | x :: xs => by
    rw [List.flatMap_cons, List.length_append, flat_len xs, toVs_len, List.length_cons, Nat.succ_mul]; omega

theorem okM_all {l : List (Tup wallK)} {s r : Tup v3K} {j : Nat} (h : e53 l s r = 0) (hj : j < l.length) (he : evW (nth l j) = true) : okM l j s r = true := by
  unfold e53 at h
  rw [firstZ_nil] at h
  have hl := h (chkAllW l) (by simp)
  have hs := h (pChk s) (by simp)
  have hr := h (pChk r) (by simp)
  have ho : outB l j = false := by
    unfold outB
    rw [decide_eq_false (show ¬ ((j : Int) < 0) by omega)]
    simp only [cond_false, decide_eq_false_iff_not]
    omega
  have he' : evW (nthW l j) = true := by unfold nthW; rw [Int.toNat_natCast]; exact he
  refine (okM_of (k := (j : Int)) ?_ he').1
  unfold e52
  rw [ho, hl, hs, hr]; rfl

theorem goM_eq {l : List (Tup wallK)} {s r : Tup v3K} (h : e53 l s r = 0) : ∀ (js : List Nat) (acc : List (Tup mirK)), (∀ j ∈ js, j < l.length) → goM l s r js acc = some (.tup [resM (js.foldl (fun b j => addM l s r j b) acc), I 0])
  | [], acc, _ => rfl
  | j :: js, acc, hj => by
    unfold goM
    rw [List.foldl_cons]
    have ih := fun acc => goM_eq h js acc (fun i hi => hj i (by simp [hi]))
    unfold addM hasM
    cases he : evW (nth l j) with
    | false => exact ih acc
    | true =>
      rw [okM_all h (hj j (by simp)) he]
      cases hb : refB l j s r with
      | false => exact ih acc
      | true => exact ih _

theorem out53_eq (l : List (Tup wallK)) (s r : Tup v3K) : out53 l s r (List.range' 0 l.length) = some (bif e53 l s r != 0 then .tup [nilD, I (e53 l s r)] else .tup [resM (mirsL l s r), I 0]) := by
  unfold out53
  cases hc : (e53 l s r != 0) with
  | true => rfl
  | false =>
    simp only [cond_false]
    rw [goM_eq (by simpa using hc) _ _ (fun j hj => by simpa using hj)]
    rfl

theorem raw53 (h0 : Lib0 w0) (l : List (Tup wallK)) (s r : Tup v3K) (hl : l.length ≤ 5) : FnD (cfg w0) 53 [.vec wallK l, vec3 s, vec3 r] (bif e53 l s r != 0 then .tup [nilD, I (e53 l s r)] else .tup [resM (mirsL l s r), I 0]) := by
  have key : ∀ n, bodyK ((cfg w0).at cs53) n (fnOf Tryz.f53) [.vec wallK l, vec3 s, vec3 r] = out53 l s r (List.range' 0 l.length) → FnD (cfg w0) 53 [.vec wallK l, vec3 s, vec3 r] (bif e53 l s r != 0 then .tup [nilD, I (e53 l s r)] else .tup [resM (mirsL l s r), I 0]) := fun n h => fnD_k (cfg_ok w0) h0 (cs53_gd h0) (fd := fnOf Tryz.f53) rfl (h.trans (out53_eq l s r))
  match l, hl, key with
  | [], _, key => exact key 60 (run53_0 s r)
  | [a], _, key => exact key 60 (run53_1 a s r)
  | [a, b], _, key => exact key 60 (run53_2 a b s r)
  | [a, b, c], _, key => exact key 60 (run53_3 a b c s r)
  | [a, b, c, d], _, key => exact key 80 (run53_4 a b c d s r)
  | [a, b, c, d, e], _, key => exact key 80 (run53_5 a b c d e s r)
  | _ :: _ :: _ :: _ :: _ :: _ :: _, hl, _ => simp at hl

noncomputable def orM (e : Int) (l : List (Tup mirK)) : List (Tup mirK) := bif e != 0 then [] else l

theorem fn53 (h0 : Lib0 w0) (l : List (Tup wallK)) (s r : Tup v3K) (hl : l.length ≤ 5) : FnD (cfg w0) 53 [.vec wallK l, vec3 s, vec3 r] (.tup [.vec mirK (orM (e53 l s r) (mirsL l s r)), I (e53 l s r)]) := by
  have h := raw53 h0 l s r hl
  unfold orM
  cases hc : (e53 l s r != 0) with
  | true =>
    rw [hc] at h
    exact FnD.nil_vec (vs := [.int .i64 (e53 l s r)]) rfl (by decide) h
  | false =>
    rw [hc] at h
    have he : e53 l s r = 0 := by simpa using hc
    rw [he]
    simp only [cond_false] at h ⊢
    cases hm : mirsL l s r with
    | nil => rw [hm] at h; exact FnD.nil_vec (vs := [.int .i64 0]) rfl (by decide) h
    | cons m ms =>
      rw [hm] at h
      exact FnD.sl_tup (ks := mirK) (n := (m :: ms).length) (vs := (m :: ms).flatMap (toVs mirK)) (xs := [.int .i64 0]) rfl (by decide) (by simp) (flat_len _) (ofRows_flat rfl _) rfl h

/-- Of more walls than are allowed. -/
noncomputable def manyL (l : List (Tup wallK)) : Bool := decide ((l.length : Int) > 32)
noncomputable def c38m : Ct := ct 38 [.v wallK] fun a => .br (manyL a.1) (.leaf (I 5)) .bad
theorem gd38m (h0 : Lib0 w0) : Gd (cfg w0) c38m := gd_sig fun a d hd => by
  obtain ⟨hg, hd⟩ := br_run hd
  cases hd
  have := fn38 h0 a.1
  unfold chkAllW at this
  rw [show decide (((a.1 : List (Tup wallK)).length : Int) > 32) = true from hg] at this
  exact this
noncomputable def cs53m : List Ct := [c38m, ⟨104, tG checkSpotF⟩, ⟨98, tG firstF⟩]
theorem cs53m_gd (h0 : Lib0 w0) : Gds (cfg w0) cs53m := ⟨gd38m h0, gd_of (checkSpot_good h0), gd_of (first_good h0), trivial⟩
theorem run53_m (l : List (Tup wallK)) (s r : Tup v3K) : bodyK ((cfg w0).at cs53m) 60 (fnOf Tryz.f53) [.vec wallK l, vec3 s, vec3 r] = bif manyL l then some (.tup [nilD, I 5]) else none := by kernel_rfl

theorem chk_many {l : List (Tup wallK)} (h : manyL l = true) : chkAllW l = 5 := by
  unfold chkAllW
  rw [show decide ((l.length : Int) > 32) = true from h]; rfl

theorem fn53m (h0 : Lib0 w0) (l : List (Tup wallK)) (s r : Tup v3K) (hl : manyL l = true) : FnD (cfg w0) 53 [.vec wallK l, vec3 s, vec3 r] (.tup [.vec mirK (orM (e53 l s r) (mirsL l s r)), I (e53 l s r)]) := by
  have he : e53 l s r = 5 := by unfold e53; rw [chk_many hl]; rfl
  rw [he]
  refine FnD.nil_vec (vs := [.int .i64 5]) rfl (by decide) (fnD_k (cfg_ok w0) h0 (cs53m_gd h0) (fd := fnOf Tryz.f53) rfl (n := 60) ((run53_m l s r).trans ?_))
  rw [hl]; rfl

noncomputable def fewL (l : List (Tup wallK)) : Bool := Nat.ble l.length 5 || manyL l
noncomputable def c53 : Ct := ct 53 [.v wallK, .b v3K, .b v3K] fun a => .br (fewL a.1) (.leaf (.tup [.vec mirK (orM (e53 a.1 a.2.1 a.2.2.1) (mirsL a.1 a.2.1 a.2.2.1)), I (e53 a.1 a.2.1 a.2.2.1)])) .bad
theorem gd53 (h0 : Lib0 w0) : Gd (cfg w0) c53 := gd_sig fun a d hd => by
  obtain ⟨hg, hd⟩ := br_run hd
  cases hd
  unfold fewL at hg
  rw [Bool.or_eq_true] at hg
  rcases hg with hg | hg
  · exact fn53 h0 a.1 a.2.1 a.2.2.1 (Nat.le_of_ble_eq_true hg)
  · exact fn53m h0 a.1 a.2.1 a.2.2.1 hg
end
end Go.Proofs.YtmlglimahbjgbaaGreatDoor
