/-
  A part of the proof of the statement that the claim names: see the last file.
-/
import Derived.Test.YtifnpljmjhnbaaaGreatDoorAm4
namespace Go.Am
noncomputable section
open Go Go.RowKit


theorem wrap_natW {n : Nat} (h : n < 9223372036854775807) : IntKind.i64.wrap ((n : Int) + 1) = ((n + 1 : Nat) : Int) := by
  rw [IntWalk.i64_in _ ⟨by omega, by omega⟩]; rfl
section
variable {α : Type} (id : Nat)
theorem rg_iterW {n : Nat} (hn : n ≤ 9223372036854775807) (step : Nat → α → X × α) : ∀ (f i : Nat) (a : α), i + f = n → iterN (rgNext id n step) (f + 1) ((i : Int), a) = some (rgRun id step f i a)
  | 0, i, a, h => by
    have : ¬ ((i : Int) < n) := by omega
    simp [iterN, rgNext, rgRun, this]
  | f + 1, i, a, h => by
    have hi : (i : Int) < n := by omega
    have hd : decide ((i : Int) < n) = true := by simp [hi]
    unfold iterN rgRun
    simp only [rgNext, hd, cond_true, Int.toNat_natCast]
    cases hs : step i a with
    | mk x a' =>
      cases x with
      | normal =>
        simp only
        rw [wrap_natW (by omega)]
        exact rg_iterW hn step f (i + 1) a' (by omega)
      | exit id' => rfl
      | ret => rfl

end
section
variable {C : Cfg} {N : Nat} {rel : List (Nat × Cv)} {B : Code} {id : Nat} {α : Type}
theorem ldT_rgW (ok : CfgOk C) (sp : SpecOK C) {k : Nat} (hk : k ≤ 9223372036854775807) (st : Int × α → List D) (step : Nat → α → X × α) (inv : Nat → α → Prop)
    (hr : ∀ (j : Nat) a, j < k → inv j a → RdOK C N rel B (st ((j : Int), a)) (step j a).1 (st (nx j (step j a))))
    (hn : ∀ (j : Nat) a a', j < k → inv j a → step j a = (.normal, a') → inv (j + 1) a')
    (he : ∀ a, inv k a → RdOK C N rel B (st ((k : Int), a)) (.exit id) (st ((k : Int), a)))
    {a0 : α} (h0 : inv 0 a0) {x : X} {p : Int × α} (hx : rgRun id step k 0 a0 = (x, p)) (hid : Nat.ble 100000 id = false := by rfl) : LdT C (ldP id N rel (outX id x) (st p)) (.loop B) (st (0, a0)) := by
  refine ldT_iter ok sp st (rgNext id k step) (fun p => ∃ j : Nat, p.1 = (j : Int) ∧ j ≤ k ∧ inv j p.2) (fun p ⟨j, hj, hle, hi⟩ => ?_) (fun p q ⟨j, hj, hle, hi⟩ hq => ?_) (a0 := (0, a0)) (b := p) (f := k + 1) ⟨0, rfl, by omega, h0⟩ ?_ hid
  · obtain ⟨i, a⟩ := p
    simp only at hj hi
    subst hj
    unfold rgNext
    by_cases hlt : j < k
    · have hd : decide ((j : Int) < k) = true := by simp [hlt]
      have := hr j a hlt hi
      simp only [hd, cond_true, Int.toNat_natCast]
      cases hs : step j a with
      | mk y b => rw [hs] at this; cases y <;> exact this
    · have hd : decide ((j : Int) < k) = false := by simp; omega
      have hjk : j = k := by omega
      subst hjk
      simp only [hd, cond_false]
      exact he a hi
  · obtain ⟨i, a⟩ := p
    simp only at hj hi
    subst hj
    unfold rgNext at hq
    by_cases hlt : j < k
    · have hd : decide ((j : Int) < k) = true := by simp [hlt]
      simp only [hd, cond_true, Int.toNat_natCast] at hq
      cases hs : step j a with
      | mk y b =>
        rw [hs] at hq
        cases y with
        | normal =>
          simp only [Prod.mk.injEq, true_and] at hq
          subst hq
          exact ⟨j + 1, wrap_natW (by omega), by omega, hn j a b hlt hi hs⟩
        | exit id' => simp at hq
        | ret => simp at hq
    · have hd : decide ((j : Int) < k) = false := by simp; omega
      simp only [hd, cond_false] at hq
      cases hq
  · rw [← hx]; exact rg_iterW id hk step k 0 a0 (by omega)

theorem ldT_lsW (ok : CfgOk C) (sp : SpecOK C) {ks : List Kd} (l : List (Tup ks)) (hk : l.length ≤ 9223372036854775807) (st : Int × α → List D) (g : Tup ks → α → X × α) (inv : Nat → α → Prop)
    (hr : ∀ (j : Nat) a, j < l.length → inv j a → RdOK C N rel B (st ((j : Int), a)) (g (nth l j) a).1 (st (nx j (g (nth l j) a))))
    (hn : ∀ (j : Nat) a a', j < l.length → inv j a → g (nth l j) a = (.normal, a') → inv (j + 1) a')
    (he : ∀ a, inv l.length a → RdOK C N rel B (st ((l.length : Int), a)) (.exit id) (st ((l.length : Int), a)))
    {a0 : α} (h0 : inv 0 a0) {x : X} {p : Int × α} (hx : lsRun id g l 0 a0 = (x, p)) (hid : Nat.ble 100000 id = false := by rfl) : LdT C (ldP id N rel (outX id x) (st p)) (.loop B) (st (0, a0)) :=
  ldT_rgW ok sp hk st (fun j a => g (nth l j) a) inv hr hn he h0 ((rgRun_ls id (ks := ks) (g := g) [] l a0 (fun _ _ _ => rfl)).trans hx) hid

end
end
end Go.Am

namespace Go.Am
noncomputable section
open Go Go.RowKit
variable {H : Type} {enc : TypeId × Value → H} {P : Program} {w : World} {base : Nat} {sp : Nat → Bool} {held : Bool}


theorem slice_impW {t e : TypeId} {ks : List Kd} {m fuel : Nat} {v : Value} {x : DataW H × List MemPlace} (hu : P.underlying t = some (.slice e)) (hk : leaves P m e = some ks) (hc : P.cellsOf e = ks.length) (hf : flatK ks = true) (hpos : 0 < ks.length)
    (h : DataW.trod enc P w base sp held fuel t [v] = some x) : ∃ l : List (Tup ks), l.length ≤ maxLen ∧ (∀ x ∈ l, WfT ks x) ∧ ∀ (G : Gl) (GB : Nat), ImpOK G GB w (.vec ks l) v := by
  have hbound : ∀ a n cap, v = .slice (some a) n cap → n ≤ maxLen := fun a n cap e => by
    rcases DataW.trod_slice hu h with ⟨h1, _⟩ | ⟨a', n', cap', _, _, _, _, h1, _, _, h2, h3, _⟩
    · rw [e] at h1; simp at h1
    · rw [e] at h1; simp at h1; omega
  rcases trod_slice_get hu h with rfl | ⟨a, n, cap, f, rfl, hn, hel⟩
  · exact ⟨[], by simp, by simp, fun G GB => ImpOK.nil_vec hf hpos fun h0 r0 H hno => ⟨r0, .refl _, by simpa [imp] using H, by simpa [imp] using VR.scal (r := r0) (.slice none 0 0) rfl, by simpa [imp] using hno⟩⟩
  · obtain ⟨l, h1, h2, h3⟩ := rows_of (enc := enc) (sp := sp) (held := held) (a := a) hk hc n fun i hi => by
      obtain ⟨cs, y, g1, g2⟩ := hel i hi
      exact ⟨cs, y, f, g1, g2⟩
    refine ⟨l, by rw [h1]; exact hbound _ _ _ rfl, h2, fun G GB h0 r0 H hno => ?_⟩
    cases n with
    | zero =>
      have hl : l = [] := List.length_eq_zero_iff.1 h1
      subst hl
      obtain ⟨a1, a2, a3⟩ := H.nothing hf hpos [] rfl false
      refine ⟨_, Ren.le_put H _, by simpa [imp] using a1, ?_, fun k hk => hno k (a3 k (by simpa [imp] using hk))⟩
      simpa [imp] using VR.vsl (K0 + h0.length) 0 ks.length _ (.slice (some a) 0 cap) (Ren.put_self ..) (by omega) ⟨rfl, hpos, .inl ⟨rfl, .inr ⟨a, cap, rfl⟩, .of_len rfl⟩⟩ (by simp)
    | succ n =>
      obtain ⟨b, off, spot⟩ := a
      have hx0 : ∃ x, l[0]? = some x := ⟨_, List.getElem?_eq_getElem (by omega)⟩
      obtain ⟨x0, hx0⟩ := hx0
      have hv0 : ∃ v, (toVs ks x0)[0]? = some v := ⟨_, List.getElem?_eq_getElem (by rw [toVs_len]; exact hpos)⟩
      obtain ⟨v0, hv0⟩ := hv0
      have hc0 := h3 0 x0 hx0 0 v0 hv0
      have hspot : spot = none := by simpa [Addr.add] using World.cell?_spot hc0
      subst hspot
      have hblk := World.block_lt_of_cell? w _ hc0
      have hb : b < w.heap.size := by
        unfold Addr.add at hblk
        split at hblk <;> exact hblk
      have hmul : l.length * ks.length ≤ cap * ks.length := Nat.mul_le_mul_right _ (by omega)
      obtain ⟨a1, a2, a3⟩ := H.addRO (.vec ks l false) ⟨b, off, off + cap * ks.length, l.length * ks.length, ks.length⟩ rfl hb (hno b) ⟨hf, ⟨rfl, hpos, rfl⟩, fun h => by omega, fun _ => ⟨by simp only; omega, fun i x hi j c hj => by
        have := h3 i x hi j c hj
        unfold Addr.add at this
        split at this
        · rename_i hz; rw [show off + i * ks.length + j = off by omega]; exact this
        · rw [Nat.add_assoc]; exact this, fun h => by cases h⟩⟩
      refine ⟨_, Ren.le_put H _, by simpa [imp] using a1, ?_, fun k hk => hno k (a3 k (by simpa [imp] using hk))⟩
      simpa [imp] using VR.vsl (K0 + h0.length) l.length ks.length _ (.slice (some ⟨b, off, none⟩) (n + 1) cap) (Ren.put_self ..) (by omega) ⟨rfl, hpos, .inr ⟨by omega, by simp, cap, ⟨by omega, by simpa using Nat.mul_le_mul_right _ (by omega)⟩, by simp, by rw [h1]; simp⟩⟩ rfl

theorem v_impW {t : TypeId} {ks : List Kd} {v : Value} {d : DataW H} {ps : List MemPlace} {r : Reach} {b0 : Nat} (h : shOk P t (.v ks) = true) (hv : Value.okWide P w r b0 t v) (hd : DataW.Trod enc P w base sp held t v d ps) : ∃ l : List (Tup ks), l.length ≤ maxLen ∧ (∀ x ∈ l, WfT ks x) ∧ ∀ (G : Gl) (GB : Nat), ImpOK G GB w (.vec ks l) v := by
  simp only [shOk] at h
  obtain ⟨f, hf⟩ := hd
  split at h
  · rename_i e he
    simp only [Bool.and_eq_true, Nat.blt_eq, Nat.beq_eq] at h
    obtain ⟨h2, h3, h4, h5⟩ := h
    unfold elT at he
    split at he
    · rename_i hu
      cases he
      rw [okWide_one hu (.inr (.inr (.inr ⟨_, rfl⟩))) hv] at hf
      exact slice_impW hu (sameK_eq h5) h4 h2 h3 hf
    · cases he
  · cases h

end
end Go.Am
