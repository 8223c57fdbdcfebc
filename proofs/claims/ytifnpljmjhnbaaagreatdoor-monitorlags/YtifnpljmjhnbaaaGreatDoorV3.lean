/-
  A part of the proof of the statement that the claim names: see the last file.
-/
import Derived.Test.YtifnpljmjhnbaaaGreatDoorV2
import Derived.Test.YtifnpljmjhnbaaaGreatDoorV1
namespace Go.Proofs.YtifnpljmjhnbaaaGreatDoor
open Go Go.Am Go.RowKit Ieee
set_option maxRecDepth 100000
variable {w0 : World}
noncomputable section


def ni (x : Nat) : Bool := match FloatKind.f32.decode x with
  | .number _ _ _ => false
  | _ => true
def grdN (M : Nat) : Int := bif Nat.ble M tenU && decide (qU ∣ 16 * M) then 0 else 3
def grd (x : Nat) : Int := match FloatKind.f32.decode x with
  | .number _ m e => grdN (m * 2 ^ (e + 1200).toNat)
  | _ => 3
def chkF (x : Nat) : Int := bif ni x then 1 else grd x
theorem dec_eq (x : Nat) : FloatKind.f32.decode x = single.read x := rfl
theorem fin_ok {x : Nat} {s : Bool} {M K : Nat} {E : Int} (h : Num single x s M K E) : ∃ y, floatToFloatBits .f32 x .f64 = some y ∧ y < 18446744073709551616 ∧ (FloatKind.f64.format.order y y != some .eq) = false ∧
    (FloatKind.f64.format.order (y % 9223372036854775808) 9218868437227405311 == some .gt) = false := by
  obtain ⟨y, K2, E2, hy, N2, hy64⟩ := dbl_ok h
  obtain ⟨NX, hX, hXl⟩ := numX
  have hsm := Num.small fmtS h.rd
  rw [h.val] at hsm
  refine ⟨y, hy, hy64, ?_, ?_⟩
  · show (double.order y y != some .eq) = false
    rw [N2.order fmtD N2, ord_ne, decide_eq_true rfl]
    rfl
  · show (double.order (y % double.signWeight) 9218868437227405311 == some .gt) = false
    rw [(read_abs N2).order fmtD hX, ord_gt, decide_eq_false_iff_not]
    exact (sgn_le (s := false) (M := M) (T := NX) (by omega)).2
theorem fn204 (x : Nat) : FnD (cfg w0) 204 [F32 x] (Bo (ni x)) := by
  refine FnD.scal (vs := [.float .f32 x]) (by simp [scal]) rfl fun w hw => ?_
  cases hx : FloatKind.f32.decode x with
  | nan s t =>
    rw [show ni x = true by unfold ni; rw [hx]]
    refine (Tryz.inf204_nan x w ⟨s, t, hx⟩).mono fun e w' ⟨h1, h2⟩ => ⟨h1, ?_⟩
    rw [h2]; exact (Below.refl _ _).drew
  | infinity s =>
    rw [show ni x = true by unfold ni; rw [hx]]
    have hy : floatToFloatBits .f32 x .f64 = some (FloatKind.f64.encode (.infinity s)) := by unfold floatToFloatBits; rw [if_neg (by decide), hx]
    have := Tryz.inf204 x _ w hy (by cases s <;> decide) (by cases s <;> decide)
    rw [show (FloatKind.f64.format.order (FloatKind.f64.encode (.infinity s) % 9223372036854775808) 9218868437227405311 == some .gt) = true by cases s <;> decide] at this
    refine this.mono fun e w' ⟨h1, h2⟩ => ⟨h1, ?_⟩
    rw [← h2]; exact Below.refl _ _
  | number s m e =>
    rw [show ni x = false by unfold ni; rw [hx]]
    obtain ⟨hN, _⟩ := Num.read (f := single) hx
    obtain ⟨y, hy, b1, b2, b3⟩ := fin_ok hN
    have := Tryz.inf204 x y w hy b1 b2
    rw [b3] at this
    refine this.mono fun e w' ⟨h1, h2⟩ => ⟨h1, ?_⟩
    rw [← h2]; exact Below.refl _ _
theorem grd_num {x : Nat} {s : Bool} {m : Nat} {e : Int} (hx : FloatKind.f32.decode x = .number s m e) : grd x = grdN (m * 2 ^ (e + 1200).toNat) := by unfold grd; rw [hx]
theorem fn205 (x : Nat) : FnD (cfg w0) 205 [F32 x, F32 1149239296] (I (grd x)) := by
  refine FnD.scal (vs := [.float .f32 x, .float .f32 1149239296]) (by simp [scal]) rfl fun w hw => ?_
  have hlt : ∀ {v : Int}, (FloatKind.f32.format.order x 3296722944 == some .lt) = true → v = 3 → Calls (cfg w0).P 205 #[.float .f32 x, .float .f32 1149239296] w fun e w' => e = .returned (.int .i64 v) ∧ Below w.heap.size w w' := fun h1 hv => by
    subst hv
    refine (Tryz.grid205_lt x w h1).mono fun e w' ⟨h1, h2⟩ => ⟨h1, ?_⟩
    rw [← h2]; exact Below.refl _ _
  have hgt : ∀ {v : Int}, (FloatKind.f32.format.order x 3296722944 == some .lt) = false → (FloatKind.f32.format.order x 1149239296 == some .gt) = true → v = 3 → Calls (cfg w0).P 205 #[.float .f32 x, .float .f32 1149239296] w fun e w' => e = .returned (.int .i64 v) ∧ Below w.heap.size w w' := fun h1 h2 hv => by
    subst hv
    refine (Tryz.grid205_gt x w h1 h2).mono fun e w' ⟨h1, h2⟩ => ⟨h1, ?_⟩
    rw [← h2]; exact Below.refl _ _
  cases hx : FloatKind.f32.decode x with
  | nan s t =>
    rw [show grd x = 3 by unfold grd; rw [hx]]
    refine Tryz.grid205_nan x w ⟨s, t, hx⟩ ?_
    show single.mul 1098907648 x = none
    unfold Format.mul
    rw [show single.read x = .nan s t from hx]
    cases single.read 1098907648 <;> rfl
  | infinity s =>
    have hr : single.read x = .infinity s := hx
    have hg : grd x = 3 := by unfold grd; rw [hx]
    cases s with
    | true => exact hlt (by show (single.order x 3296722944 == some .lt) = true; unfold Format.order; rw [hr, numTn.rd]; rfl) hg
    | false => exact hgt (by show (single.order x 3296722944 == some .lt) = false; unfold Format.order; rw [hr, numTn.rd]; rfl) (by show (single.order x 1149239296 == some .gt) = true; unfold Format.order; rw [hr, numT.rd]; rfl) hg
  | number s m e =>
    obtain ⟨hN, _⟩ := Num.read (f := single) hx
    rw [grd_num hx]
    generalize m * 2 ^ (e + 1200).toNat = M at hN
    by_cases hM : M ≤ tenU
    · obtain ⟨m16, y, y2, z, n, S⟩ := smp_all hN hM
      have := Tryz.grid205 x m16 y2 z w S.b4 S.b5 S.hm S.h2 S.b6 S.hz
      rw [S.b7] at this
      have hv : grdN M = bif (!decide (qU ∣ 16 * M)) then 3 else 0 := by
        unfold grdN
        rw [(Nat.ble_eq ..).mpr hM]
        cases decide (qU ∣ 16 * M) <;> rfl
      rw [hv]
      refine this.mono fun e w' ⟨h1, h2⟩ => ⟨h1, ?_⟩
      rw [← h2]; exact Below.refl _ _
    · have hg : grdN M = 3 := by
        unfold grdN
        have : Nat.ble M tenU = false := by
          cases hb : Nat.ble M tenU with
          | false => rfl
          | true => exact absurd (Nat.le_of_ble_eq_true hb) hM
        rw [this]
        rfl
      have o1 : (FloatKind.f32.format.order x 3296722944 == some .lt) = decide (sgn s M < sgn true tenU) := by
        show (single.order x 3296722944 == some .lt) = _
        rw [hN.order fmtS numTn, ord_lt]
      have o2 : (FloatKind.f32.format.order x 1149239296 == some .gt) = decide (sgn false tenU < sgn s M) := by
        show (single.order x 1149239296 == some .gt) = _
        rw [hN.order fmtS numT, ord_gt]
      cases s with
      | true => exact hlt (by rw [o1, decide_eq_true_eq]; unfold sgn; simp; omega) hg
      | false => exact hgt (by rw [o1, decide_eq_false_iff_not]; unfold sgn; simp) (by rw [o2, decide_eq_true_eq]; unfold sgn; simp; omega) hg
end
end Go.Proofs.YtifnpljmjhnbaaaGreatDoor

namespace Go.Proofs.YtifnpljmjhnbaaaGreatDoor
open Go Go.Am Go.RowKit Ieee
set_option maxRecDepth 100000
variable {w0 : World}
noncomputable section


theorem sub_self {x : Nat} {s : Bool} {m : Nat} {e : Int} (h : single.read x = .number s m e) : single.sub x x = some 0 := by
  unfold Format.sub
  rw [h]
  have ht : signed s m (e - min e e).toNat + signed (!s) m (e - min e e).toNat = 0 := by
    rw [signed_eq, signed_eq]
    cases s <;> simp <;> omega
  show Option.map single.write (some (Datum.number (if signed s m (e - min e e).toNat + signed (!s) m (e - min e e).toNat = 0 then s && !s else decide (signed s m (e - min e e).toNat + signed (!s) m (e - min e e).toNat < 0)) (signed s m (e - min e e).toNat + signed (!s) m (e - min e e).toNat).natAbs (min e e))) = some 0
  rw [ht, if_pos rfl, Bool.and_not_self]
  rfl
theorem pw_eq2 {a b : Nat} (h : a + 38 = b) : 4503599627370496 * 2 ^ a = 16 * (1024 * 2 ^ b) := by
  rw [show (4503599627370496 : Nat) = 2 ^ 52 from rfl, show (1024 : Nat) = 2 ^ 10 from rfl, show (16 : Nat) = 2 ^ 4 from rfl, ← Nat.pow_add, ← Nat.pow_add, ← Nat.pow_add, ← h, show 52 + a = 4 + (10 + (a + 38)) by omega]
theorem numD : Num double 4670232813583204352 false (16 * tenU) 4503599627370496 (-38) := by
  refine ⟨by decide, ?_, by decide, by decide⟩
  unfold tenU qU
  exact pw_eq2 (by decide)
theorem numDn : Num double 13893604850437980160 true (16 * tenU) 4503599627370496 (-38) := by
  refine ⟨by decide, ?_, by decide, by decide⟩
  unfold tenU qU
  exact pw_eq2 (by decide)
theorem mul_lt {M a b : Nat} (h : M < 2 ^ a) (hab : 4 + a ≤ b) : 16 * M < 2 ^ b := by
  have : 16 * M < 2 ^ 4 * 2 ^ a := Nat.mul_lt_mul_of_pos_left h (by omega)
  rw [← Nat.pow_add] at this
  exact lt_pow this hab
theorem sgn_zero (s t : Bool) : sgn s 0 = sgn t 0 := by unfold sgn; simp
theorem signed_one (s : Bool) (c : Nat) : signed s c 0 = (bif s then -1 else 1) * (c : Int) := by rw [signed_eq]; simp
theorem int_ok (s : Bool) {c : Nat} (hc : c ≤ 16385) : ∃ K E t, Num double (floatOfInt .f64 (signed s c 0)) t (c * qU) K E ∧ sgn t (c * qU) = sgn s (c * qU) := by
  have e1200 : ((0 : Int) + 1200).toNat = xU := by decide
  have hx := xU_eq
  have htd := topD_eq
  obtain ⟨K, E, N⟩ := Num.write fmtD (decide (signed s c 0 < 0)) (m := c) (e := 0) (by omega) (m0 := c) (k := xU) (by rw [e1200]) (Nat.lt_of_lt_of_le (show c < 16386 by omega) (by decide)) (by omega) (by rw [e1200]; exact whole_lt hc (by omega))
  rw [e1200] at N
  have hn : (signed s c 0).natAbs = c := by
    rw [signed_one]
    cases s <;> simp
  refine ⟨K, E, decide (signed s c 0 < 0), ?_, ?_⟩
  · have hf : floatOfInt .f64 (signed s c 0) = double.write (.number (decide (signed s c 0 < 0)) c 0) := by
      unfold floatOfInt FloatKind.nearest FloatKind.encode
      rw [hn]
      rfl
    rw [hf]
    exact N
  · by_cases h0 : c = 0
    · subst h0
      rw [Nat.zero_mul]
      exact sgn_zero _ _
    · have : decide (signed s c 0 < 0) = s := by
        rw [signed_one]
        cases s
        · rw [decide_eq_false_iff_not]; simp
        · rw [decide_eq_true_eq]; simp; omega
      rw [this]
theorem fn206 (x : Nat) : FnD (cfg w0) 206 [F32 x, I 16384] (I (chkF x)) := by
  refine FnD.scal (vs := [.float .f32 x, .int .i64 16384]) (by simp [scal]) rfl fun w hw => ?_
  have hbad : ni x = true → floatBits .sub .f32 x x = none → Calls (cfg w0).P 206 #[.float .f32 x, .int .i64 16384] w fun e w' => e = .returned (.int .i64 (chkF x)) ∧ Below w.heap.size w w' := fun hni hn => by
    have hc : chkF x = 1 := by unfold chkF; rw [hni]; rfl
    rw [hc]
    refine (Tryz.part206_bad x w hn).mono fun e w' ⟨h1, h2⟩ => ⟨h1, ?_⟩
    rw [h2]; exact (Below.refl _ _).drew
  cases hx : FloatKind.f32.decode x with
  | nan s t =>
    refine hbad (by unfold ni; rw [hx]) ?_
    show single.sub x x = none
    unfold Format.sub
    rw [show single.read x = .nan s t from hx]
    rfl
  | infinity s =>
    refine hbad (by unfold ni; rw [hx]) ?_
    show single.sub x x = none
    unfold Format.sub
    rw [show single.read x = .infinity s from hx]
    cases s <;> rfl
  | number s m e =>
    obtain ⟨hN, _⟩ := Num.read (f := single) hx
    have hsm := Num.small fmtS (f := single) hx
    have hc : chkF x = grdN (m * 2 ^ (e + 1200).toNat) := by
      unfold chkF
      rw [show ni x = false by unfold ni; rw [hx], grd_num hx]
      rfl
    rw [hc]
    clear hc
    generalize m * 2 ^ (e + 1200).toNat = M at hN hsm
    have hs : floatBits .sub .f32 x x = some 0 := sub_self (show single.read x = .number s m e from hx)
    have hz : (FloatKind.f32.format.order 0 0 != some .eq) = false := by decide
    obtain ⟨y, K2, E2, hy, N2, _⟩ := dbl_ok hN
    obtain ⟨m16, K3, E3, hm, N3⟩ := mul16 fmtD (by omega) readD16 (by omega) N2 (mul_lt hsm (by decide))
    have o1 : (FloatKind.f64.format.order m16 13893604850437980160 == some .lt) = decide (sgn s (16 * M) < sgn true (16 * tenU)) := by
      show (double.order m16 _ == some .lt) = _
      rw [N3.order fmtD numDn, ord_lt]
    have o2 : (FloatKind.f64.format.order m16 4670232813583204352 == some .gt) = decide (sgn false (16 * tenU) < sgn s (16 * M)) := by
      show (double.order m16 _ == some .gt) = _
      rw [N3.order fmtD numD, ord_gt]
    by_cases hM : M ≤ tenU
    · have h16 : 16 * M / qU ≤ 16384 := by
        unfold tenU at hM
        exact Nat.le_of_lt_succ ((Nat.div_lt_iff_lt_mul qU_pos).2 (by have := qU_pos; omega))
      obtain ⟨c0, hc0, hcl, hce⟩ := N3.integral fmtD .zero
      have hn : floatToIntVal .f64 m16 .i64 = some (signed s c0 0) := by
        unfold floatToIntVal Datum.toInt FloatKind.decode
        rw [show ((FloatKind.f64.format.read m16).integral .zero) = .number s c0 0 from hc0]
        simp only
        rw [if_pos]
        have hmin : IntKind.i64.min = -9223372036854775808 := by decide
        have hmax : IntKind.i64.max = 9223372036854775807 := by decide
        rw [signed_one, hmin, hmax]
        cases s <;> simp <;> omega
      obtain ⟨K4, E4, t, N4, ht⟩ := int_ok s (c := c0) (by omega)
      have h3 : (FloatKind.f64.format.order (floatOfInt .f64 (signed s c0 0)) m16 != some .eq) = !decide (qU ∣ 16 * M) := by
        show (double.order _ m16 != some .eq) = _
        rw [N4.order fmtD N3, ord_ne, ht]
        congr 1
        rw [Bool.eq_iff_iff, decide_eq_true_eq, decide_eq_true_eq, sgn_inj]
        exact ⟨fun e => ⟨c0, by rw [← e, Nat.mul_comm]⟩, fun hd => hce hd⟩
      have hsl := sgn_le (s := s) (M := 16 * M) (T := 16 * tenU) (by omega)
      have := Tryz.part206_in x 0 y m16 w hs hz hy hm (signed s c0 0) _ (by rw [o1, decide_eq_false_iff_not]; exact hsl.1) (by rw [o2, decide_eq_false_iff_not]; exact hsl.2) hn h3
      have hv : grdN M = bif (!decide (qU ∣ 16 * M)) then 3 else 0 := by
        unfold grdN
        rw [(Nat.ble_eq ..).mpr hM]
        cases decide (qU ∣ 16 * M) <;> rfl
      rw [hv]
      refine this.mono fun e w' ⟨h1, h2⟩ => ⟨h1, ?_⟩
      rw [h2]; exact Below.refl _ _
    · have hg : grdN M = 3 := by
        unfold grdN
        have : Nat.ble M tenU = false := by
          cases hb : Nat.ble M tenU with
          | false => rfl
          | true => exact absurd (Nat.le_of_ble_eq_true hb) hM
        rw [this]
        rfl
      rw [hg]
      cases s with
      | true =>
        refine (Tryz.part206_lt x 0 y m16 w hs hz hy hm (by rw [o1, decide_eq_true_eq]; unfold sgn; simp; omega)).mono fun e w' ⟨h1, h2⟩ => ⟨h1, ?_⟩
        rw [h2]; exact Below.refl _ _
      | false =>
        refine (Tryz.part206_gt x 0 y m16 w hs hz hy hm (by rw [o1, decide_eq_false_iff_not]; unfold sgn; simp; omega) (by rw [o2, decide_eq_true_eq]; unfold sgn; simp; omega)).mono fun e w' ⟨h1, h2⟩ => ⟨h1, ?_⟩
        rw [h2]; exact Below.refl _ _
end
end Go.Proofs.YtifnpljmjhnbaaaGreatDoor
