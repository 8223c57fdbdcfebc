/-
  A part of the proof of the statement that the claim names: see the last file.
-/
import Derived.Test.YtifnpljmjhnbaaaGreatDoorL1
namespace Go.Proofs
open Go.RowKit


theorem run_float_nan {P : Program} {w : World} (op : BinOp) (t : TypeId) (k : FloatKind) (x y : Nat) (ha : op = .mul ∨ op = .sub) (h : floatBits op k x y = none) :
    (binOp op t (.float k x) (.float k y)).run P w = .ok (.float k ((Question.nanBits k x y).cut (w.tape w.drawn (.nanBits k x y)))) w.drew := by
  unfold floatBits at h
  rcases ha with rfl | rfl
  · simp only at h
    simp [binOp, Op.floatArith, h, Question.forced]
  · simp only at h
    simp [binOp, Op.floatArith, h, Question.forced]
theorem nan_read32 (x y t : Nat) : ∃ s f, FloatKind.f32.format.read ((Question.nanBits .f32 x y).cut t) = .nan s f := by
  unfold Question.cut
  show ∃ s f, Ieee.single.read ((t % 2) * 2 ^ 31 + 0x7f800000 + 1 + (t / 2) % (2 ^ 23 - 1)) = .nan s f
  unfold Ieee.Format.read
  have hS : Ieee.single.signWeight = 2147483648 := by decide
  have hB : Ieee.single.binade = 8388608 := by decide
  have hI : Ieee.single.infRung = 2139095040 := by decide
  simp only [hS, hB, hI]
  have h1 : ((t % 2) * 2 ^ 31 + 0x7f800000 + 1 + (t / 2) % (2 ^ 23 - 1)) % 2147483648 = 2139095041 + (t / 2) % 8388607 := by omega
  rw [h1, if_neg (by omega), if_neg (by omega), if_neg (by omega)]
  exact ⟨_, _, rfl⟩
theorem run_conv_any {P : Program} (src dst : TypeId) (s k : FloatKind) (hs : (P.underlying src).isSome = true) (hd : P.underlying dst = some (.float k)) (b : Nat) (w : World) :
    ∃ z w', (convert src dst (.float s b)).run P w = .ok (.float k z) w' ∧ (w' = w ∨ w' = w.drew) := by
  obtain ⟨u, hs'⟩ := Option.isSome_iff_exists.1 hs
  by_cases hne : s = k
  · subst hne
    exact ⟨b, w, by cases u <;> simp [convert, run_underlying hs', run_underlying hd, Conv.floatToFloat], .inl rfl⟩
  cases hc : s.decode b with
  | nan a t => exact ⟨_, w.drew, by cases u <;> simp [convert, run_underlying hs', run_underlying hd, Conv.floatToFloat, hne, hc, Question.forced] <;> rfl, .inr rfl⟩
  | infinity a => exact ⟨_, w, by cases u <;> simp [convert, run_underlying hs', run_underlying hd, Conv.floatToFloat, hne, hc] <;> rfl, .inl rfl⟩
  | number a m e =>
    cases hi : (k.decode (k.encode (.number a m e))).isInfinity with
    | true => exact ⟨_, w.drew, by cases u <;> simp [convert, run_underlying hs', run_underlying hd, Conv.floatToFloat, hne, hc, hi, Question.forced] <;> rfl, .inr rfl⟩
    | false => exact ⟨_, w, by cases u <;> simp [convert, run_underlying hs', run_underlying hd, Conv.floatToFloat, hne, hc, hi] <;> rfl, .inl rfl⟩
theorem nan_read64 (q : Nat) (t : Nat) : ∃ s f, FloatKind.f64.format.read ((Question.nanConv .f64 q).cut t) = .nan s f := by
  unfold Question.cut
  show ∃ s f, Ieee.double.read ((t % 2) * 2 ^ 63 + 0x7ff0000000000000 + 1 + (t / 2) % (2 ^ 52 - 1)) = .nan s f
  unfold Ieee.Format.read
  have hS : Ieee.double.signWeight = 9223372036854775808 := by decide
  have hB : Ieee.double.binade = 4503599627370496 := by decide
  have hI : Ieee.double.infRung = 9218868437227405312 := by decide
  simp only [hS, hB, hI]
  have h1 : ((t % 2) * 2 ^ 63 + 0x7ff0000000000000 + 1 + (t / 2) % (2 ^ 52 - 1)) % 9223372036854775808 = 9218868437227405313 + (t / 2) % 4503599627370495 := by omega
  rw [h1, if_neg (by omega), if_neg (by omega), if_neg (by omega)]
  exact ⟨_, _, rfl⟩
theorem order_nanR {f : Ieee.Format} {y : Nat} (h : ∃ s t, f.read y = .nan s t) (x : Nat) : f.order x y = none := by
  obtain ⟨s, t, h⟩ := h
  unfold Ieee.Format.order
  rw [h]
  cases f.read x <;> rfl
theorem order_nanL {f : Ieee.Format} {x : Nat} (h : ∃ s t, f.read x = .nan s t) (y : Nat) : f.order x y = none := by
  obtain ⟨s, t, h⟩ := h
  unfold Ieee.Format.order
  rw [h]
  rfl
theorem run_conv_nan {P : Program} (src dst : TypeId) (s k : FloatKind) (hne : s ≠ k) (hs : (P.underlying src).isSome = true) (hd : P.underlying dst = some (.float k)) (b : Nat) (hb : ∃ a t, s.decode b = .nan a t) (w : World) :
    (convert src dst (.float s b)).run P w = .ok (.float k ((Question.nanConv k b).cut (w.tape w.drawn (.nanConv k b)))) w.drew := by
  obtain ⟨a, t, hc⟩ := hb
  obtain ⟨u, hs'⟩ := Option.isSome_iff_exists.1 hs
  cases u <;> simp [convert, run_underlying hs', run_underlying hd, Conv.floatToFloat, hne, hc, Question.forced]
theorem Tryz.inf204_nan (x : Nat) (w : World) (hx : ∃ s t, FloatKind.f32.decode x = .nan s t) :
    Calls Tryz.prog 204 #[.float .f32 x] w fun e w' => e = .returned (.bool true) ∧ w' = w.drew := by
  have hcv : ∀ w, (convert 139 281 (.float .f32 x)).run Tryz.prog w = _ := fun w => run_conv_nan (P := Tryz.prog) 139 281 .f32 .f64 (by decide) (by rw [Tryz.underlying139]; rfl) Tryz.underlying281 x hx w
  have h217 : ∀ t W, Calls Tryz.prog 217 #[.float .f64 ((Question.nanConv .f64 x).cut t)] W fun e w' => e = .returned (.bool true) ∧ W = w' := fun t W => by
    have := Tryz.nan217 ((Question.nanConv .f64 x).cut t) W
    rw [order_nanL (nan_read64 x t)] at this
    exact this
  go_enter Tryz.func204, Tryz.ntmps204
  go_wp2_with (first | (go_at_call 217; refine (h217 _ _).mono ?_; rintro e w' ⟨rfl, rfl⟩))
  all_goals go_ret
  all_goals exact ⟨rfl, rfl⟩
theorem Tryz.grid205_lt (x : Nat) (w : World) (h1 : (FloatKind.f32.format.order x 3296722944 == some .lt) = true) :
    Calls Tryz.prog 205 #[.float .f32 x, .float .f32 1149239296] w fun e w' => e = .returned (.int .i64 3) ∧ w = w' := by
  have hneg : ∀ w, (Op.unary .neg (.float .f32 1149239296)).run Tryz.prog w = .ok (.float .f32 3296722944) w := fun w => by kernel_rfl
  go_enter Tryz.func205, Tryz.ntmps205
  go_wp2_with (first | (go_at_call 203; refine (Tryz.when203 _ _ _).mono ?_; rintro e w' ⟨rfl, rfl⟩))
  all_goals go_ret
  all_goals exact ⟨rfl, rfl⟩
theorem Tryz.grid205_gt (x : Nat) (w : World) (h1 : (FloatKind.f32.format.order x 3296722944 == some .lt) = false) (h2 : (FloatKind.f32.format.order x 1149239296 == some .gt) = true) :
    Calls Tryz.prog 205 #[.float .f32 x, .float .f32 1149239296] w fun e w' => e = .returned (.int .i64 3) ∧ w = w' := by
  have hneg : ∀ w, (Op.unary .neg (.float .f32 1149239296)).run Tryz.prog w = .ok (.float .f32 3296722944) w := fun w => by kernel_rfl
  go_enter Tryz.func205, Tryz.ntmps205
  go_wp2_with (first | (go_at_call 203; refine (Tryz.when203 _ _ _).mono ?_; rintro e w' ⟨rfl, rfl⟩))
  all_goals go_ret
  all_goals exact ⟨rfl, rfl⟩
end Go.Proofs

namespace Go.Proofs
open Go.RowKit


theorem Tryz.run229_any (x : Nat) (w : World) : ∃ z w', (callFunc 229 #[.float .f64 x]).run Tryz.prog w = .ok (.value (.float .f64 z)) w' ∧ (w' = w ∨ w' = w.drew) := by
  by_cases hx : ∀ s t, FloatKind.f64.decode x ≠ .nan s t
  · exact ⟨_, w, Tryz.run229 x hx w, .inl rfl⟩
  · have hx : ∃ s t, FloatKind.f64.decode x = .nan s t := Classical.byContradiction fun h => hx fun s t e => h ⟨s, t, e⟩
    obtain ⟨s, t, hx⟩ := hx
    rw [run_callFunc_extern Tryz.func229 (by kernel_rfl) (by kernel_rfl) (by kernel_rfl) (e := Extern.MathFloor.toIntegral "math.archFloor" .down) (by kernel_rfl)]
    by_cases hq : FloatKind.f64.format.quiet t = t
    · have : (Extern.MathFloor.toIntegral "math.archFloor" .down #[.float .f64 x]).run Tryz.prog w = .ok (.float .f64 x) w := by
        show Sem.run Tryz.prog (match FloatKind.f64.decode x with
          | .nan s t => _
          | d => _) w = _
        simp only [hx]
        rw [if_pos hq]
        rfl
      exact ⟨x, w, by rw [this]; rfl, .inl rfl⟩
    · have : (Extern.MathFloor.toIntegral "math.archFloor" .down #[.float .f64 x]).run Tryz.prog w = .ok (.float .f64 (if ((Question.extern "math.Floor,Ceil,Trunc,RoundToEven.signallingNaN kept" 2).cut (w.tape w.drawn (.extern "math.Floor,Ceil,Trunc,RoundToEven.signallingNaN kept" 2))) == 1 then x else FloatKind.f64.encode (.nan s (FloatKind.f64.format.quiet t)))) w.drew := by
        show Sem.run Tryz.prog (match FloatKind.f64.decode x with
          | .nan s t => _
          | d => _) w = _
        simp only [hx]
        rw [if_neg hq]
        rfl
      exact ⟨_, w.drew, by rw [this]; rfl, .inr rfl⟩
noncomputable def zF (x : Nat) (w : World) : Nat := Classical.choose (Tryz.run229_any x w)
noncomputable def wF (x : Nat) (w : World) : World := Classical.choose (Classical.choose_spec (Tryz.run229_any x w))
theorem wF_spec (x : Nat) (w : World) : (callFunc 229 #[.float .f64 x]).run Tryz.prog w = .ok (.value (.float .f64 (zF x w))) (wF x w) ∧ (wF x w = w ∨ wF x w = w.drew) :=
  Classical.choose_spec (Classical.choose_spec (Tryz.run229_any x w))
theorem Tryz.floor_any (x : Nat) (w : World) : Calls Tryz.prog 219 #[.float .f64 x] w fun e w' => e = .returned (.float .f64 (zF x w)) ∧ w' = wF x w := by
  have hr := fun w => (wF_spec x w).1
  go_enter Tryz.func219, Tryz.ntmps219
  go_wp2
  go_ret
  exact ⟨rfl, rfl⟩
end Go.Proofs

namespace Go.Proofs
open Go.RowKit


abbrev nB (k : FloatKind) (x y : Nat) (w : World) : Nat := (Question.nanBits k x y).cut (w.tape w.drawn (.nanBits k x y))
noncomputable def zC (x : Nat) (w : World) : Nat := Classical.choose (run_conv_any (P := Tryz.prog) 139 281 .f32 .f64 (by rw [Tryz.underlying139]; rfl) Tryz.underlying281 x w)
noncomputable def wC (x : Nat) (w : World) : World := Classical.choose (Classical.choose_spec (run_conv_any (P := Tryz.prog) 139 281 .f32 .f64 (by rw [Tryz.underlying139]; rfl) Tryz.underlying281 x w))
theorem wC_spec (x : Nat) (w : World) : (convert 139 281 (.float .f32 x)).run Tryz.prog w = .ok (.float .f64 (zC x w)) (wC x w) ∧ (wC x w = w ∨ wC x w = w.drew) :=
  Classical.choose_spec (Classical.choose_spec (run_conv_any (P := Tryz.prog) 139 281 .f32 .f64 (by rw [Tryz.underlying139]; rfl) Tryz.underlying281 x w))
noncomputable def zB (x : Nat) (w : World) : Nat := Classical.choose (run_conv_any (P := Tryz.prog) 281 139 .f64 .f32 (by rw [Tryz.underlying281]; rfl) Tryz.underlying139 x w)
noncomputable def wB (x : Nat) (w : World) : World := Classical.choose (Classical.choose_spec (run_conv_any (P := Tryz.prog) 281 139 .f64 .f32 (by rw [Tryz.underlying281]; rfl) Tryz.underlying139 x w))
theorem wB_spec (x : Nat) (w : World) : (convert 281 139 (.float .f64 x)).run Tryz.prog w = .ok (.float .f32 (zB x w)) (wB x w) ∧ (wB x w = w ∨ wB x w = w.drew) :=
  Classical.choose_spec (Classical.choose_spec (run_conv_any (P := Tryz.prog) 281 139 .f64 .f32 (by rw [Tryz.underlying281]; rfl) Tryz.underlying139 x w))
theorem below_or {B : Nat} {a w w' : World} (h : w' = w ∨ w' = w.drew) (hb : Below B a w) : Below B a w' := by
  rcases h with rfl | rfl
  · exact hb
  · exact hb.drew
theorem Tryz.grid205_nan (x : Nat) (w : World) (hx : ∃ s t, FloatKind.f32.format.read x = .nan s t) (hm : floatBits .mul .f32 1098907648 x = none) :
    Calls Tryz.prog 205 #[.float .f32 x, .float .f32 1149239296] w fun e w' => e = .returned (.int .i64 3) ∧ Below w.heap.size w w' := by
  have hneg : ∀ w, (Op.unary .neg (.float .f32 1149239296)).run Tryz.prog w = .ok (.float .f32 3296722944) w := fun w => by kernel_rfl
  have h1 : (FloatKind.f32.format.order x 3296722944 == some .lt) = false := by rw [order_nanL hx]; rfl
  have h2 : (FloatKind.f32.format.order x 1149239296 == some .gt) = false := by rw [order_nanL hx]; rfl
  have hmul : ∀ t w, (binOp .mul t (.float .f32 1098907648) (.float .f32 x)).run Tryz.prog w = .ok (.float .f32 (nB .f32 1098907648 x w)) w.drew := fun t w => run_float_nan .mul t .f32 1098907648 x (.inl rfl) hm
  have hcv : ∀ y w, (convert 139 281 (.float .f32 y)).run Tryz.prog w = .ok (.float .f64 (zC y w)) (wC y w) := fun y w => (wC_spec y w).1
  have hcz : ∀ y w, (convert 281 139 (.float .f64 y)).run Tryz.prog w = .ok (.float .f32 (zB y w)) (wB y w) := fun y w => (wB_spec y w).1
  have hne : ∀ z w, (FloatKind.f32.format.order z (nB .f32 1098907648 x w) != some .eq) = true := fun z w => by rw [order_nanR (nan_read32 _ _ _)]; rfl
  go_enter Tryz.func205, Tryz.ntmps205
  go_wp2_with (first | (go_at_call 219; refine (Tryz.floor_any _ _).mono ?_; rintro e w' ⟨rfl, rfl⟩) | (go_at_call 203; refine (Tryz.when203 _ _ _).mono ?_; rintro e w' ⟨rfl, rfl⟩))
  all_goals go_ret
  all_goals refine ⟨rfl, ?_⟩
  all_goals exact (below_or (wB_spec _ _).2 (below_or (wF_spec _ _).2 (below_or (wC_spec _ _).2 (Below.refl _ _).drew))).drew
theorem Tryz.part206_bad (x : Nat) (w : World) (hx : floatBits .sub .f32 x x = none) :
    Calls Tryz.prog 206 #[.float .f32 x, .int .i64 16384] w fun e w' => e = .returned (.int .i64 1) ∧ w' = w.drew := by
  have hsub : ∀ t w, (binOp .sub t (.float .f32 x) (.float .f32 x)).run Tryz.prog w = .ok (.float .f32 (nB .f32 x x w)) w.drew := fun t w => run_float_nan .sub t .f32 x x (.inr rfl) hx
  have hne : ∀ w, (FloatKind.f32.format.order (nB .f32 x x w) 0 != some .eq) = true := fun w => by rw [order_nanL (nan_read32 _ _ _)]; rfl
  go_enter Tryz.func206, Tryz.ntmps206
  go_wp2_with (first | simp only [hsub] | simp only [hne])
  all_goals go_ret
  all_goals exact ⟨rfl, rfl⟩
theorem ofi206 : floatOfInt .f64 16384 = 4670232813583204352 := by kernel_rfl
theorem ofn206 : floatBits .sub .f64 0 4670232813583204352 = some 13893604850437980160 := by kernel_rfl
section
variable (x z y m : Nat) (w : World) (hs : floatBits .sub .f32 x x = some z) (hz : (FloatKind.f32.format.order z 0 != some .eq) = false) (hy : floatToFloatBits .f32 x .f64 = some y) (hm : floatBits .mul .f64 4625196817309499392 y = some m)
include hs hz hy hm
theorem Tryz.part206_lt (h1 : (FloatKind.f64.format.order m 13893604850437980160 == some .lt) = true) :
    Calls Tryz.prog 206 #[.float .f32 x, .int .i64 16384] w fun e w' => e = .returned (.int .i64 3) ∧ w' = w := by
  have hsub : ∀ t w, (binOp .sub t (.float .f32 x) (.float .f32 x)).run Tryz.prog w = .ok (.float .f32 z) w := fun t w => run_float_arith w .sub t .f32 x x z hs
  have hcv : ∀ w, (convert 139 281 (.float .f32 x)).run Tryz.prog w = .ok (.float .f64 y) w := fun w => run_convert_float_float w 139 281 .f32 .f64 x y (by rw [Tryz.underlying139]; rfl) Tryz.underlying281 hy
  have hmul : ∀ t w, (binOp .mul t (.float .f64 4625196817309499392) (.float .f64 y)).run Tryz.prog w = .ok (.float .f64 m) w := fun t w => run_float_arith w .mul t .f64 _ y m hm
  have hci : ∀ w, (convert 3 281 (.int .i64 16384)).run Tryz.prog w = .ok (.float .f64 4670232813583204352) w := fun w => by
    rw [run_convert_int_float (P := Tryz.prog) w 3 281 .i64 .f64 16384 (by rw [Tryz.underlying3]; rfl) Tryz.underlying281, ofi206]
  have hsb : ∀ t w, (binOp .sub t (.float .f64 0) (.float .f64 4670232813583204352)).run Tryz.prog w = .ok (.float .f64 13893604850437980160) w := fun t w => run_float_arith w .sub t .f64 0 _ _ ofn206
  go_enter Tryz.func206, Tryz.ntmps206
  go_wp2_with (first | simp only [hsub] | simp only [hmul] | simp only [hsb] | simp only [hz] | simp only [h1])
  all_goals go_ret
  all_goals exact ⟨rfl, rfl⟩
theorem Tryz.part206_gt (h1 : (FloatKind.f64.format.order m 13893604850437980160 == some .lt) = false) (h2 : (FloatKind.f64.format.order m 4670232813583204352 == some .gt) = true) :
    Calls Tryz.prog 206 #[.float .f32 x, .int .i64 16384] w fun e w' => e = .returned (.int .i64 3) ∧ w' = w := by
  have hsub : ∀ t w, (binOp .sub t (.float .f32 x) (.float .f32 x)).run Tryz.prog w = .ok (.float .f32 z) w := fun t w => run_float_arith w .sub t .f32 x x z hs
  have hcv : ∀ w, (convert 139 281 (.float .f32 x)).run Tryz.prog w = .ok (.float .f64 y) w := fun w => run_convert_float_float w 139 281 .f32 .f64 x y (by rw [Tryz.underlying139]; rfl) Tryz.underlying281 hy
  have hmul : ∀ t w, (binOp .mul t (.float .f64 4625196817309499392) (.float .f64 y)).run Tryz.prog w = .ok (.float .f64 m) w := fun t w => run_float_arith w .mul t .f64 _ y m hm
  have hci : ∀ w, (convert 3 281 (.int .i64 16384)).run Tryz.prog w = .ok (.float .f64 4670232813583204352) w := fun w => by
    rw [run_convert_int_float (P := Tryz.prog) w 3 281 .i64 .f64 16384 (by rw [Tryz.underlying3]; rfl) Tryz.underlying281, ofi206]
  have hsb : ∀ t w, (binOp .sub t (.float .f64 0) (.float .f64 4670232813583204352)).run Tryz.prog w = .ok (.float .f64 13893604850437980160) w := fun t w => run_float_arith w .sub t .f64 0 _ _ ofn206
  go_enter Tryz.func206, Tryz.ntmps206
  go_wp2_with (first | simp only [hsub] | simp only [hmul] | simp only [hsb] | simp only [hz] | simp only [h1] | simp only [h2])
  all_goals go_ret
  all_goals exact ⟨rfl, rfl⟩
theorem Tryz.part206_in (n : Int) (c : Bool) (h1 : (FloatKind.f64.format.order m 13893604850437980160 == some .lt) = false) (h2 : (FloatKind.f64.format.order m 4670232813583204352 == some .gt) = false)
    (hn : floatToIntVal .f64 m .i64 = some n) (h3 : (FloatKind.f64.format.order (floatOfInt .f64 n) m != some .eq) = c) :
    Calls Tryz.prog 206 #[.float .f32 x, .int .i64 16384] w fun e w' => e = .returned (.int .i64 (bif c then 3 else 0)) ∧ w' = w := by
  have hsub : ∀ t w, (binOp .sub t (.float .f32 x) (.float .f32 x)).run Tryz.prog w = .ok (.float .f32 z) w := fun t w => run_float_arith w .sub t .f32 x x z hs
  have hcv : ∀ w, (convert 139 281 (.float .f32 x)).run Tryz.prog w = .ok (.float .f64 y) w := fun w => run_convert_float_float w 139 281 .f32 .f64 x y (by rw [Tryz.underlying139]; rfl) Tryz.underlying281 hy
  have hmul : ∀ t w, (binOp .mul t (.float .f64 4625196817309499392) (.float .f64 y)).run Tryz.prog w = .ok (.float .f64 m) w := fun t w => run_float_arith w .mul t .f64 _ y m hm
  have hci : ∀ w, (convert 3 281 (.int .i64 16384)).run Tryz.prog w = .ok (.float .f64 4670232813583204352) w := fun w => by
    rw [run_convert_int_float (P := Tryz.prog) w 3 281 .i64 .f64 16384 (by rw [Tryz.underlying3]; rfl) Tryz.underlying281, ofi206]
  have hsb : ∀ t w, (binOp .sub t (.float .f64 0) (.float .f64 4670232813583204352)).run Tryz.prog w = .ok (.float .f64 13893604850437980160) w := fun t w => run_float_arith w .sub t .f64 0 _ _ ofn206
  have hcn : ∀ w, (convert 281 3 (.float .f64 m)).run Tryz.prog w = .ok (.int .i64 n) w := fun w => run_convert_float_int w 281 3 .f64 .i64 m n (by rw [Tryz.underlying281]; rfl) Tryz.underlying3 hn
  have hcf : ∀ w, (convert 3 281 (.int .i64 n)).run Tryz.prog w = .ok (.float .f64 (floatOfInt .f64 n)) w := fun w => run_convert_int_float (P := Tryz.prog) w 3 281 .i64 .f64 n (by rw [Tryz.underlying3]; rfl) Tryz.underlying281
  cases c
  all_goals go_enter Tryz.func206, Tryz.ntmps206
  all_goals go_wp2_with (first | simp only [hsub] | simp only [hmul] | simp only [hsb] | simp only [hz] | simp only [h1] | simp only [h2] | simp only [h3])
  all_goals go_ret
  all_goals exact ⟨rfl, rfl⟩
end
end Go.Proofs
