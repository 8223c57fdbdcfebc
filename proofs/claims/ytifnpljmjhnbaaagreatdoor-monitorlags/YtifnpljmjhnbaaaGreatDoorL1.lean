/-
  A part of the proof of the statement that the claim names: see the last file.
-/
import Derived.Test.YtifnpljmjhnbaaaGreatDoorM4
import Derived.Laws.FloatArith
import Derived.Test.YtifnpljmjhnbaaaGreatDoorS2
import Derived.Test.YtifnpljmjhnbaaaGreatDoorM5
namespace Go.Proofs
open Go.RowKit


theorem Tryz.abs_any (x : Nat) (w : World) (hx : x < 18446744073709551616) :
    Calls Tryz.prog 228 #[.float .f64 x] w fun e w' => e = .returned (.float .f64 (x % 9223372036854775808)) ∧ w = w' := by
  rcases Nat.lt_or_ge x 9223372036854775808 with h | h
  · rw [Nat.mod_eq_of_lt h]
    exact (Tryz.abs228 x w h).mono fun e w' ⟨h1, h2⟩ => ⟨h1, h2.symm⟩
  · have h1' := Tryz.run235 x
    have h2' := Tryz.run234
    have hb : (bits .andNot .u64 (x : Int) 9223372036854775808).toNat = x % 9223372036854775808 := by
      rw [u64_andNot (x : Int) 9223372036854775808 (by omega) (by omega) (by omega) (by omega)]
      show ((x &&& (18446744073709551615 - 9223372036854775808) : Nat) : Int).toNat = _
      rw [Int.toNat_natCast, show 18446744073709551615 - 9223372036854775808 = 2 ^ 63 - 1 from rfl, Nat.and_two_pow_sub_one_eq_mod]
    go_enter Tryz.func228, Tryz.ntmps228
    go_wp2
    go_ret
    exact ⟨rfl, rfl⟩
theorem Tryz.nan217 (x : Nat) (w : World) :
    Calls Tryz.prog 217 #[.float .f64 x] w fun e w' => e = .returned (.bool (FloatKind.f64.format.order x x != some .eq)) ∧ w = w' := by
  go_enter Tryz.func217, Tryz.ntmps217
  go_wp2
  go_ret
  exact ⟨rfl, rfl⟩
theorem Tryz.inf218 (x : Nat) (w : World) (hx : x < 18446744073709551616) :
    Calls Tryz.prog 218 #[.float .f64 x, .int .i64 0] w fun e w' => e = .returned (.bool (FloatKind.f64.format.order (x % 9223372036854775808) 9218868437227405311 == some .gt)) ∧ w = w' := by
  go_enter Tryz.func218, Tryz.ntmps218
  go_wp2_with (go_at_call 228; refine (Tryz.abs_any _ _ hx).mono ?_; rintro e w' ⟨rfl, rfl⟩)
  all_goals go_ret
  all_goals exact ⟨rfl, rfl⟩
theorem Tryz.inf204 (x y : Nat) (w : World) (hc : floatToFloatBits .f32 x .f64 = some y) (hy : y < 18446744073709551616) (hn : (FloatKind.f64.format.order y y != some .eq) = false) :
    Calls Tryz.prog 204 #[.float .f32 x] w fun e w' => e = .returned (.bool (FloatKind.f64.format.order (y % 9223372036854775808) 9218868437227405311 == some .gt)) ∧ w = w' := by
  have hcv : ∀ w, (convert 139 281 (.float .f32 x)).run Tryz.prog w = .ok (.float .f64 y) w := fun w => run_convert_float_float w 139 281 .f32 .f64 x y (by rw [Tryz.underlying139]; rfl) Tryz.underlying281 hc
  have h217 : ∀ W, Calls Tryz.prog 217 #[.float .f64 y] W fun e w' => e = .returned (.bool false) ∧ W = w' := fun W => by
    have := Tryz.nan217 y W
    rw [hn] at this
    exact this
  go_enter Tryz.func204, Tryz.ntmps204
  go_wp2_with (first | simp only [hcv] | (go_at_call 217; refine (h217 _).mono ?_; rintro e w' ⟨rfl, rfl⟩) | (go_at_call 218; refine (Tryz.inf218 _ _ hy).mono ?_; rintro e w' ⟨rfl, rfl⟩))
  all_goals go_ret
  all_goals exact ⟨rfl, rfl⟩
theorem Tryz.when203 (b : Bool) (e : Int) (w : World) : Calls Tryz.prog 203 #[.bool b, .int .i64 e] w fun r w' => r = .returned (.int .i64 (bif b then e else 0)) ∧ w = w' := by
  cases b
  · go_enter Tryz.func203, Tryz.ntmps203
    go_wp2
    go_ret
    exact ⟨rfl, rfl⟩
  · go_enter Tryz.func203, Tryz.ntmps203
    go_wp2
    go_ret
    exact ⟨rfl, rfl⟩
theorem Tryz.grid205 (x m y z : Nat) (w : World) (h1 : (FloatKind.f32.format.order x 3296722944 == some .lt) = false) (h2 : (FloatKind.f32.format.order x 1149239296 == some .gt) = false)
    (hm : floatBits .mul .f32 1098907648 x = some m) (hc : floatToFloatBits .f32 m .f64 = some y) (hn : ∀ s t, FloatKind.f64.decode y ≠ .nan s t)
    (hz : floatToFloatBits .f64 (FloatKind.f64.encode ((FloatKind.f64.decode y).integral .down)) .f32 = some z) :
    Calls Tryz.prog 205 #[.float .f32 x, .float .f32 1149239296] w fun e w' => e = .returned (.int .i64 (bif (FloatKind.f32.format.order z m != some .eq) then 3 else 0)) ∧ w = w' := by
  have hmul : ∀ t w, (binOp .mul t (.float .f32 1098907648) (.float .f32 x)).run Tryz.prog w = .ok (.float .f32 m) w := fun t w => run_float_arith w .mul t .f32 1098907648 x m hm
  have hcv : ∀ w, (convert 139 281 (.float .f32 m)).run Tryz.prog w = .ok (.float .f64 y) w := fun w => run_convert_float_float w 139 281 .f32 .f64 m y (by rw [Tryz.underlying139]; rfl) Tryz.underlying281 hc
  have hcz : ∀ w, (convert 281 139 (.float .f64 (FloatKind.f64.encode ((FloatKind.f64.decode y).integral .down)))).run Tryz.prog w = .ok (.float .f32 z) w := fun w => run_convert_float_float w 281 139 .f64 .f32 _ z (by rw [Tryz.underlying281]; rfl) Tryz.underlying139 hz
  have hneg : ∀ w, (Op.unary .neg (.float .f32 1149239296)).run Tryz.prog w = .ok (.float .f32 3296722944) w := fun w => by kernel_rfl
  have hfl : ∀ W, Calls Tryz.prog 219 #[.float .f64 y] W fun e w' => e = .returned (.float .f64 (FloatKind.f64.encode ((FloatKind.f64.decode y).integral .down))) ∧ W = w' := fun W => (Tryz.floor219 y W hn).mono fun _ _ ⟨a, b⟩ => ⟨a, b.symm⟩
  go_enter Tryz.func205, Tryz.ntmps205
  go_wp2_with (first | simp only [hneg] | simp only [hmul] | simp only [hcv] | simp only [hcz] | simp only [h1] | simp only [h2] | (go_at_call 219; refine (hfl _).mono ?_; rintro e w' ⟨rfl, rfl⟩) | (go_at_call 203; refine (Tryz.when203 _ _ _).mono ?_; rintro e w' ⟨rfl, rfl⟩))
  all_goals go_ret
  all_goals exact ⟨rfl, rfl⟩
theorem Tryz.smp77 (n : Int) (r : Nat) (w : World) (h : floatBits .quo .f32 (floatOfInt .f32 n) 1098907648 = some r) :
    Calls Tryz.prog 77 #[.int .i64 n] w fun e w' => e = .returned (.float .f32 r) ∧ w = w' := by
  have hop : ∀ t w, (binOp .quo t (.float .f32 (floatOfInt .f32 n)) (.float .f32 1098907648)).run Tryz.prog w = .ok (.float .f32 r) w := fun t w => run_float_arith w .quo t .f32 _ _ r h
  go_enter Tryz.func77, Tryz.ntmps77
  go_wp2_with (simp only [hop])
  all_goals go_ret
  all_goals exact ⟨rfl, rfl⟩
theorem Tryz.lvl154 (x m : Nat) (n : Int) (w : World) (hm : floatBits .mul .f32 1098907648 x = some m) (hn : floatToIntVal .f32 m .i64 = some n) :
    Calls Tryz.prog 154 #[.float .f32 x] w fun e w' => e = .returned (.int .i64 n) ∧ w = w' := by
  have hmul : ∀ t w, (binOp .mul t (.float .f32 1098907648) (.float .f32 x)).run Tryz.prog w = .ok (.float .f32 m) w := fun t w => run_float_arith w .mul t .f32 1098907648 x m hm
  have hcv : ∀ w, (convert 139 3 (.float .f32 m)).run Tryz.prog w = .ok (.int .i64 n) w := fun w => run_convert_float_int w 139 3 .f32 .i64 m n (by rw [Tryz.underlying139]; rfl) Tryz.underlying3 hn
  go_enter Tryz.func154, Tryz.ntmps154
  go_wp2_with (first | simp only [hmul] | simp only [hcv])
  all_goals go_ret
  all_goals exact ⟨rfl, rfl⟩
end Go.Proofs

namespace Go.Proofs.YtifnpljmjhnbaaaGreatDoor
open Go Go.Am Go.RowKit
set_option maxRecDepth 100000
variable {w0 : World}
noncomputable section


abbrev fK : Kd := .float .f32
abbrev fsK : List Kd := [fK]
abbrev F32 (b : Nat) : D := .val (.float .f32 b)
def notNan (d : Ieee.Datum) : Bool := match d with
  | .nan _ _ => false
  | _ => true
def flr (y : Nat) : Nat := FloatKind.f64.encode ((FloatKind.f64.decode y).integral .down)
def lvl (x : Nat) : Int := (floatToIntVal .f32 ((floatBits .mul .f32 1098907648 x).getD 0) .i64).getD 0
def isS1 (x m y : Nat) : Bool :=
  match floatToFloatBits .f32 m .f64, floatToIntVal .f32 m .i64 with
  | some y2, some _ => match floatToFloatBits .f64 (flr y2) .f32 with
    | some z => Nat.blt y 18446744073709551616 && (!(FloatKind.f64.format.order y y != some .eq) && (!(FloatKind.f64.format.order (y % 9223372036854775808) 9218868437227405311 == some .gt) &&
      (!(FloatKind.f32.format.order x 3296722944 == some .lt) && (!(FloatKind.f32.format.order x 1149239296 == some .gt) && (notNan (FloatKind.f64.decode y2) && !(FloatKind.f32.format.order z m != some .eq))))))
    | none => false
  | _, _ => false
def isS (x : Nat) : Bool :=
  match floatBits .mul .f32 1098907648 x, floatToFloatBits .f32 x .f64 with
  | some m, some y => isS1 x m y
  | _, _ => false
structure Smp (x m y y2 z : Nat) (n : Int) : Prop where
  hm : floatBits .mul .f32 1098907648 x = some m
  hy : floatToFloatBits .f32 x .f64 = some y
  h2 : floatToFloatBits .f32 m .f64 = some y2
  hn : floatToIntVal .f32 m .i64 = some n
  hz : floatToFloatBits .f64 (flr y2) .f32 = some z
  b1 : y < 18446744073709551616
  b2 : (FloatKind.f64.format.order y y != some .eq) = false
  b3 : (FloatKind.f64.format.order (y % 9223372036854775808) 9218868437227405311 == some .gt) = false
  b4 : (FloatKind.f32.format.order x 3296722944 == some .lt) = false
  b5 : (FloatKind.f32.format.order x 1149239296 == some .gt) = false
  b6 : ∀ s t, FloatKind.f64.decode y2 ≠ .nan s t
  b7 : (FloatKind.f32.format.order z m != some .eq) = false
theorem isS_spec {x : Nat} (h : isS x = true) : ∃ m y y2 z, Smp x m y y2 z (lvl x) := by
  unfold isS at h
  split at h
  · rename_i m y hm hy
    unfold isS1 at h
    split at h
    · rename_i y2 n h2 hn
      split at h
      · rename_i z hz
        simp only [Bool.and_eq_true, Bool.not_eq_true', Nat.blt_eq] at h
        obtain ⟨c1, c2, c3, c4, c5, c6, c7⟩ := h
        have hl : lvl x = n := by unfold lvl; rw [hm]; show (floatToIntVal .f32 m .i64).getD 0 = n; rw [hn]; rfl
        refine ⟨m, y, y2, z, hm, hy, h2, by rw [hl]; exact hn, hz, c1, c2, c3, c4, c5, fun s t e => ?_, c7⟩
        rw [e] at c6
        cases c6
      · cases h
    · cases h
  · cases h
theorem c154_fn (x : Nat) (h : isS x = true) : FnD (cfg w0) 154 [F32 x] (I (lvl x)) := by
  obtain ⟨m, y, y2, z, S⟩ := isS_spec h
  refine FnD.scal (vs := [.float .f32 x]) (by simp [scal]) rfl fun w hw => ?_
  refine (Tryz.lvl154 x m (lvl x) w S.hm S.hn).mono fun e w' ⟨h1, h2⟩ => ⟨h1, ?_⟩
  rw [← h2]; exact Below.refl _ _
theorem c204_fn (x : Nat) (h : isS x = true) : FnD (cfg w0) 204 [F32 x] (Bo false) := by
  obtain ⟨m, y, y2, z, S⟩ := isS_spec h
  refine FnD.scal (vs := [.float .f32 x]) (by simp [scal]) rfl fun w hw => ?_
  have := Tryz.inf204 x y w S.hy S.b1 S.b2
  rw [S.b3] at this
  refine this.mono fun e w' ⟨h1, h2⟩ => ⟨h1, ?_⟩
  rw [← h2]; exact Below.refl _ _
theorem c205_fn (x : Nat) (h : isS x = true) : FnD (cfg w0) 205 [F32 x, F32 1149239296] (I 0) := by
  obtain ⟨m, y, y2, z, S⟩ := isS_spec h
  refine FnD.scal (vs := [.float .f32 x, .float .f32 1149239296]) (by simp [scal]) rfl fun w hw => ?_
  have := Tryz.grid205 x m y2 z w S.b4 S.b5 S.hm S.h2 S.b6 S.hz
  rw [S.b7] at this
  refine this.mono fun e w' ⟨h1, h2⟩ => ⟨h1, ?_⟩
  rw [← h2]; exact Below.refl _ _
def isG (g : Nat) : Bool := Nat.beq g 1149239296
theorem isG_eq {g : Nat} (h : isG g = true) : g = 1149239296 := by unfold isG at h; rwa [Nat.beq_eq] at h
def c154 : Ct := ct 154 [.c fK] fun a => .br (isS a.1) (.leaf (I (lvl a.1))) .bad
theorem gd154 : Gd (cfg w0) c154 := gd_sig fun a d hd => by
  obtain ⟨x, u⟩ := a
  obtain ⟨hg, hd⟩ := br_run hd
  cases hd
  exact c154_fn x hg
def c204 : Ct := ct 204 [.c fK] fun a => .br (isS a.1) (.leaf (Bo false)) .bad
theorem gd204 : Gd (cfg w0) c204 := gd_sig fun a d hd => by
  obtain ⟨x, u⟩ := a
  obtain ⟨hg, hd⟩ := br_run hd
  cases hd
  exact c204_fn x hg
def c205 : Ct := ct 205 [.c fK, .c fK] fun a => .br (isS a.1) (.br (isG a.2.1) (.leaf (I 0)) .bad) .bad
theorem gd205 : Gd (cfg w0) c205 := gd_sig fun a d hd => by
  obtain ⟨x, g, u⟩ := a
  obtain ⟨hg, hd⟩ := br_run hd
  obtain ⟨hk, hd⟩ := br_run hd
  cases hd
  cases isG_eq hk
  exact c205_fn x hg
theorem run185 (x : Nat) : bodyK ((cfg w0).at [c204, c205, whenC 203]) 40 (fnOf Tryz.f185) [F32 x] = bif isS x then bif isS x then some (I 0) else none else none := by kernel_rfl
def c185 : Ct := ct 185 [.c fK] fun a => .br (isS a.1) (.leaf (I 0)) .bad
theorem gd185 (h0 : Lib0 w0) : Gd (cfg w0) c185 := gd_sig fun a d hd => by
  obtain ⟨x, u⟩ := a
  obtain ⟨hg, hd⟩ := br_run hd
  cases hd
  have hg : isS x = true := hg
  exact fnD_k (cfg_ok w0) h0 (cs := [c204, c205, whenC 203]) ⟨gd204, gd205, gd203 h0, trivial⟩ (fd := fnOf Tryz.f185) rfl (n := 40) ((run185 x).trans (by rw [hg]; rfl))


def smp (n : Int) : Nat := (floatBits .quo .f32 (floatOfInt .f32 n) 1098907648).getD 0
def smpB (n : Int) : Bool := match floatBits .quo .f32 (floatOfInt .f32 n) 1098907648 with
  | some _ => true
  | none => false
theorem smp77_fn (n : Int) (h : smpB n = true) : FnD (cfg w0) 77 [I n] (F32 (smp n)) := by
  unfold smpB at h
  split at h
  · rename_i r hr
    have e : smp n = r := by unfold smp; rw [hr]; rfl
    rw [e]
    refine FnD.scal (vs := [.int .i64 n]) (by simp [scal]) rfl fun w hw => ?_
    refine (Tryz.smp77 n r w hr).mono fun e w' ⟨h1, h2⟩ => ⟨h1, ?_⟩
    rw [← h2]; exact Below.refl _ _
  · cases h
def inS (n : Int) : Bool := decide (-2000 ≤ n) && decide (n ≤ 2000)
def crs (n : Nat) (k : Nat → Bool) : Bool := Nat.rec (k 0) (fun m _ => k (m + 1)) n
def atS (k : Nat) : Bool := smpB ((k : Int) - 2000) && crs (smp ((k : Int) - 2000)) fun b => isS b && (lvl b == (k : Int) - 2000)
def allS (s n : Nat) : Bool := (List.range' s n).all atS
end
end Go.Proofs.YtifnpljmjhnbaaaGreatDoor
