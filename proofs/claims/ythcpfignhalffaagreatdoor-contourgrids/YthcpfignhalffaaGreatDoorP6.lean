/-
  A part of the proof of the statement that the claim names: see the last file.
-/
import Derived.Test.YthcpfignhalffaaGreatDoorProg
import Derived.Shelf.Slices.SearchI
import Derived.Ground.Names2Prog
import Derived.WalkKit
import Derived.Tactics
import Derived.Tactics2
import Derived.StillTactics
import Derived.Deep.RegionHeld3
import Derived.Sort.Grow
import Derived.Shelf.SlSortCmp.WholeK
namespace Go.Proofs
open Go.Shelf Go.RowKit Go.Lib

def Tryz.laysNaN_ren : Go.Shelf.Ren := ⟨fun | 37 => 210 | n => n, fun | 3 => 3 | 4 => 4 | n => n, fun | n => n⟩
theorem Tryz.laysNaN : Go.Proofs.Lays2.n37 Tryz.prog Tryz.laysNaN_ren := {
  mixed := by kernel_rfl
  f37 := Tryz.func210.trans (congrArg some (by kernel_rfl))
  t3 := Tryz.underlying3
  a3 := Tryz.isAgg3
  z3 := Tryz.sizeOf3
  v3 := Tryz.zeroValue3
  t4 := Tryz.underlying4
  a4 := Tryz.isAgg4
  z4 := Tryz.sizeOf4
  v4 := Tryz.zeroValue4 }
theorem Tryz.isNaN210 (x : Int) (w : World) : Calls Tryz.prog 210 #[.int .i64 x] w fun e w' => e = .returned (.bool false) ∧ w' = w := Any.cmp_isNaN_int2 Tryz.laysNaN x w


def cmpN (x y : Int) : Int := if x < y then -1 else if y < x then 1 else 0

theorem Tryz.cmp184 (x y : Int) (W : World) : Calls Tryz.prog 184 #[.int .i64 x, .int .i64 y] W fun e w' => e = .returned (.int .i64 (cmpN x y)) ∧ W = w' := by
  have hn : ∀ x W, Calls Tryz.prog 210 #[.int .i64 x] W fun e w' => e = .returned (.bool false) ∧ W = w' := fun x W => (Tryz.isNaN210 x W).mono fun _ _ ⟨a, b⟩ => ⟨a, b.symm⟩
  unfold cmpN
  by_cases h1 : x < y
  · rw [if_pos h1]
    go_enter Tryz.func184, Tryz.ntmps184
    go_wp2_with (go_at_call 210; refine (hn _ _).mono ?_; rintro e w' ⟨rfl, rfl⟩)
    go_ret
    exact ⟨rfl, rfl⟩
  · rw [if_neg h1]
    by_cases h2 : y < x
    · rw [if_pos h2]
      go_enter Tryz.func184, Tryz.ntmps184
      go_wp2_with (go_at_call 210; refine (hn _ _).mono ?_; rintro e w' ⟨rfl, rfl⟩)
      go_ret
      exact ⟨rfl, rfl⟩
    · rw [if_neg h2]
      go_enter Tryz.func184, Tryz.ntmps184
      go_wp2_with (go_at_call 210; refine (hn _ _).mono ?_; rintro e w' ⟨rfl, rfl⟩)
      go_ret
      exact ⟨rfl, rfl⟩
def or3 (a b c : Int) : Int := if a ≠ 0 then a else if b ≠ 0 then b else c
theorem Tryz.or173 (blk off cap : Nat) (a b c : Int) (W : World) (h0 : W.cell? ⟨blk, off, none⟩ = some (.int .i64 a)) (h1 : W.cell? ⟨blk, off + 1, none⟩ = some (.int .i64 b)) (h2 : W.cell? ⟨blk, off + 2, none⟩ = some (.int .i64 c)) :
    Calls Tryz.prog 173 #[.slice (some ⟨blk, off, none⟩) 3 cap] W fun e w' => e = .returned (.int .i64 (or3 a b c)) ∧ W = w' := by
  unfold or3
  by_cases ha : a = 0
  · subst ha
    by_cases hb : b = 0
    · subst hb
      by_cases hc : c = 0
      · subst hc
        go_enter Tryz.func173, Tryz.ntmps173
        go_wp2
        refine wp_loop_rounds 4 ?_
        rw [rounds_succ]
        go_wp2
        rw [rounds_succ]
        go_wp2
        rw [rounds_succ]
        go_wp2
        rw [rounds_succ]
        go_wp2
        go_ret
        exact ⟨rfl, rfl⟩
      · rw [if_neg (by omega), if_neg (by omega)]
        go_enter Tryz.func173, Tryz.ntmps173
        go_wp2
        refine wp_loop_rounds 4 ?_
        rw [rounds_succ]
        go_wp2
        rw [rounds_succ]
        go_wp2
        rw [rounds_succ]
        go_wp2
        go_ret
        exact ⟨rfl, rfl⟩
    · rw [if_neg (by omega), if_pos hb]
      go_enter Tryz.func173, Tryz.ntmps173
      go_wp2
      refine wp_loop_rounds 4 ?_
      rw [rounds_succ]
      go_wp2
      rw [rounds_succ]
      go_wp2
      go_ret
      exact ⟨rfl, rfl⟩
  · rw [if_pos ha]
    go_enter Tryz.func173, Tryz.ntmps173
    go_wp2
    refine wp_loop_rounds 4 ?_
    rw [rounds_succ]
    go_wp2
    go_ret
    exact ⟨rfl, rfl⟩
end Go.Proofs

namespace Go.Proofs
open Go.Shelf Go.RowKit Go.Lib Go.Sort

def Grown (W : World) (v : Value) (e : Ending) (w' : World) : Prop := e = .returned v ∧ ∃ q os', w' = grow (W.drewN q) os'

theorem Tryz.or173A (a b c : Int) (bl : Nat) (X : World) (h : bl = X.heap.size) : Calls Tryz.prog 173 #[.slice (some ⟨bl, 0, none⟩) 3 3] (X.alloc (.cells #[.int .i64 a, .int .i64 b, .int .i64 c] 3)).drew
    fun e w' => e = .returned (.int .i64 (or3 a b c)) ∧ (X.alloc (.cells #[.int .i64 a, .int .i64 b, .int .i64 c] 3)).drew = w' := by
  subst h
  exact Tryz.or173 _ 0 3 a b c _ (by simp) (by simp) (by simp)

set_option maxRecDepth 100000 in
set_option maxHeartbeats 4000000 in
theorem Tryz.hot142 (a b c d f g : Int) (W : World) : Calls Tryz.prog 142 #[.agg #[.int .i64 a, .int .i64 b, .int .i64 c], .agg #[.int .i64 d, .int .i64 f, .int .i64 g]] W
    (Grown W (.int .i64 (or3 (cmpN g c) (cmpN b f) (cmpN a d)))) := by
  go_enter Tryz.func142, Tryz.ntmps142
  go_wp2_with fail
  go_region_held3 (fun w' => w'.cell? ⟨W.heap.size, 0, none⟩ = some (.int .i64 a) ∧ w'.cell? ⟨W.heap.size, 1, none⟩ = some (.int .i64 b) ∧ w'.cell? ⟨W.heap.size, 2, none⟩ = some (.int .i64 c) ∧
      w'.cell? ⟨W.heap.size + 1, 0, none⟩ = some (.int .i64 d) ∧ w'.cell? ⟨W.heap.size + 1, 1, none⟩ = some (.int .i64 f) ∧ w'.cell? ⟨W.heap.size + 1, 2, none⟩ = some (.int .i64 g))
    (go_keep)
    (first
      | (go_at_call 184; refine (Tryz.cmp184 _ _ _).mono ?_; rintro e w' ⟨rfl, rfl⟩)
      | (go_at_call 173; refine (Tryz.or173A _ _ _ _ _ ?_).mono ?_; (simp); rintro e w' ⟨rfl, rfl⟩))
  all_goals go_wp2
  all_goals go_ret
  all_goals exact ⟨rfl, 1, _, by rw [alloc_eq_grow, alloc_eq_grow, alloc_eq_grow, grow_grow, grow_grow]; rfl⟩
end Go.Proofs

namespace Go.Proofs
open Go.Shelf
def Tryz.sortHot_ren : Go.Shelf.Ren := ⟨fun | 6 => 143 | 15 => 172 | 14 => 185 | 28 => 207 | 29 => 208 | 20 => 211 | 21 => 212 | 22 => 213 | 23 => 214 | 24 => 215 | 25 => 216 | 26 => 217 | 27 => 218 | 46 => 235 | 47 => 230 | 48 => 231 | 49 => 236 | 50 => 237 | 57 => 247 | n => n, fun | 22 => 218 | 24 => 220 | 25 => 221 | 3 => 3 | 39 => 263 | 0 => 0 | 53 => 289 | 55 => 291 | 4 => 4 | 46 => 283 | 45 => 282 | 50 => 252 | 5 => 5 | 9 => 9 | 66 => 309 | 70 => 313 | 76 => 322 | 77 => 323 | n => n, fun | n => n⟩
theorem Tryz.sortHot : Proofs.SlLaysF0.n6 Tryz.prog Tryz.sortHot_ren := {
  mixed := by kernel_rfl
  f6 := ⟨Tryz.f143.name, by decide, Tryz.func143.trans (congrArg some (by kernel_rfl))⟩
  f14 := ⟨Tryz.f185.name, by decide, Tryz.func185.trans (congrArg some (by kernel_rfl))⟩
  f15 := Tryz.func172.trans (congrArg some (by kernel_rfl))
  f20 := ⟨Tryz.f211.name, by decide, Tryz.func211.trans (congrArg some (by kernel_rfl))⟩
  f21 := ⟨Tryz.f212.name, by decide, Tryz.func212.trans (congrArg some (by kernel_rfl))⟩
  f22 := ⟨Tryz.f213.name, by decide, Tryz.func213.trans (congrArg some (by kernel_rfl))⟩
  f23 := ⟨Tryz.f214.name, by decide, Tryz.func214.trans (congrArg some (by kernel_rfl))⟩
  f24 := ⟨Tryz.f215.name, by decide, Tryz.func215.trans (congrArg some (by kernel_rfl))⟩
  f25 := ⟨Tryz.f216.name, by decide, Tryz.func216.trans (congrArg some (by kernel_rfl))⟩
  f26 := ⟨Tryz.f217.name, by decide, Tryz.func217.trans (congrArg some (by kernel_rfl))⟩
  f27 := ⟨Tryz.f218.name, by decide, Tryz.func218.trans (congrArg some (by kernel_rfl))⟩
  f28 := Tryz.func207.trans (congrArg some (by kernel_rfl))
  f29 := Tryz.func208.trans (congrArg some (by kernel_rfl))
  f46 := ⟨Tryz.f235.name, by decide, Tryz.func235.trans (congrArg some (by kernel_rfl))⟩
  f47 := Tryz.func230.trans (congrArg some (by kernel_rfl))
  f48 := Tryz.func231.trans (congrArg some (by kernel_rfl))
  f49 := ⟨Tryz.f236.name, by decide, Tryz.func236.trans (congrArg some (by kernel_rfl))⟩
  f50 := ⟨Tryz.f237.name, by decide, Tryz.func237.trans (congrArg some (by kernel_rfl))⟩
  f57 := ⟨Tryz.f247.name, by decide, Tryz.func247.trans (congrArg some (by kernel_rfl))⟩
  t0 := Tryz.underlying0
  a0 := Tryz.isAgg0
  z0 := Tryz.sizeOf0
  v0 := Tryz.zeroValue0
  t3 := Tryz.underlying3
  a3 := Tryz.isAgg3
  z3 := Tryz.sizeOf3
  v3 := Tryz.zeroValue3
  t4 := Tryz.underlying4
  a4 := Tryz.isAgg4
  z4 := Tryz.sizeOf4
  v4 := Tryz.zeroValue4
  t5 := Tryz.underlying5
  a5 := Tryz.isAgg5
  z5 := Tryz.sizeOf5
  v5 := Tryz.zeroValue5
  t9 := Tryz.underlying9
  a9 := Tryz.isAgg9
  z9 := Tryz.sizeOf9
  v9 := Tryz.zeroValue9
  t22 := Tryz.underlying218
  a22 := Tryz.isAgg218
  z22 := Tryz.sizeOf218
  v22 := Tryz.zeroValue218
  t25 := Tryz.underlying221
  a25 := Tryz.isAgg221
  z25 := Tryz.sizeOf221
  v25 := Tryz.zeroValue221
  t39 := Tryz.underlying263
  a39 := Tryz.isAgg263
  z39 := Tryz.sizeOf263
  v39 := Tryz.zeroValue263
  t45 := Tryz.underlying282
  a45 := Tryz.isAgg282
  z45 := Tryz.sizeOf282
  v45 := Tryz.zeroValue282
  t46 := Tryz.underlying283
  a46 := Tryz.isAgg283
  z46 := Tryz.sizeOf283
  v46 := Tryz.zeroValue283
  t50 := Tryz.underlying252
  a50 := Tryz.isAgg252
  z50 := Tryz.sizeOf252
  v50 := Tryz.zeroValue252
  t53 := Tryz.underlying289
  a53 := Tryz.isAgg289
  z53 := Tryz.sizeOf289
  v53 := Tryz.zeroValue289
  t55 := Tryz.underlying291
  a55 := Tryz.isAgg291
  z55 := Tryz.sizeOf291
  v55 := Tryz.zeroValue291
  t66 := Tryz.underlying309
  a66 := Tryz.isAgg309
  z66 := Tryz.sizeOf309
  v66 := Tryz.zeroValue309
  t70 := Tryz.underlying313
  a70 := Tryz.isAgg313
  z70 := Tryz.sizeOf313
  v70 := Tryz.zeroValue313
  t76 := Tryz.underlying322
  a76 := Tryz.isAgg322
  z76 := Tryz.sizeOf322
  v76 := Tryz.zeroValue322
  t77 := Tryz.underlying323
  a77 := Tryz.isAgg323
  z77 := Tryz.sizeOf323
  v77 := Tryz.zeroValue323 }
end Go.Proofs
