/-
 A part of the proof of the statement that the claim names: see the last file.
-/
import Derived.Test.YthcpfignhalffaaGreatDoorAm5
import Derived.Shelf.GgSortFunc.RowK
import Derived.Test.YthcpfignhalffaaGreatDoorProg
import Derived.Shelf.Slices.SearchI
import Derived.Ground.Names2Prog
import Derived.WalkKit
import Derived.Tactics
import Derived.Tactics2
import Derived.StillTactics
import Derived.Deep.RegionHeld3
import Derived.Sort.Grow
import Derived.Shelf.SlSortCmp.WholeK
namespace Go.Am
open Go
set_option maxRecDepth 100000
instance {ks : List Kd} : Inhabited (Tup ks) := ⟨dfl ks⟩
noncomputable def soW {ks : List Kd} (w : World) (blk off n : Nat) (d : Array (Tup ks)) (os : Array Obj) : World := Sort.grow (Sort.putRowK (toVs ks) ks.length (Sort.ahead w n) blk off d) os
theorem soW_block {ks : List Kd} {w : World} {blk off n : Nat} {d : Array (Tup ks)} {arr : Array Value} {e : TypeId} {fr : Nat × Nat} (hb : w.heap[blk]? = some (.cells arr e fr)) :
  (Sort.putRowK (toVs ks) ks.length (Sort.ahead w n) blk off d).heap[blk]? = some (.cells (Sort.putCells id off (Sort.flatK (toVs ks) ks.length d) arr) e fr) := by
 unfold Sort.putRowK Sort.putRow Sort.mapBlock Sort.ahead
 simp only [Array.getElem?_modify, if_true, hb, Option.map_some, Sort.onCells]
theorem soW_other {ks : List Kd} {w : World} {blk off n : Nat} {d : Array (Tup ks)} {k : Nat} (hk : k ≠ blk) : (Sort.putRowK (toVs ks) ks.length (Sort.ahead w n) blk off d).heap[k]? = w.heap[k]? := by
 unfold Sort.putRowK Sort.putRow Sort.mapBlock Sort.ahead
 simp only [Array.getElem?_modify]
 rw [if_neg (Ne.symm hk)]
theorem soW_size {ks : List Kd} {w : World} {blk off n : Nat} {d : Array (Tup ks)} : (Sort.putRowK (toVs ks) ks.length (Sort.ahead w n) blk off d).heap.size = w.heap.size := by
 unfold Sort.putRowK Sort.putRow Sort.mapBlock Sort.ahead
 simp
theorem flat_at {ks : List Kd} {l : List (Tup ks)} {i j : Nat} {x : Tup ks} {c : Value} (hi : l[i]? = some x) (hj : (toVs ks x)[j]? = some c) :
  i * ks.length + j < l.length * ks.length ∧ (Sort.flatK (toVs ks) ks.length l.toArray)[i * ks.length + j]! = c := by
 have h1 := (List.getElem?_eq_some_iff.1 hi).1
 have h2 : j < ks.length := by rw [← toVs_len ks x]; exact (List.getElem?_eq_some_iff.1 hj).1
 have h3 : (i + 1) * ks.length ≤ l.length * ks.length := Nat.mul_le_mul_right _ h1
 rw [Nat.succ_mul] at h3
 have h4 : i * ks.length + j < l.length * ks.length := by omega
 refine ⟨h4, ?_⟩
 rw [Sort.get_flatK _ _ _ _ (by simpa using h4)]
 have e1 : (i * ks.length + j) / ks.length = i := by rw [Nat.mul_comm, Nat.mul_add_div (by omega), Nat.div_eq_of_lt h2]; omega
 have e2 : (i * ks.length + j) % ks.length = j := by rw [Nat.mul_comm, Nat.mul_add_mod, Nat.mod_eq_of_lt h2]
 rw [e1, e2]
 have e3 : l.toArray[i]! = x := by simp [hi]
 rw [e3]
 simp [hj]
theorem holds_of {ks : List Kd} {l : List (Tup ks)} {w : World} {blk off : Nat} {arr : Array Value} {e : TypeId} (hb : w.heap[blk]? = some (.cells arr e (0, 0)))
  (hc : ∀ (i : Nat) (x : Tup ks), l[i]? = some x → ∀ (j : Nat) (c : Value), (toVs ks x)[j]? = some c → w.cell? ⟨blk, off + i * ks.length + j, none⟩ = some c) :
  Sort.HoldsK (toVs ks) ks.length w blk off l.toArray := fun t ht => by
 have ht' : t < l.length * ks.length := by simpa using ht
 have k0 : 0 < ks.length := by rcases Nat.eq_zero_or_pos ks.length with h | h; · rw [h] at ht'; simp at ht'
                               ·exact h
 have hi : t / ks.length < l.length := Nat.div_lt_of_lt_mul (by rwa [Nat.mul_comm])
 have hj : t % ks.length < ks.length := Nat.mod_lt _ k0
 have a1 : l[t / ks.length]? = some l[t / ks.length] := List.getElem?_eq_getElem hi
 have hl2 : t % ks.length < (toVs ks l[t / ks.length]).length := by rw [toVs_len]; exact hj
 have a2 : (toVs ks l[t / ks.length])[t % ks.length]? = some (toVs ks l[t / ks.length])[t % ks.length] := List.getElem?_eq_getElem hl2
 have hcell := hc _ _ a1 _ _ a2
 have ef := (flat_at a1 a2).2
 have et : t / ks.length * ks.length + t % ks.length = t := by rw [Nat.mul_comm]; exact Nat.div_add_mod t ks.length
 rw [et] at ef
 refine ⟨?_, ?_⟩
 ·rw [ef, show off + t = off + t / ks.length * ks.length + t % ks.length by omega]
  exact hcell
 ·simp [World.frozen?, hb]
theorem sort_callI {C : Cfg} {ks : List Kd} {g gc : FuncId} {l l' : List (Tup ks)} (hlen : l'.length = l.length) (hl : 0 < l.length)
  (hS : ∀ (w : World) (blk off cap : Nat), blk < w.heap.size → Sort.HoldsK (toVs ks) ks.length w blk off l.toArray →
   Calls C.P g #[.slice (some ⟨blk, off, none⟩) l.length cap, .func (.func gc) #[] #[]] w fun e w' => e = .returned (.tuple #[]) ∧ ∃ n os, w' = soW w blk off n l'.toArray os)
  {h : Heap} {b o : Nat} (_ : o ≠ 2) (hat : h.at b = .vec ks l true) {n : Nat} (hn : n = l.length) (hfk : flatK ks = true := by rfl) :
  CallI C g [.slice (some ⟨b, o, some 0⟩) n ks.length, .func (.func gc) #[] #[]] h (.tuple #[]) (h.put b (.vec ks l' true)) := by
 intro F N r w args hF hro H hargs
 subst hn
 obtain ⟨hsz, hargs⟩ := hargs
 obtain ⟨u, f, hu, hf, hv, hvf⟩ : ∃ u f, args.toList = [u, f] ∧ True ∧ VR r (.slice (some ⟨b, o, some 0⟩) l.length ks.length) u ∧ VR r (.func (.func gc) #[] #[]) f := by
  obtain ⟨u, h1, h2⟩ := hargs 0 _ rfl
  obtain ⟨f, h3, h4⟩ := hargs 1 _ rfl
  match hm : args.toList, hsz, h1, h3 with
  | [a, c], _, h1, h3 =>
    cases h1; cases h3
    exact ⟨_, _, rfl, trivial, h2, h4⟩
 have hf' : f = .func (.func gc) #[] #[] := by
  cases hvf with
  | scal _ _ => rfl
  | func f xs xs' ys ys' hx hy h1 h2 =>
    have e1 : xs' = #[] := Array.eq_empty_of_size_eq_zero (by simpa using hx.symm)
    have e2 : ys' = #[] := Array.eq_empty_of_size_eq_zero (by simpa using hy.symm)
    rw [e1, e2]
 subst hf'
 obtain ⟨t, hr, hk, hlt, _, hfl, k0, ⟨_, ⟨o1, o2, o3⟩, o4, o5⟩, hvs, hle, _⟩ := shows H hv hat
 obtain ⟨p1, p2, p3⟩ := o5 hl
 obtain ⟨arr, e, hb, harr⟩ := p3 rfl
 obtain ⟨_, _, hcase⟩ := hvs
 rcases hcase with ⟨h0, _⟩ | ⟨_, _, cap, _, _, rfl⟩
 ·omega
 rw [Nat.zero_mul, Nat.add_zero] at hu
 have hargsE : args = #[.slice (some ⟨t.blk, t.off, none⟩) l.length cap, .func (.func gc) #[] #[]] := by rw [← Array.toArray_toList (xs := args), hu]
 rw [hargsE]
 have hH : Sort.HoldsK (toVs ks) ks.length w t.blk t.off l.toArray := holds_of hb fun i x hx => (p2 i x hx).vals hfk
 refine CallsIn.mono (calls_in hF (hS w t.blk t.off cap hlt hH)) fun e' w' ⟨he, n', os, hw⟩ => ?_
 subst hw
 have hH' := Sort.holdsK_putRowK (toVs ks) ks.length (Sort.ahead w n') t.blk t.off l.toArray l'.toArray (Sort.holdsK_ahead (toVs ks) ks.length w n' t.blk t.off _ hH) (by simp [hlen])
 have hnew := soW_block (ks := ks) (off := t.off) (n := n') (d := l'.toArray) hb
 have hown : (h.at b).owned = true := by rw [hat]; simp [AObj.owned, Nat.blt_eq]; omega
 have hu := H.upd (b := b) (t := t) (w' := Sort.putRowK (toVs ks) ks.length (Sort.ahead w n') t.blk t.off l'.toArray) hown hr
  (.vec ks l' true) rfl rfl rfl soW_size (fun k hk => soW_other hk)
  ⟨hfl, by rw [hlen]; exact ⟨o1, o2, o3⟩, by rw [hlen]; exact o4, fun _ => ⟨by rw [hlen]; exact p1, fun i x hx => RowIn.of_vals hfk fun j c hj => ?_, fun _ => ⟨_, e, hnew, by simp [Sort.putCells, harr]⟩⟩⟩ (by rw [hat]; simp [AObj.mate])
 ·rw [hat] at hu
  obtain ⟨hu1, hu2⟩ := hu
  refine ⟨.tuple #[], r, he, hu2.trans ⟨.refl r, rfl, rfl, rfl, by simp [soW, Sort.grow], fun k hk _ => ?_, fun k _ ho => ho, Nat.le_refl _, fun _ _ h => .inl h, fun _ _ h => h⟩, hu1.grow (by simp [soW, Sort.grow]) (fun k hk => ?_), .tup _ _ rfl fun j h => by simp at h⟩
  ·show (_ ++ os)[k]? = _
   rw [Array.getElem?_append_left hk]
  ·show (_ ++ os)[k]? = _
   rw [Array.getElem?_append_left hk]
 ·obtain ⟨f1, f2⟩ := flat_at hx hj
  have := (hH' (i * ks.length + j) (by simpa using f1)).1
  rw [f2] at this
  rw [Nat.add_assoc]
  exact this
end Go.Am
namespace Go.Proofs
open Go.Shelf Go.RowKit Go.Lib
def Tryz.laysNaN_ren : Go.Shelf.Ren := ⟨fun | 37 => 210 | n => n, fun | 3 => 3 | 4 => 4 | n => n, fun | n => n⟩
theorem Tryz.laysNaN : Go.Proofs.Lays2.n37 Tryz.prog Tryz.laysNaN_ren := {
 mixed := by kernel_rfl
 f37 := Tryz.func210.trans (congrArg some (by kernel_rfl))
 t3 := Tryz.underlying3
 a3 := Tryz.isAgg3
 z3 := Tryz.sizeOf3
 v3 := Tryz.zeroValue3
 t4 := Tryz.underlying4
 a4 := Tryz.isAgg4
 z4 := Tryz.sizeOf4
 v4 := Tryz.zeroValue4 }
theorem Tryz.isNaN210 (x : Int) (w : World) : Calls Tryz.prog 210 #[.int .i64 x] w fun e w' => e = .returned (.bool false) ∧ w' = w := Any.cmp_isNaN_int2 Tryz.laysNaN x w
def cmpN (x y : Int) : Int := if x < y then -1 else if y < x then 1 else 0
theorem Tryz.cmp184 (x y : Int) (W : World) : Calls Tryz.prog 184 #[.int .i64 x, .int .i64 y] W fun e w' => e = .returned (.int .i64 (cmpN x y)) ∧ W = w' := by
 have hn : ∀ x W, Calls Tryz.prog 210 #[.int .i64 x] W fun e w' => e = .returned (.bool false) ∧ W = w' := fun x W => (Tryz.isNaN210 x W).mono fun _ _ ⟨a, b⟩ => ⟨a, b.symm⟩
 unfold cmpN
 by_cases h1 : x < y
 ·rw [if_pos h1]
  go_enter Tryz.func184, Tryz.ntmps184
  go_wp2_with (go_at_call 210; refine (hn _ _).mono ?_; rintro e w' ⟨rfl, rfl⟩)
  go_ret
  exact ⟨rfl, rfl⟩
 ·rw [if_neg h1]
  by_cases h2 : y < x
  ·rw [if_pos h2]
   go_enter Tryz.func184, Tryz.ntmps184
   go_wp2_with (go_at_call 210; refine (hn _ _).mono ?_; rintro e w' ⟨rfl, rfl⟩)
   go_ret
   exact ⟨rfl, rfl⟩
  ·rw [if_neg h2]
   go_enter Tryz.func184, Tryz.ntmps184
   go_wp2_with (go_at_call 210; refine (hn _ _).mono ?_; rintro e w' ⟨rfl, rfl⟩)
   go_ret
   exact ⟨rfl, rfl⟩
def or3 (a b c : Int) : Int := if a ≠ 0 then a else if b ≠ 0 then b else c
theorem Tryz.or173 (blk off cap : Nat) (a b c : Int) (W : World) (h0 : W.cell? ⟨blk, off, none⟩ = some (.int .i64 a)) (h1 : W.cell? ⟨blk, off + 1, none⟩ = some (.int .i64 b)) (h2 : W.cell? ⟨blk, off + 2, none⟩ = some (.int .i64 c)) :
  Calls Tryz.prog 173 #[.slice (some ⟨blk, off, none⟩) 3 cap] W fun e w' => e = .returned (.int .i64 (or3 a b c)) ∧ W = w' := by
 unfold or3
 by_cases ha : a = 0
 ·subst ha
  by_cases hb : b = 0
  ·subst hb
   by_cases hc : c = 0
   ·subst hc
    go_enter Tryz.func173, Tryz.ntmps173
    go_wp2
    refine wp_loop_rounds 4 ?_
    rw [rounds_succ]
    go_wp2
    rw [rounds_succ]
    go_wp2
    rw [rounds_succ]
    go_wp2
    rw [rounds_succ]
    go_wp2
    go_ret
    exact ⟨rfl, rfl⟩
   ·rw [if_neg (by omega), if_neg (by omega)]
    go_enter Tryz.func173, Tryz.ntmps173
    go_wp2
    refine wp_loop_rounds 4 ?_
    rw [rounds_succ]
    go_wp2
    rw [rounds_succ]
    go_wp2
    rw [rounds_succ]
    go_wp2
    go_ret
    exact ⟨rfl, rfl⟩
  ·rw [if_neg (by omega), if_pos hb]
   go_enter Tryz.func173, Tryz.ntmps173
   go_wp2
   refine wp_loop_rounds 4 ?_
   rw [rounds_succ]
   go_wp2
   rw [rounds_succ]
   go_wp2
   go_ret
   exact ⟨rfl, rfl⟩
 ·rw [if_pos ha]
  go_enter Tryz.func173, Tryz.ntmps173
  go_wp2
  refine wp_loop_rounds 4 ?_
  rw [rounds_succ]
  go_wp2
  go_ret
  exact ⟨rfl, rfl⟩
end Go.Proofs
namespace Go.Proofs
open Go.Shelf Go.RowKit Go.Lib Go.Sort
def Grown (W : World) (v : Value) (e : Ending) (w' : World) : Prop := e = .returned v ∧ ∃ q os', w' = grow (W.drewN q) os'
theorem Tryz.or173A (a b c : Int) (bl : Nat) (X : World) (h : bl = X.heap.size) : Calls Tryz.prog 173 #[.slice (some ⟨bl, 0, none⟩) 3 3] (X.alloc (.cells #[.int .i64 a, .int .i64 b, .int .i64 c] 3)).drew
  fun e w' => e = .returned (.int .i64 (or3 a b c)) ∧ (X.alloc (.cells #[.int .i64 a, .int .i64 b, .int .i64 c] 3)).drew = w' := by
 subst h
 exact Tryz.or173 _ 0 3 a b c _ (by simp) (by simp) (by simp)
set_option maxRecDepth 100000 in
set_option maxHeartbeats 4000000 in
theorem Tryz.hot142 (a b c d f g : Int) (W : World) : Calls Tryz.prog 142 #[.agg #[.int .i64 a, .int .i64 b, .int .i64 c], .agg #[.int .i64 d, .int .i64 f, .int .i64 g]] W
  (Grown W (.int .i64 (or3 (cmpN g c) (cmpN b f) (cmpN a d)))) := by
 go_enter Tryz.func142, Tryz.ntmps142
 go_wp2_with fail
 go_region_held3 (fun w' => w'.cell? ⟨W.heap.size, 0, none⟩ = some (.int .i64 a) ∧ w'.cell? ⟨W.heap.size, 1, none⟩ = some (.int .i64 b) ∧ w'.cell? ⟨W.heap.size, 2, none⟩ = some (.int .i64 c) ∧
   w'.cell? ⟨W.heap.size + 1, 0, none⟩ = some (.int .i64 d) ∧ w'.cell? ⟨W.heap.size + 1, 1, none⟩ = some (.int .i64 f) ∧ w'.cell? ⟨W.heap.size + 1, 2, none⟩ = some (.int .i64 g))
  (go_keep)
  (first
   | (go_at_call 184; refine (Tryz.cmp184 _ _ _).mono ?_; rintro e w' ⟨rfl, rfl⟩)
   | (go_at_call 173; refine (Tryz.or173A _ _ _ _ _ ?_).mono ?_; (simp); rintro e w' ⟨rfl, rfl⟩))
 all_goals go_wp2
 all_goals go_ret
 all_goals exact ⟨rfl, 1, _, by rw [alloc_eq_grow, alloc_eq_grow, alloc_eq_grow, grow_grow, grow_grow]; rfl⟩
end Go.Proofs
namespace Go.Proofs
open Go.Shelf
def Tryz.sortHot_ren : Go.Shelf.Ren := ⟨fun | 6 => 143 | 15 => 172 | 14 => 185 | 28 => 207 | 29 => 208 | 20 => 211 | 21 => 212 | 22 => 213 | 23 => 214 | 24 => 215 | 25 => 216 | 26 => 217 | 27 => 218 | 46 => 235 | 47 => 230 | 48 => 231 | 49 => 236 | 50 => 237 | 57 => 247 | n => n, fun | 22 => 218 | 24 => 220 | 25 => 221 | 3 => 3 | 39 => 263 | 0 => 0 | 53 => 289 | 55 => 291 | 4 => 4 | 46 => 283 | 45 => 282 | 50 => 252 | 5 => 5 | 9 => 9 | 66 => 309 | 70 => 313 | 76 => 322 | 77 => 323 | n => n, fun | n => n⟩
theorem Tryz.sortHot : Proofs.SlLaysF0.n6 Tryz.prog Tryz.sortHot_ren := {
 mixed := by kernel_rfl
 f6 := ⟨Tryz.f143.name, by decide, Tryz.func143.trans (congrArg some (by kernel_rfl))⟩
 f14 := ⟨Tryz.f185.name, by decide, Tryz.func185.trans (congrArg some (by kernel_rfl))⟩
 f15 := Tryz.func172.trans (congrArg some (by kernel_rfl))
 f20 := ⟨Tryz.f211.name, by decide, Tryz.func211.trans (congrArg some (by kernel_rfl))⟩
 f21 := ⟨Tryz.f212.name, by decide, Tryz.func212.trans (congrArg some (by kernel_rfl))⟩
 f22 := ⟨Tryz.f213.name, by decide, Tryz.func213.trans (congrArg some (by kernel_rfl))⟩
 f23 := ⟨Tryz.f214.name, by decide, Tryz.func214.trans (congrArg some (by kernel_rfl))⟩
 f24 := ⟨Tryz.f215.name, by decide, Tryz.func215.trans (congrArg some (by kernel_rfl))⟩
 f25 := ⟨Tryz.f216.name, by decide, Tryz.func216.trans (congrArg some (by kernel_rfl))⟩
 f26 := ⟨Tryz.f217.name, by decide, Tryz.func217.trans (congrArg some (by kernel_rfl))⟩
 f27 := ⟨Tryz.f218.name, by decide, Tryz.func218.trans (congrArg some (by kernel_rfl))⟩
 f28 := Tryz.func207.trans (congrArg some (by kernel_rfl))
 f29 := Tryz.func208.trans (congrArg some (by kernel_rfl))
 f46 := ⟨Tryz.f235.name, by decide, Tryz.func235.trans (congrArg some (by kernel_rfl))⟩
 f47 := Tryz.func230.trans (congrArg some (by kernel_rfl))
 f48 := Tryz.func231.trans (congrArg some (by kernel_rfl))
 f49 := ⟨Tryz.f236.name, by decide, Tryz.func236.trans (congrArg some (by kernel_rfl))⟩
 f50 := ⟨Tryz.f237.name, by decide, Tryz.func237.trans (congrArg some (by kernel_rfl))⟩
 f57 := ⟨Tryz.f247.name, by decide, Tryz.func247.trans (congrArg some (by kernel_rfl))⟩
 t0 := Tryz.underlying0
 a0 := Tryz.isAgg0
 z0 := Tryz.sizeOf0
 v0 := Tryz.zeroValue0
 t3 := Tryz.underlying3
 a3 := Tryz.isAgg3
 z3 := Tryz.sizeOf3
 v3 := Tryz.zeroValue3
 t4 := Tryz.underlying4
 a4 := Tryz.isAgg4
 z4 := Tryz.sizeOf4
 v4 := Tryz.zeroValue4
 t5 := Tryz.underlying5
 a5 := Tryz.isAgg5
 z5 := Tryz.sizeOf5
 v5 := Tryz.zeroValue5
 t9 := Tryz.underlying9
 a9 := Tryz.isAgg9
 z9 := Tryz.sizeOf9
 v9 := Tryz.zeroValue9
 t22 := Tryz.underlying218
 a22 := Tryz.isAgg218
 z22 := Tryz.sizeOf218
 v22 := Tryz.zeroValue218
 t25 := Tryz.underlying221
 a25 := Tryz.isAgg221
 z25 := Tryz.sizeOf221
 v25 := Tryz.zeroValue221
 t39 := Tryz.underlying263
 a39 := Tryz.isAgg263
 z39 := Tryz.sizeOf263
 v39 := Tryz.zeroValue263
 t45 := Tryz.underlying282
 a45 := Tryz.isAgg282
 z45 := Tryz.sizeOf282
 v45 := Tryz.zeroValue282
 t46 := Tryz.underlying283
 a46 := Tryz.isAgg283
 z46 := Tryz.sizeOf283
 v46 := Tryz.zeroValue283
 t50 := Tryz.underlying252
 a50 := Tryz.isAgg252
 z50 := Tryz.sizeOf252
 v50 := Tryz.zeroValue252
 t53 := Tryz.underlying289
 a53 := Tryz.isAgg289
 z53 := Tryz.sizeOf289
 v53 := Tryz.zeroValue289
 t55 := Tryz.underlying291
 a55 := Tryz.isAgg291
 z55 := Tryz.sizeOf291
 v55 := Tryz.zeroValue291
 t66 := Tryz.underlying309
 a66 := Tryz.isAgg309
 z66 := Tryz.sizeOf309
 v66 := Tryz.zeroValue309
 t70 := Tryz.underlying313
 a70 := Tryz.isAgg313
 z70 := Tryz.sizeOf313
 v70 := Tryz.zeroValue313
 t76 := Tryz.underlying322
 a76 := Tryz.isAgg322
 z76 := Tryz.sizeOf322
 v76 := Tryz.zeroValue322
 t77 := Tryz.underlying323
 a77 := Tryz.isAgg323
 z77 := Tryz.sizeOf323
 v77 := Tryz.zeroValue323 }
end Go.Proofs
