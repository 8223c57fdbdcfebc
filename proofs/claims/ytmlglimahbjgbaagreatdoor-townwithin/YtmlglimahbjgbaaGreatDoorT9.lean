/-
 A part of the proof of the statement that the claim names: see the last file.
-/
import Derived.Test.YtmlglimahbjgbaaGreatDoorT4
import Derived.Test.YtmlglimahbjgbaaGreatDoorT7
import Derived.Test.YtmlglimahbjgbaaGreatDoorT8
import Derived.Test.YtmlglimahbjgbaaGreatDoorAm4
import Derived.Test.YtmlglimahbjgbaaGreatDoorRows
import Derived.ProofKit
import Derived.Stop.Joined
namespace Go.Proofs.YtmlglimahbjgbaaGreatDoor
open Go Go.Am Go.Town
def awakeF (ds : List D) : Option (Bool × D) :=
 match ds with
 | [] => some (true, Bo true)
 | _ => none
noncomputable section
def g1 (b : Bool) (k : Option D) : Option D := bif b then k else none
def an (b : Bool) (k : Option D) : Option D := bif b then k else some (Bo false)
def no (b : Bool) (k : Option D) : Option D := bif b then some (Bo false) else k
end
end Go.Proofs.YtmlglimahbjgbaaGreatDoor
namespace Go.Proofs.YtmlglimahbjgbaaGreatDoor
open Go Go.Am Go.Town Go.RowKit Go.ChangeShapes Go.WideShapes Go.ChangeAt
set_option maxRecDepth 100000
theorem awake_good {w0 : World} (h0 : Lib0 w0) : Good w0 ⟨13, awakeF⟩ := fun ds d hd => by
 simp only [awakeF] at hd
 split at hd
 ·cases hd
  exact bodyD_sound (C := cfgC w0 awC) (g := 13) (cfgC_ok w0 awC) (ev_sound (cfgC_ok w0 awC) (specs_ok h0 (awC_good h0)) 400) (fd := fnOf Tryz.f13) rfl awake_run
 ·cases hd
def lname (i : Nat) : String := (Rows.townPathsRow.laid.map (·.1)).getD i ""
def ldata (i : Nat) : DataW Unit := (Rows.townPathsRow.laid.map (·.2)).getD i .nil
def inside : DataW Unit → DataW Unit
 | .iface _ d => d
 | d => d
theorem gPlaces : Tryz.prog.globalNamed (lname 3) = some 0 := by kernel_rfl
theorem tPlaces : (Tryz.prog.globals[0]?).map (·.type) = some 253 := by kernel_rfl
theorem gPow : Tryz.prog.globalNamed (lname 2) = some 2 := by kernel_rfl
theorem tPow : (Tryz.prog.globals[2]?).map (·.type) = some 314 := by kernel_rfl
theorem gBruijn : Tryz.prog.globalNamed (lname 1) = some 6 := by kernel_rfl
abbrev tBru : Nat := 323
def ldList : DataW Unit → List (DataW Unit)
 | .agg l => l
 | _ => []
abbrev placeCells : List Value := [.func (.func 258) #[] #[], iv (-1000), iv 1000, .func (.func 259) #[] #[], iv (-1000), iv 1000, .func (.func 260) #[] #[], iv (-1000), iv 1000, .func (.func 261) #[] #[], iv (-1000), iv 1000]
theorem lit_cell {P : Program} {w : World} {H : Type} {enc : TypeId × Value → H} {base : Nat} {sp : Nat → Bool} {held : Bool} {fuel : Nat} {t : TypeId} {v : Value} {n : Int} {q : List MemPlace} (hu : P.underlying t = some (.int .i64))
  (h : DataW.trod enc P w base sp held fuel t [v] = some (.lit (.int .i64 n), q)) : v = .int .i64 n := by
 obtain ⟨z, hc, hz, _⟩ := DataW.trod_int hu h
 simp only [Prod.mk.injEq, DataW.lit.injEq, Lit.int.injEq, true_and] at hz
 simp only [List.cons.injEq, and_true] at hc
 rw [hc]
 first | rw [hz.1] | rw [hz] | skip
theorem len_three {α : Type} : ∀ {l : List α}, l.length = 3 → ∃ a b c, l = [a, b, c]
 | [a, b, c], _ => ⟨a, b, c, rfl⟩
 | [], h => by simp at h
 | [_], h => by simp at h
 | [_, _], h => by simp at h
 | _ :: _ :: _ :: _ :: _, h => by simp at h
theorem one_place {w : World} {fuel : Nat} {c0 c1 c2 : Value} {b : UInt8} {r : List UInt8} {f0 : FuncId} {q : List MemPlace}
  (hone : ((List.range Tryz.prog.funcs.size).filter fun f => (Tryz.prog.funcs[f]?).any (·.name.toUTF8.data.toList == b :: r)) = [f0])
  (h : DataW.trod (funcToken Tryz.prog) Tryz.prog w 0 (fun _ => true) true fuel 252 [c0, c1, c2] = some (.agg [.held (b :: r), .lit (.int .i64 (-1000)), .lit (.int .i64 1000)], q)) :
  c0 = .func (.func f0) #[] #[] ∧ c1 = iv (-1000) ∧ c2 = iv 1000 := by
 have hu : Tryz.prog.underlying 252 = some (.struct (Tryz.prog.fieldsOf 252)) := by kernel_rfl
 obtain ⟨f, hf⟩ := trod_struct_get hu h
 have hfs : (Tryz.prog.fieldsOf 252).toList.map (fun fd => (fd.type, fd.offset, Tryz.prog.cellsOf fd.type)) = [(250, 0, 1), (3, 1, 1), (3, 2, 1)] := by kernel_rfl
 obtain ⟨a0, a1, a2, hfl⟩ : ∃ a0 a1 a2, (Tryz.prog.fieldsOf 252).toList = [a0, a1, a2] := len_three (by
  have := congrArg List.length hfs
  simpa using this)
 rw [hfl] at hfs
 simp only [List.map_cons, List.map_nil, List.cons.injEq, Prod.mk.injEq, and_true] at hfs
 obtain ⟨⟨x1, x2, x3⟩, ⟨y1, y2, y3⟩, ⟨z1, z2, z3⟩⟩ := hfs
 obtain ⟨d0, q0, e0, h0⟩ := hf 0 a0 (by rw [hfl]; rfl)
 obtain ⟨d1, q1, e1, h1⟩ := hf 1 a1 (by rw [hfl]; rfl)
 obtain ⟨d2, q2, e2, h2⟩ := hf 2 a2 (by rw [hfl]; rfl)
 simp at e0 e1 e2
 subst e0 e1 e2
 rw [x1, x2] at h0
 rw [y1, y2] at h1
 rw [z1, z2] at h2
 have c1' : Tryz.prog.cellsOf 250 = 1 := by kernel_rfl
 have c3' : Tryz.prog.cellsOf 3 = 1 := by kernel_rfl
 rw [c1'] at h0
 rw [c3'] at h1 h2
 simp only [List.drop_zero, List.take_succ_cons, List.take_zero, List.drop_succ_cons] at h0 h1 h2
 have u250 : Tryz.prog.underlying 250 = some (.func #[33] #[3] false) := by kernel_rfl
 exact ⟨func_of_trod u250 hone h0, lit_cell Tryz.underlying3 h1, lit_cell Tryz.underlying3 h2⟩
theorem places_of {W : World} (hL : laidMetH Tryz.prog Rows.townPathsRow.laid W) : ∀ (j : Nat), W.cell? ⟨0, j, none⟩ = placeCells[j]? := by
 obtain ⟨g, t, cs, fuel, p, hg, ht, hv, hd⟩ := hL.funcs (n := lname 3) (d := inside (ldata 3)) (List.mem_of_getElem? (i := 3) rfl)
 obtain rfl := Option.some.inj (gPlaces.symm.trans hg)
 obtain rfl := Option.some.inj (tPlaces.symm.trans ht)
 have u253 : Tryz.prog.underlying 253 = some (.array 4 252) := by kernel_rfl
 have hs : cs.toList = placeCells := by
  have hd' : ∃ l0 l1 l2 l3 : List UInt8, ∃ b0 b1 b2 b3 : UInt8, DataW.trod (funcToken Tryz.prog) Tryz.prog W 0 (fun _ => true) true fuel 253 cs.toList = some (.agg [.agg [.held (b0 :: l0), .lit (.int .i64 (-1000)), .lit (.int .i64 1000)], .agg [.held (b1 :: l1), .lit (.int .i64 (-1000)), .lit (.int .i64 1000)], .agg [.held (b2 :: l2), .lit (.int .i64 (-1000)), .lit (.int .i64 1000)], .agg [.held (b3 :: l3), .lit (.int .i64 (-1000)), .lit (.int .i64 1000)]], p) ∧
    ((List.range Tryz.prog.funcs.size).filter fun f => (Tryz.prog.funcs[f]?).any (·.name.toUTF8.data.toList == b0 :: l0)) = [258] ∧ ((List.range Tryz.prog.funcs.size).filter fun f => (Tryz.prog.funcs[f]?).any (·.name.toUTF8.data.toList == b1 :: l1)) = [259] ∧
    ((List.range Tryz.prog.funcs.size).filter fun f => (Tryz.prog.funcs[f]?).any (·.name.toUTF8.data.toList == b2 :: l2)) = [260] ∧ ((List.range Tryz.prog.funcs.size).filter fun f => (Tryz.prog.funcs[f]?).any (·.name.toUTF8.data.toList == b3 :: l3)) = [261] :=
   ⟨_, _, _, _, _, _, _, _, hd, by kernel_rfl, by kernel_rfl, by kernel_rfl, by kernel_rfl⟩
  obtain ⟨l0, l1, l2, l3, b0, b1, b2, b3, hd', n0, n1, n2, n3⟩ := hd'
  obtain ⟨hl, f, hel⟩ := trod_array_get u253 hd'
  have c253 : Tryz.prog.cellsOf 253 = 12 := by kernel_rfl
  have c252 : Tryz.prog.cellsOf 252 = 3 := by kernel_rfl
  rw [c253] at hl
  rw [c252] at hel
  match hcl : cs.toList, hl with
  | [x0, x1, x2, x3, x4, x5, x6, x7, x8, x9, x10, x11], _ =>
    rw [hcl] at hel
    obtain ⟨d0, q0, e0, h0⟩ := hel 0 (by omega)
    obtain ⟨d1, q1, e1, h1⟩ := hel 1 (by omega)
    obtain ⟨d2, q2, e2, h2⟩ := hel 2 (by omega)
    obtain ⟨d3, q3, e3, h3⟩ := hel 3 (by omega)
    simp only [List.getElem?_cons_zero, List.getElem?_cons_succ, Option.some.injEq] at e0 e1 e2 e3
    subst e0 e1 e2 e3
    obtain ⟨rfl, rfl, rfl⟩ := one_place n0 h0
    obtain ⟨rfl, rfl, rfl⟩ := one_place n1 h1
    obtain ⟨rfl, rfl, rfl⟩ := one_place n2 h2
    obtain ⟨rfl, rfl, rfl⟩ := one_place n3 h3
    rfl
 intro j
 have := World.var?_cell hg hv j
 rw [this, ← Array.getElem?_toList, hs]
theorem plain_of {W : World} (hL : laidMetH Tryz.prog Rows.townPathsRow.laid W) : laidMet Tryz.prog [(lname 0, ldata 0), (lname 1, ldata 1), (lname 2, ldata 2)] W := by
 have h' : laidMet Tryz.prog [(lname 0, ldata 0), (lname 1, ldata 1), (lname 2, ldata 2)] W ∧ handlesMet Tryz.prog [(lname 3, ldata 3)] W := hL
 exact h'.1
theorem pow_of {W : World} (hL : laidMetH Tryz.prog Rows.townPathsRow.laid W) : Lib.TabIs Tryz.prog W (lname 2) .u64 Lib.pow10Tab := by
 obtain ⟨ps, ⟨_, _, _, _, _, _, _, _, _, _, ⟨_, _, _, _, _, _, _, _, _, _, ⟨g, t, cs, fuel, p, q, hg, ht, hvar, hd, _, _⟩, _⟩, _⟩, _⟩ := plain_of hL
 obtain rfl := Option.some.inj (gPow.symm.trans hg)
 obtain rfl := Option.some.inj (tPow.symm.trans ht)
 unfold Lib.TabIs
 have u314 : Tryz.prog.underlying 314 = some (.array 20 289) := by kernel_rfl
 have u289 : Tryz.prog.underlying 289 = some (.int .u64) := by kernel_rfl
 rw [hvar, ← Lib.cells_of_tab u314 u289 (by kernel_rfl) (by kernel_rfl) hd]
theorem size_of {W : World} (hL : laidMetH Tryz.prog Rows.townPathsRow.laid W) : 7 ≤ W.heap.size := by
 obtain ⟨ps, ⟨_, _, _, _, _, _, _, _, _, _, ⟨g, t, cs, fuel, p, q, hg, ht, hvar, hd, _, _⟩, _⟩, _⟩ := plain_of hL
 obtain rfl := Option.some.inj (gBruijn.symm.trans hg)
 have tB : (Tryz.prog.globals[6]?).map (·.type) = some tBru := by kernel_rfl
 obtain rfl := Option.some.inj (tB.symm.trans ht)
 have hb : Tryz.prog.underlying tBru = some (.array 64 5) := by kernel_rfl
 have hl := (trod_array_get hb (show DataW.trod (fun _ => ()) Tryz.prog W 0 (fun _ => true) false fuel tBru cs.toList = some (.agg (ldList (ldata 1)), p) from hd)).1
 have c64 : Tryz.prog.cellsOf tBru = 64 := by kernel_rfl
 rw [c64] at hl
 have hc := World.var?_cell hg hvar 0
 have hpos : 0 < cs.size := by rw [← Array.length_toList, hl]; omega
 have h0 : cs[0]? = some cs[0] := Array.getElem?_eq_getElem hpos
 rw [h0] at hc
 exact World.block_lt_of_cell? W _ hc
theorem base_of {W : World} (hL : laidMetH Tryz.prog Rows.townPathsRow.laid W) : Base (cfg W).G (cfg W).GB W := by
 refine ⟨⟨fun g j c hc => ?_, fun _ _ => rfl⟩, size_of hL, show (7 : Nat) ≤ K0 by decide, show (0 : Nat) < 7 by decide⟩
 have hc : (gl 258 259 260 261 g)[j]? = some c := hc
 unfold gl at hc
 split at hc
 ·have hc : placeCells[j]? = some c := hc
  refine ⟨by rw [places_of hL j]; exact hc, ?_, by show (0 : Nat) < 7; omega⟩
  have := List.mem_of_getElem? hc
  simp only [placeCells, List.mem_cons, List.not_mem_nil, or_false] at this
  rcases this with rfl | rfl | rfl | rfl | rfl | rfl | rfl | rfl | rfl | rfl | rfl | rfl <;> rfl
 ·simp at hc
theorem lib_of {W : World} (hL : laidMetH Tryz.prog Rows.townPathsRow.laid W) : Lib0 W := lib0 fun w hw n h1 h2 => by
 have hT := pow_of hL
 have hT' : Lib.TabIs Tryz.prog w (lname 2) .u64 Lib.pow10Tab := by
  unfold Lib.TabIs at hT ⊢
  rw [← hT]
  unfold World.var?
  rw [gPow]
  simp only [Option.bind_some]
  rw [hw 2 (by omega)]
 exact Any.strconv_Itoa Tryz.laysM171 n h1 h2 w hT'
theorem own : ownKnob Tryz.prog.godebug = none := by kernel_rfl
theorem laidOut : laidOutB Tryz.prog = true := by kernel_rfl
end Go.Proofs.YtmlglimahbjgbaaGreatDoor
