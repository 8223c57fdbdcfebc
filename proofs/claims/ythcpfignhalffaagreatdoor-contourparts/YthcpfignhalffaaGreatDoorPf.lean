/-
 A part of the proof of the statement that the claim names: see the last file.
-/
import Derived.Test.YthcpfignhalffaaGreatDoorC5
import Derived.Test.YthcpfignhalffaaGreatDoorAm5
import Derived.Test.YthcpfignhalffaaGreatDoorRows
import Derived.ProofKit
import Derived.MakeChecks
import Derived.Stop.Joined
import Derived.Lay
namespace Go.Proofs.YthcpfignhalffaaGreatDoor
open Go Go.Am Go.RowKit Go.ChangeShapes Go.WideShapes Go.ChangeAt
set_option maxRecDepth 100000
def lname (i : Nat) : String := (Rows.contourTilesRow.laid.map (·.1)).getD i ""
def ldata (i : Nat) : DataW Unit := (Rows.contourTilesRow.laid.map (·.2)).getD i .nil
theorem gBru64 : Tryz.prog.globalNamed (lname 1) = some 7 := by kernel_rfl
theorem gPow : Tryz.prog.globalNamed (lname 2) = some 3 := by kernel_rfl
theorem gBase : Tryz.prog.globalNamed (lname 3) = some 1 := by kernel_rfl
theorem gSides : Tryz.prog.globalNamed (lname 4) = some 0 := by kernel_rfl
theorem tSides : (Tryz.prog.globals[0]?).map (·.type) = some 257 := by kernel_rfl
theorem tBase : (Tryz.prog.globals[1]?).map (·.type) = some 325 := by kernel_rfl
theorem tPow : (Tryz.prog.globals[3]?).map (·.type) = some 335 := by kernel_rfl
theorem tBru64 : (Tryz.prog.globals[7]?).map (·.type) = some 344 := by kernel_rfl
theorem vars_of {W : World} : ∀ {l : List (String × DataW Unit)} {ps : List MemPlace}, DataW.LaidVars Tryz.prog W l ps → ∀ {n : String} {d : DataW Unit}, (n, d) ∈ l →
  ∃ g t cs fuel p, Tryz.prog.globalNamed n = some g ∧ (Tryz.prog.globals[g]?).map (·.type) = some t ∧ W.var? Tryz.prog n = some cs ∧ DataW.trod (fun _ => ()) Tryz.prog W 0 (fun _ => true) false fuel t cs.toList = some (d, p)
 | [], _, _, _, _, hm => by cases hm
 | (n', d') :: r, ps, h, n, d, hm => by
   obtain ⟨g, t, cs, fuel, p, q, h1, h2, h3, h4, h5, _⟩ := h
   rcases List.mem_cons.1 hm with e | hm
   ·cases e
    exact ⟨g, t, cs, fuel, p, h1, h2, h3, h4⟩
   ·exact vars_of h5 hm
theorem plain_of {W : World} (hL : laidMetH Tryz.prog Rows.contourTilesRow.laid W) : laidMet Tryz.prog Rows.contourTilesRow.laid W := by
 rw [Go.MakeChecks.laidMetH_plain _ _ _ (by kernel_rfl)] at hL
 exact hL
theorem laid_at (i : Nat) (hi : i < 5) : (lname i, ldata i) ∈ Rows.contourTilesRow.laid := by
 match i, hi with
 | 0, _ => exact List.mem_of_getElem? (i := 0) rfl
 | 1, _ => exact List.mem_of_getElem? (i := 1) rfl
 | 2, _ => exact List.mem_of_getElem? (i := 2) rfl
 | 3, _ => exact List.mem_of_getElem? (i := 3) rfl
 | 4, _ => exact List.mem_of_getElem? (i := 4) rfl
theorem at_of {W : World} (hL : laidMetH Tryz.prog Rows.contourTilesRow.laid W) {i g t : Nat} (hi : i < 5) (hg : Tryz.prog.globalNamed (lname i) = some g) (ht : (Tryz.prog.globals[g]?).map (·.type) = some t) :
  ∃ cs fuel p, W.var? Tryz.prog (lname i) = some cs ∧ DataW.trod (fun _ => ()) Tryz.prog W 0 (fun _ => true) false fuel t cs.toList = some (ldata i, p) := by
 obtain ⟨ps, hv, _⟩ := plain_of hL
 obtain ⟨g', t', cs, fuel, p, hg', ht', h3, h4⟩ := vars_of hv (laid_at i hi)
 obtain rfl := Option.some.inj (hg.symm.trans hg')
 obtain rfl := Option.some.inj (ht.symm.trans ht')
 exact ⟨cs, fuel, p, h3, h4⟩
theorem dSides : dcs Tryz.prog 8 257 (ldata 4) = some (gl 0) := by kernel_rfl
theorem dBase : dcs Tryz.prog 8 325 (ldata 3) = some (gl 1) := by kernel_rfl
theorem cells_at {W : World} (hL : laidMetH Tryz.prog Rows.contourTilesRow.laid W) {i g t : Nat} {l : List Value} (hi : i < 5) (hg : Tryz.prog.globalNamed (lname i) = some g) (ht : (Tryz.prog.globals[g]?).map (·.type) = some t)
  (hd : dcs Tryz.prog 8 t (ldata i) = some l) (j : Nat) (c : Value) (hc : l[j]? = some c) : W.cell? ⟨g, j, none⟩ = some c := by
 obtain ⟨cs, fuel, p, hv, h⟩ := at_of hL hi hg ht
 have hl := dcs_cells 8 t (ldata i) l fuel cs.toList p hd h
 have := World.var?_cell hg hv j
 rw [this, ← Array.getElem?_toList]
 have hj : j < l.length := (List.getElem?_eq_some_iff.1 hc).1
 rw [← hl, List.getElem?_take] at hc
 rw [if_pos hj] at hc
 exact hc
theorem pow_of {W : World} (hL : laidMetH Tryz.prog Rows.contourTilesRow.laid W) : Lib.TabIs Tryz.prog W (lname 2) .u64 Lib.pow10Tab := by
 obtain ⟨cs, fuel, p, hvar, hd⟩ := at_of hL (by omega) gPow tPow
 unfold Lib.TabIs
 have u1 : Tryz.prog.underlying 335 = some (.array 20 291) := by kernel_rfl
 have u2 : Tryz.prog.underlying 291 = some (.int .u64) := by kernel_rfl
 rw [hvar, ← Lib.cells_of_tab u1 u2 (by kernel_rfl) (by kernel_rfl) hd]
theorem size_of {W : World} (hL : laidMetH Tryz.prog Rows.contourTilesRow.laid W) : 8 ≤ W.heap.size := by
 have h0 : (dcs Tryz.prog 8 344 (ldata 1)).bind (·[0]?) = some (Value.int .u8 0) := by kernel_rfl
 obtain ⟨l, hl, hc⟩ := Option.bind_eq_some_iff.1 h0
 have hc := cells_at hL (i := 1) (j := 0) (by omega) gBru64 tBru64 hl _ hc
 exact World.block_lt_of_cell? W _ hc
theorem base_of {W : World} (hL : laidMetH Tryz.prog Rows.contourTilesRow.laid W) : Base (cfg W).G (cfg W).GB W := by
 refine ⟨⟨fun g j c hc => ?_, fun _ _ => rfl⟩, size_of hL, show (8 : Nat) ≤ K0 by decide, show (0 : Nat) < 8 by decide⟩
 have hc : (gl g)[j]? = some c := hc
 have hm := List.mem_of_getElem? hc
 have hs0 : ∀ v ∈ gl 0, Am.scal v = true := by
  intro v hv
  simp only [gl, List.mem_map] at hv
  obtain ⟨n, _, rfl⟩ := hv
  rfl
 have hs1 : ∀ v ∈ gl 1, Am.scal v = true := by
  intro v hv
  simp only [gl, List.mem_map] at hv
  obtain ⟨n, _, rfl⟩ := hv
  rfl
 match g, hc, hm with
 | 0, hc, hm => exact ⟨cells_at hL (by omega) gSides tSides dSides j c hc, hs0 _ hm, by show (0 : Nat) < 8; omega⟩
 | 1, hc, hm => exact ⟨cells_at hL (by omega) gBase tBase dBase j c hc, hs1 _ hm, by show (1 : Nat) < 8; omega⟩
 | g + 2, hc, _ => simp [gl] at hc
theorem lib_of {W : World} (hL : laidMetH Tryz.prog Rows.contourTilesRow.laid W) : Lib0 W := lib0 fun w hw n h1 h2 => by
 have hT := pow_of hL
 have hT' : Lib.TabIs Tryz.prog w (lname 2) .u64 Lib.pow10Tab := by
  unfold Lib.TabIs at hT ⊢
  rw [← hT]
  unfold World.var?
  rw [gPow]
  simp only [Option.bind_some]
  rw [hw 3 (by omega)]
 exact Any.strconv_Itoa Tryz.laysM171 n h1 h2 w hT'
theorem own : ownKnob Tryz.prog.godebug = none := by kernel_rfl
theorem laidOut : laidOutB Tryz.prog = true := by kernel_rfl
end Go.Proofs.YthcpfignhalffaaGreatDoor
namespace Go.Proofs.YthcpfignhalffaaGreatDoor
open Go Go.Am Go.RowKit Go.ChangeShapes Go.WideShapes Go.ChangeAt
set_option maxRecDepth 100000
def sname (i : Nat) : String := (Rows.contourStringsRow.laid.map (·.1)).getD i ""
def sdata (i : Nat) : DataW Unit := (Rows.contourStringsRow.laid.map (·.2)).getD i .nil
theorem plain_s {W : World} (hL : laidMetH Tryz.prog Rows.contourStringsRow.laid W) : laidMet Tryz.prog [(sname 0, sdata 0), (sname 1, sdata 1), (sname 2, sdata 2), (sname 3, sdata 3), (sname 4, sdata 4), (sname 5, sdata 5), (sname 6, sdata 6)] W := by
 rw [Go.MakeChecks.laidMetH_plain _ _ _ (by kernel_rfl)] at hL
 exact hL
theorem sub_app {α : Type} (a : List α) {b c : List α} (h : b.Sublist c) : (a ++ b).Sublist (a ++ c) := List.Sublist.append (.refl a) h
theorem sub_skip {α : Type} (a : List α) {b c : List α} (h : b.Sublist c) : b.Sublist (a ++ c) := h.trans (List.sublist_append_right a c)
theorem short_of {W : World} (hL : laidMetH Tryz.prog Rows.contourStringsRow.laid W) : laidMetH Tryz.prog Rows.contourTilesRow.laid W := by
 obtain ⟨ps, hv, hn, hc⟩ := plain_s hL
 obtain ⟨g0, t0, cs0, f0, p0, q0, a0, b0, c0, d0, h1, e0⟩ := hv
 obtain ⟨g1, t1, cs1, f1, p1, q1, a1, b1, c1, d1, h2, e1⟩ := h1
 obtain ⟨g2, t2, cs2, f2, p2, q2, a2, b2, c2, d2, h3, e2⟩ := h2
 obtain ⟨g3, t3, cs3, f3, p3, q3, a3, b3, c3, d3, h4, e3⟩ := h3
 obtain ⟨g4, t4, cs4, f4, p4, q4, a4, b4, c4, d4, h5, e4⟩ := h4
 obtain ⟨g5, t5, cs5, f5, p5, q5, a5, b5, c5, d5, h6, e5⟩ := h5
 obtain ⟨X, hX⟩ : ∃ X, X = MemPlace.row ⟨g0, 0, none⟩ cs0.size ++ p0 ++ (MemPlace.row ⟨g1, 0, none⟩ cs1.size ++ p1 ++ (MemPlace.row ⟨g2, 0, none⟩ cs2.size ++ p2 ++ (MemPlace.row ⟨g4, 0, none⟩ cs4.size ++ p4 ++ (MemPlace.row ⟨g5, 0, none⟩ cs5.size ++ p5 ++ [])))) := ⟨_, rfl⟩
 have e : X.Sublist ps := by
  rw [e0, e1, e2, e3, e4, e5, hX]
  exact sub_app _ (sub_app _ (sub_app _ (sub_skip _ (sub_app _ (sub_app _ (List.nil_sublist _))))))
 have hs : laidMet Tryz.prog [(lname 0, ldata 0), (lname 1, ldata 1), (lname 2, ldata 2), (lname 3, ldata 3), (lname 4, ldata 4)] W :=
  ⟨X, ⟨g0, t0, cs0, f0, p0, _, a0, b0, c0, d0, ⟨g1, t1, cs1, f1, p1, _, a1, b1, c1, d1, ⟨g2, t2, cs2, f2, p2, _, a2, b2, c2, d2, ⟨g4, t4, cs4, f4, p4, _, a4, b4, c4, d4, ⟨g5, t5, cs5, f5, p5, _, a5, b5, c5, d5, rfl, rfl⟩, rfl⟩, rfl⟩, rfl⟩, hX⟩,
   hn.sublist e, fun b off hm => hc b off (e.subset hm)⟩
 rw [Go.MakeChecks.laidMetH_plain _ _ _ (by kernel_rfl)]
 exact hs
theorem base_s {W : World} (hL : laidMetH Tryz.prog Rows.contourStringsRow.laid W) : Base (cfg W).G (cfg W).GB W := base_of (short_of hL)
theorem lib_s {W : World} (hL : laidMetH Tryz.prog Rows.contourStringsRow.laid W) : Lib0 W := lib_of (short_of hL)
end Go.Proofs.YthcpfignhalffaaGreatDoor
namespace Go.Proofs.YthcpfignhalffaaGreatDoor
open Go Go.Am Go.RowKit Go.ChangeShapes Go.WideShapes Go.ChangeAt
set_option maxRecDepth 100000
noncomputable def worldS (os : Os) : World := (World.doorLaid Tryz.prog 600 os).layVars Tryz.prog [(sname 6, sdata 6)]
theorem worldS_os (os : Os) : (worldS os).os = os := (World.layVars_os _ _ _).trans rfl
theorem shaped_s (os : Os) (args : Array Value) : ((worldS os).forCall (fun _ _ => 0) ⟨#[], args, []⟩).Shaped Tryz.prog := World.shaped_of_ZipB (by kernel_rfl) (by kernel_rfl)
theorem plainS (os : Os) (args : Array Value) : laidMet Tryz.prog (Rows.contourStringsRow.laid.filter fun x => x.2.handleName?.isNone) ((worldS os).forCall (fun _ _ => 0) ⟨#[], args, []⟩).memory :=
 laidMet_layVars (w0 := World.doorLaid Tryz.prog 600 os) [sname 6] [6, 7, 3, 5, 1, 0] rfl (by kernel_rfl) (by kernel_rfl)
  (LaidIn.of_run [6, 7, 3, 5, 1, 0] 8 (by kernel_rfl) (by kernel_rfl) (by kernel_rfl) (by kernel_rfl))
theorem door_s (os : Os) (args : Array Value) : laidMetH Tryz.prog Rows.contourStringsRow.laid ((worldS os).forCall (fun _ _ => 0) ⟨#[], args, []⟩).memory := by
 rw [Go.MakeChecks.laidMetH_plain _ _ _ (by kernel_rfl)]
 exact plainS os args
end Go.Proofs.YthcpfignhalffaaGreatDoor
