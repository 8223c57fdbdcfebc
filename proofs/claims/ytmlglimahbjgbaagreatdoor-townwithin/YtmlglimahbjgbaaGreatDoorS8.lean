/-
 A part of the proof of the statement that the claim names: see the last file.
-/
import Derived.Test.YtmlglimahbjgbaaGreatDoorT9
import Derived.Lay
namespace Go.Proofs.YtmlglimahbjgbaaGreatDoor
open Go Go.Am Go.RowKit Go.ChangeShapes Go.WideShapes Go.ChangeAt
set_option maxRecDepth 100000
def sname (i : Nat) : String := (Rows.townStringsRow.laid.map (·.1)).getD i ""
def sdata (i : Nat) : DataW Unit := (Rows.townStringsRow.laid.map (·.2)).getD i .nil
theorem plain_s {W : World} (hL : laidMetH Tryz.prog Rows.townStringsRow.laid W) : laidMet Tryz.prog [(sname 0, sdata 0), (sname 1, sdata 1), (sname 2, sdata 2), (sname 3, sdata 3), (sname 5, sdata 5)] W ∧ handlesMet Tryz.prog [(sname 4, sdata 4)] W := hL
theorem short_of {W : World} (hL : laidMetH Tryz.prog Rows.townStringsRow.laid W) : laidMetH Tryz.prog Rows.townPathsRow.laid W := by
 obtain ⟨⟨ps, hv, hn, hc⟩, hh⟩ := plain_s hL
 obtain ⟨g0, t0, cs0, f0, p0, q0, a0, b0, c0, d0, h1, e0⟩ := hv
 obtain ⟨g1, t1, cs1, f1, p1, q1, a1, b1, c1, d1, h2, e1⟩ := h1
 obtain ⟨g2, t2, cs2, f2, p2, q2, a2, b2, c2, d2, h3, e2⟩ := h2
 obtain ⟨X, hX⟩ : ∃ X, X = MemPlace.row ⟨g0, 0, none⟩ cs0.size ++ p0 ++ (MemPlace.row ⟨g1, 0, none⟩ cs1.size ++ p1 ++ (MemPlace.row ⟨g2, 0, none⟩ cs2.size ++ p2 ++ [])) := ⟨_, rfl⟩
 have e : ps = X ++ q2 := by rw [e0, e1, e2, hX]; simp only [List.append_assoc, List.append_nil]
 have hs : laidMet Tryz.prog [(lname 0, ldata 0), (lname 1, ldata 1), (lname 2, ldata 2)] W :=
  ⟨X, ⟨g0, t0, cs0, f0, p0, _, a0, b0, c0, d0, ⟨g1, t1, cs1, f1, p1, _, a1, b1, c1, d1, ⟨g2, t2, cs2, f2, p2, _, a2, b2, c2, d2, rfl, rfl⟩, rfl⟩, hX⟩,
   by rw [e] at hn; exact (List.nodup_append.1 hn).1, fun b off hm => hc b off (by rw [e]; exact List.mem_append_left _ hm)⟩
 have hh' : handlesMet Tryz.prog [(lname 3, ldata 3)] W := hh
 exact ⟨hs, hh'⟩
theorem base_s {W : World} (hL : laidMetH Tryz.prog Rows.townStringsRow.laid W) : Base (cfg W).G (cfg W).GB W := base_of (short_of hL)
theorem lib_s {W : World} (hL : laidMetH Tryz.prog Rows.townStringsRow.laid W) : Lib0 W := lib_of (short_of hL)
end Go.Proofs.YtmlglimahbjgbaaGreatDoor
namespace Go.Proofs.YtmlglimahbjgbaaGreatDoor
open Go Go.Am Go.RowKit Go.ChangeShapes Go.WideShapes Go.ChangeAt
set_option maxRecDepth 100000
noncomputable def worldS (os : Os) : World := (World.doorLaid Tryz.prog 600 os).layVars Tryz.prog [(sname 5, sdata 5)]
theorem worldS_os (os : Os) : (worldS os).os = os := (World.layVars_os _ _ _).trans rfl
theorem shaped_s (os : Os) (args : Array Value) : ((worldS os).forCall (fun _ _ => 0) ⟨#[], args, []⟩).Shaped Tryz.prog := World.shaped_of_ZipB (by kernel_rfl) (by kernel_rfl)
theorem plainS (os : Os) (args : Array Value) : laidMet Tryz.prog (Rows.townStringsRow.laid.filter fun x => x.2.handleName?.isNone) ((worldS os).forCall (fun _ _ => 0) ⟨#[], args, []⟩).memory :=
 laidMet_layVars (w0 := World.doorLaid Tryz.prog 600 os) [sname 5] [5, 6, 2, 4] rfl (by kernel_rfl) (by kernel_rfl)
  (LaidIn.of_run [5, 6, 2, 4] 8 (by kernel_rfl) (by kernel_rfl) (by kernel_rfl) (by kernel_rfl))
theorem door_s (os : Os) (args : Array Value) : laidMetH Tryz.prog Rows.townStringsRow.laid ((worldS os).forCall (fun _ _ => 0) ⟨#[], args, []⟩).memory :=
 laidMetH_of_parts3 (fuel := 8) (plainS os args) (by kernel_rfl) (by kernel_rfl)
end Go.Proofs.YtmlglimahbjgbaaGreatDoor
