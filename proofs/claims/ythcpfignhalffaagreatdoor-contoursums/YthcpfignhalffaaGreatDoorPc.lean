/-
  A part of the proof of the statement that the claim names: see the last file.
-/
import Derived.Test.YthcpfignhalffaaGreatDoorP7
import Derived.Test.YthcpfignhalffaaGreatDoorP8
import Derived.Test.YthcpfignhalffaaGreatDoorP9
import Derived.Test.YthcpfignhalffaaGreatDoorPa
import Derived.Test.YthcpfignhalffaaGreatDoorPb
namespace Go.Proofs.YthcpfignhalffaaGreatDoor
open Go Go.Am Go.RowKit Go.ChangeShapes Go.WideShapes Go.ChangeAt
set_option maxRecDepth 100000


theorem law5_fn {w0 : World} (h0 : Lib0 w0) (x y i v : Int) : (∀ gs : List Gr, gs ≠ [] → len17 gs = true → FnD (cfg w0) 5 [slG gs, .agg [I x, I y], .agg [I i, I v]] (Bo true)) ∧ FnD (cfg w0) 5 [nilD, .agg [I x, I y], .agg [I i, I v]] (Bo true) ∧ FnD (cfg w0) 5 [.emp 3, .agg [I x, I y], .agg [I i, I v]] (Bo true) := by
  have go : ∀ {gs : List Gr} {d : D}, len17 gs = true → bodyK ((cfg w0).at csS) 60 (fnOf Tryz.f5) [d, .agg [I x, I y], .agg [I i, I v]] = law5 gs x y i v → FnD (cfg w0) 5 [d, .agg [I x, I y], .agg [I i, I v]] (Bo true) :=
    fun hl h => fnD_k (cfg_ok w0) h0 (csS_gd h0) (fd := fnOf Tryz.f5) rfl (h.trans (law5_true hl))
  refine ⟨fun gs hne h17 => ?_, go (gs := []) rfl (run5_n ..), go (gs := []) rfl (run5_e ..)⟩
  have h4 := h17
  unfold len17 at h4
  rw [Bool.or_eq_true] at h4
  rcases h4 with h4 | h4
  · rcases four h4 hne with ⟨a, rfl⟩ | ⟨a, b, rfl⟩ | ⟨a, b, c, rfl⟩ | ⟨a, b, c, e, rfl⟩
    · exact go h17 (run5_1 ..)
    · exact go h17 (run5_2 ..)
    · exact go h17 (run5_3 ..)
    · exact go h17 (run5_4 ..)
  · obtain ⟨g1, g2, g3, g4, g5, g6, g7, g8, g9, g10, g11, g12, g13, g14, g15, g16, g17, rfl⟩ := seventeen (Nat.eq_of_beq_eq_true h4)
    exact go h17 (run5_17 ..)

abbrev ssG : List Sh := [.c ik, .c ik, .v intK]
abbrev ptsK : List Kd := [ik, ik]
def grOf (a : ArgT ssG) : Gr := ⟨a.1, a.2.1, a.2.2.1⟩
theorem flatG_eq : ∀ l : List (ArgT ssG), (l.map (toShs ssG)).flatten = gsC (l.map grOf)
  | [] => rfl
  | a :: l => by
    rw [List.map_cons, List.flatten_cons, flatG_eq l]
    rfl
theorem slG_eq (l : List (ArgT ssG)) : D.sl l.length 3 (l.map (toShs ssG)).flatten = slG (l.map grOf) := by
  unfold slG
  rw [flatG_eq, List.length_map]
theorem len17_of {gs : List Gr} (h : gs.length ≤ 4 ∨ gs.length = 17) : len17 gs = true := by
  unfold len17
  rcases h with h | h
  · match gs, h with
    | [], _ => rfl
    | [_], _ => rfl
    | [_, _], _ => rfl
    | [_, _, _], _ => rfl
    | [_, _, _, _], _ => rfl
    | _ :: _ :: _ :: _ :: _ :: _, h => simp at h
  · rw [h, Bool.or_eq_true]; exact .inr rfl

theorem law5_all {w0 : World} (h0 : Lib0 w0) {w : World} {v : Value}
    (hv : (∀ (G : Gl) (GB : Nat), ImpOK G GB w (.val (.slice none 0 0)) v) ∨ (∀ (G : Gl) (GB : Nat), ImpOK G GB w (.emp ssG.length) v) ∨
      ∃ l : List (ArgT ssG), l ≠ [] ∧ (∀ x ∈ l, WfA ssG x) ∧ ∀ (G : Gl) (GB : Nat), ImpOK G GB w (.sl l.length ssG.length (l.map (toShs ssG)).flatten) v ∧ ImpOK G GB w (.sl l.length ssG.length []) v)
    (p n : Tup ptsK) : ∃ d : D, (∀ (G : Gl) (GB : Nat), ImpOK G GB w d v) ∧ FnD (cfg w0) 5 [d, .agg ((toVs ptsK p).map .val), .agg ((toVs ptsK n).map .val)] (Bo true) := by
  obtain ⟨x, y, u⟩ := p
  obtain ⟨i, k, u'⟩ := n
  have L := law5_fn h0 x y i k
  rcases hv with hv | hv | ⟨l, hne, _, hv⟩
  · exact ⟨nilD, hv, L.2.1⟩
  · exact ⟨.emp 3, hv, L.2.2⟩
  · by_cases h5 : l.length ≤ 4 ∨ l.length = 17
    · refine ⟨slG (l.map grOf), fun G GB => ?_, L.1 _ (by simpa using hne) (len17_of (by rw [List.length_map]; exact h5))⟩
      rw [← slG_eq]
      exact (hv G GB).1
    · exact ⟨.sl l.length 3 [], fun G GB => (hv G GB).2, law5_long h0 (by omega) (by omega) x y i k⟩

theorem laid5 : Rows.contourSumsRow.laid = Rows.contourTilesRow.laid := rfl
theorem params5_eq : Tryz.f5.params.toList = [77, 27, 78] := by kernel_rfl
theorem elG : Tryz.prog.underlying 77 = some (.slice 24) := by kernel_rfl
theorem lvG : leavesS Tryz.prog 8 24 = some ssG := by kernel_rfl
theorem sizeG : Tryz.prog.cellsOf 24 = ssG.length := by kernel_rfl
theorem shP27 : shOk Tryz.prog 27 (.b ptsK) = true := by kernel_rfl
theorem shP78 : shOk Tryz.prog 78 (.b ptsK) = true := by kernel_rfl

abbrev arg5 : Array Value := #[.slice none 0 0, .agg #[iv 0, iv 0], .agg #[iv 0, iv 0]]

theorem lifted (os : Os) (started : os.Started) (H : Type) (enc : TypeId × Value → H) :
    ReturnsInHanded {} Tryz.checked os 5 .any (fun w args => (Rows.contourSumsSpec.pre enc Tryz.prog Tryz.f5 [] false w args ∧ laidMetH Tryz.prog Rows.contourSumsRow.laid w) ∧ sizedMet enc Tryz.prog Tryz.f5 (OpenSpec.ofChange Rows.contourSumsSpec) false w args)
      (Rows.contourSumsSpec.post enc Tryz.prog Tryz.f5 false true false false) := by
  refine returnsInHanded_of_change_and (C := Tryz.checked) (X := fun w _ => laidMetH Tryz.prog Rows.contourSumsRow.laid w) (fun _ _ _ hh h => h.of_heap hh) own started (by kernel_rfl) Tryz.func5
    (ChangeSpec.witness_shaped (enc := enc) (C := Tryz.checked) (os := os) (X := fun w _ => laidMetH Tryz.prog Rows.contourSumsRow.laid w) false (World.doorLaid Tryz.prog 600 os) arg5 8 rfl (World.shaped_of_RefB (by kernel_rfl) (by kernel_rfl)) (by kernel_rfl) (by kernel_rfl) (by kernel_rfl) (door_met os _)) ?_
  intro W base args ds gs before hval0 hW _ _ hL _
  have hval : ∀ (j : Nat) t v, Tryz.f5.params.toList[j]? = some t → args.toList[j]? = some v → Value.okWide Tryz.prog W .any base t v := fun j t v h1 h2 => hval0 j t v (by simpa using h1) (by simpa using h2)
  have hW' := hW
  obtain ⟨p, q, hA0, hV, rfl, hfz, hnd⟩ := hW
  have hA : DataW.TrodAll enc Tryz.prog W 0 (fun _ => true) true Tryz.f5.params.toList args.toList ds p := hA0
  obtain ⟨rfl, rfl⟩ := trodVars_none hV
  have hA2 := hA
  rw [params5_eq] at hA2 hval
  obtain ⟨v0, vs1, d0, ds1, p0, q0, e1, rfl, _, t0, hA3⟩ := ChangeShapes.trodAll_cons hA2
  obtain ⟨v1, vs2, d1, ds2, p1, q1, e2, rfl, _, t1, hA4⟩ := ChangeShapes.trodAll_cons hA3
  obtain ⟨v2, vs3, d2, ds3, p2, q2, e3, rfl, _, t2, hA5⟩ := ChangeShapes.trodAll_cons hA4
  obtain ⟨rfl, rfl, _⟩ := ChangeShapes.trodAll_nil hA5
  subst e3
  subst e2
  have a0 := sl_arg elG lvG sizeG (by decide) (hval 0 77 v0 rfl (by rw [e1]; rfl)) t0
  obtain ⟨a, _, a1⟩ := b_imp shP27 (hval 1 27 v1 rfl (by rw [e1]; rfl)) t1
  obtain ⟨b, _, a2⟩ := b_imp shP78 (hval 2 78 v2 rfl (by rw [e1]; rfl)) t2
  have h0 := lib_of hL
  have hb := base_of hL
  obtain ⟨d, hd, hF⟩ := law5_all h0 a0 a b
  have himp : ImpsOK (cfg W).G (cfg W).GB W [d, .agg ((toVs ptsK a).map .val), .agg ((toVs ptsK b).map .val)] args.toList := by
    rw [e1]
    exact ImpsOK.cons (hd _ _) (ImpsOK.cons (a1 _ _) (ImpsOK.cons (a2 _ _) ⟨rfl, fun j d u h => by simp at h⟩))
  refine (fnD_below (C := cfg W) rfl hF hb himp).mono fun e' W' ⟨he, hB⟩ => ?_
  subst he
  exact ⟨_, rfl, ⟨_, _, _, [], _, [], hW', trodAll_mk1 (shut_bool Tryz.underlying4 true), all_below laidOut hB _ _ _ _ (by kernel_rfl) hA (fun x hx => by simpa using hW'.lt x (by simpa using hx)), rfl, hB.frame _, fun h => by cases h⟩⟩
end Go.Proofs.YthcpfignhalffaaGreatDoor
