/-
 A part of the proof of the statement that the claim names: see the last file.
-/
import Derived.Test.YthcpfignhalffaaGreatDoorPo
import Derived.Test.YthcpfignhalffaaGreatDoorAm4
import Derived.Test.YthcpfignhalffaaGreatDoorPp
namespace Go.Proofs.YthcpfignhalffaaGreatDoor
open Go Go.Am Go.RowKit Go.ChangeShapes Go.WideShapes Go.ChangeAt
set_option maxRecDepth 100000
noncomputable def n3 (a b c : Int) : D := .agg [.val (.int .u8 a), .val (.int .u8 b), .val (.int .u8 c)]
noncomputable def cfgM (w0 : World) : Cfg := { cfg w0 with fn := fun f => match Nat.beq f 42 with
 | true => none
 | false => (cfg w0).fn f }
theorem cfgM_ok (w0 : World) : CfgOk (cfgM w0) := ⟨(cfg_ok w0).ty, fun f fd h => by
 unfold cfgM at h
 simp only at h
 split at h
 ·cases h
 ·exact (cfg_ok w0).fn f fd h, (cfg_ok w0).mixed⟩
theorem cfgM_sp {w0 : World} (h0 : Lib0 w0) : SpecOK (cfgM w0) := h0
theorem run6_long {w0 : World} (n : Nat) (pp : List (Tup ptK)) (v : Int) (vs : List (Tup intK)) (a b c : Int) : bodyK ((cfgM w0).at [c14]) 60 (fnOf Tryz.f6) [.sl n 3 [], .agg [.vec ptK pp, I v, .vec intK vs], n3 a b c] =
  bif decide ((n : Int) < 1) then some (Bo true) else bif decide ((n : Int) > 4) then some (Bo true) else none := by kernel_rfl
theorem run6_n {w0 : World} (pp : List (Tup ptK)) (v : Int) (vs : List (Tup intK)) (a b c : Int) : bodyK ((cfgM w0).at [c14]) 60 (fnOf Tryz.f6) [nilD, .agg [.vec ptK pp, I v, .vec intK vs], n3 a b c] = some (Bo true) := by kernel_rfl
theorem run6_e {w0 : World} (pp : List (Tup ptK)) (v : Int) (vs : List (Tup intK)) (a b c : Int) : bodyK ((cfgM w0).at [c14]) 60 (fnOf Tryz.f6) [.emp 3, .agg [.vec ptK pp, I v, .vec intK vs], n3 a b c] = some (Bo true) := by kernel_rfl
abbrev ssG : List Sh := [.c ik, .c ik, .v intK]
abbrev ssC : List Sh := [.v ptK, .c ik, .v intK]
abbrev u8K : List Kd := [.int .u8, .int .u8, .int .u8]
def grOf (a : ArgT ssG) : Gr := ⟨a.1, a.2.1, a.2.2.1⟩
theorem flatG_eq : ∀ l : List (ArgT ssG), (l.map (toShs ssG)).flatten = gsC (l.map grOf)
 | [] => rfl
 | a :: l => by
   rw [List.map_cons, List.flatten_cons, flatG_eq l]
   rfl
theorem slG_eq (l : List (ArgT ssG)) : D.sl l.length 3 (l.map (toShs ssG)).flatten = slG (l.map grOf) := by
 unfold slG
 rw [flatG_eq, List.length_map]
theorem len4_of {gs : List Gr} (h : gs.length ≤ 4) : len4 gs = true := by
 match gs, h with
 | [], _ => rfl
 | [_], _ => rfl
 | [_, _], _ => rfl
 | [_, _, _], _ => rfl
 | [_, _, _, _], _ => rfl
 | _ :: _ :: _ :: _ :: _ :: _, h => simp at h
theorem u8_in {n : Int} (h : (Lit.int .u8 n).wf = true) : 0 ≤ n ∧ n ≤ 255 := by
 have h : (decide (0 ≤ n) && decide (n ≤ 255)) = true := h
 simpa using h
theorem law6_all {w0 : World} (h0 : Lib0 w0) {w : World} {v : Value}
  (hv : (∀ (G : Gl) (GB : Nat), ImpOK G GB w (.val (.slice none 0 0)) v) ∨ (∀ (G : Gl) (GB : Nat), ImpOK G GB w (.emp ssG.length) v) ∨
   ∃ l : List (ArgT ssG), l ≠ [] ∧ (∀ x ∈ l, WfA ssG x) ∧ ∀ (G : Gl) (GB : Nat), ImpOK G GB w (.sl l.length ssG.length (l.map (toShs ssG)).flatten) v ∧ ImpOK G GB w (.sl l.length ssG.length []) v)
  (p : ArgT ssC) (n : Tup u8K) (hn : WfT u8K n) : ∃ d : D, (∀ (G : Gl) (GB : Nat), ImpOK G GB w d v) ∧ FnD (cfg w0) 6 [d, .agg (toShs ssC p), .agg ((toVs u8K n).map .val)] (Bo true) := by
 obtain ⟨pp, x, vs, u⟩ := p
 obtain ⟨a, b, c, u'⟩ := n
 have ha := u8_in hn.1
 have hb := u8_in hn.2.1
 have hc := u8_in hn.2.2.1
 have go : ∀ {d : D}, bodyK ((cfgM w0).at [c14]) 60 (fnOf Tryz.f6) [d, .agg [.vec ptK pp, I x, .vec intK vs], n3 a b c] = some (Bo true) → FnD (cfg w0) 6 [d, .agg [.vec ptK pp, I x, .vec intK vs], n3 a b c] (Bo true) :=
  fun h => show FnD (cfg w0) 6 _ _ from fnD_k (C := cfgM w0) (cfgM_ok w0) (cfgM_sp h0) (cs := [c14]) ⟨gd14 h0, trivial⟩ (g := 6) (fd := fnOf Tryz.f6) rfl (n := 60) h
 rcases hv with hv | hv | ⟨l, hne, _, hv⟩
 ·exact ⟨nilD, hv, go (run6_n ..)⟩
 ·exact ⟨.emp 3, hv, go (run6_e ..)⟩
 ·by_cases h5 : l.length ≤ 4
  ·refine ⟨slG (l.map grOf), fun G GB => ?_, law6_fn h0 (len4_of (by rw [List.length_map]; exact h5)) (by simpa using hne) pp x vs ha hb hc⟩
   rw [← slG_eq]
   exact (hv G GB).1
  ·refine ⟨.sl l.length 3 [], fun G GB => (hv G GB).2, go ((run6_long l.length pp x vs a b c).trans ?_)⟩
   rw [decide_eq_false (by omega), decide_eq_true (by omega)]; rfl
theorem params6_eq : Tryz.f6.params.toList = [77, 58, 106] := by kernel_rfl
theorem elG : Tryz.prog.underlying 77 = some (.slice 24) := by kernel_rfl
theorem lvG : leavesS Tryz.prog 8 24 = some ssG := by kernel_rfl
theorem sizeG : Tryz.prog.cellsOf 24 = ssG.length := by kernel_rfl
theorem lvC : leavesS Tryz.prog 8 58 = some ssC := by kernel_rfl
theorem aggC : aggT Tryz.prog 58 = true := by kernel_rfl
theorem shP106 : shOk Tryz.prog 106 (.b u8K) = true := by kernel_rfl
abbrev arg6 : Array Value := #[.slice none 0 0, .agg #[.slice none 0 0, iv 0, .slice none 0 0], .agg #[.int .u8 0, .int .u8 0, .int .u8 0]]
theorem lifted (os : Os) (started : os.Started) (H : Type) (enc : TypeId × Value → H) :
  ReturnsInHanded {} Tryz.checked os 6 .any (fun w args => (Rows.contourGrowsSpec.pre enc Tryz.prog Tryz.f6 [] false w args ∧ laidMetH Tryz.prog Rows.contourGrowsRow.laid w) ∧ sizedMet enc Tryz.prog Tryz.f6 (OpenSpec.ofChange Rows.contourGrowsSpec) false w args)
   (Rows.contourGrowsSpec.post enc Tryz.prog Tryz.f6 false true false false) := by
 refine returnsInHanded_of_change_and (C := Tryz.checked) (X := fun w _ => laidMetH Tryz.prog Rows.contourGrowsRow.laid w) (fun _ _ _ hh h => h.of_heap hh) own started (by kernel_rfl) Tryz.func6
  (ChangeSpec.witness_shaped (enc := enc) (C := Tryz.checked) (os := os) (X := fun w _ => laidMetH Tryz.prog Rows.contourGrowsRow.laid w) false (World.doorLaid Tryz.prog 600 os) arg6 8 rfl (World.shaped_of_RefB (by kernel_rfl) (by kernel_rfl)) (by kernel_rfl) (by kernel_rfl) (by kernel_rfl) (door_met os _)) ?_
 intro W base args ds gs before hval0 hW _ _ hL _
 have hval : ∀ (j : Nat) t v, Tryz.f6.params.toList[j]? = some t → args.toList[j]? = some v → Value.okWide Tryz.prog W .any base t v := fun j t v h1 h2 => hval0 j t v (by simpa using h1) (by simpa using h2)
 have hW' := hW
 obtain ⟨p, q, hA0, hV, rfl, hfz, hnd⟩ := hW
 have hA : DataW.TrodAll enc Tryz.prog W 0 (fun _ => true) true Tryz.f6.params.toList args.toList ds p := hA0
 obtain ⟨rfl, rfl⟩ := trodVars_none hV
 have hA2 := hA
 rw [params6_eq] at hA2 hval
 obtain ⟨v0, vs1, d0, ds1, p0, q0, e1, rfl, _, t0, hA3⟩ := ChangeShapes.trodAll_cons hA2
 obtain ⟨v1, vs2, d1, ds2, p1, q1, e2, rfl, _, t1, hA4⟩ := ChangeShapes.trodAll_cons hA3
 obtain ⟨v2, vs3, d2, ds3, p2, q2, e3, rfl, _, t2, hA5⟩ := ChangeShapes.trodAll_cons hA4
 obtain ⟨rfl, rfl, _⟩ := ChangeShapes.trodAll_nil hA5
 subst e3
 subst e2
 have a0 := sl_arg elG lvG sizeG (by decide) (hval 0 77 v0 rfl (by rw [e1]; rfl)) t0
 obtain ⟨s, _, a1⟩ := s_imp aggC lvC (hval 1 58 v1 rfl (by rw [e1]; rfl)) t1
 obtain ⟨b, hb3, a2⟩ := b_imp shP106 (hval 2 106 v2 rfl (by rw [e1]; rfl)) t2
 have h0 := lib_of hL
 have hb := base_of hL
 obtain ⟨d, hd, hF⟩ := law6_all h0 a0 s b hb3
 have himp : ImpsOK (cfg W).G (cfg W).GB W [d, .agg (toShs ssC s), .agg ((toVs u8K b).map .val)] args.toList := by
  rw [e1]
  exact ImpsOK.cons (hd _ _) (ImpsOK.cons (a1 _ _) (ImpsOK.cons (a2 _ _) ⟨rfl, fun j d u h => by simp at h⟩))
 refine (fnD_below (C := cfg W) rfl hF hb himp).mono fun e' W' ⟨he, hB⟩ => ?_
 subst he
 exact ⟨_, rfl, ⟨_, _, _, [], _, [], hW', trodAll_mk1 (shut_bool Tryz.underlying4 true), all_below laidOut hB _ _ _ _ (by kernel_rfl) hA (fun x hx => by simpa using hW'.lt x (by simpa using hx)), rfl, hB.frame _, fun h => by cases h⟩⟩
end Go.Proofs.YthcpfignhalffaaGreatDoor
