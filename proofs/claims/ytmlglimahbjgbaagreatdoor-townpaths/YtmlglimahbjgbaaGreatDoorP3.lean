/-
  A part of the proof of the statement that the claim names: see the last file.
-/
import Derived.Test.YtmlglimahbjgbaaGreatDoorT7
import Derived.Test.YtmlglimahbjgbaaGreatDoorP1
import Derived.Test.YtmlglimahbjgbaaGreatDoorP2
import Derived.Test.YtmlglimahbjgbaaGreatDoorAm3
import Derived.Test.YtmlglimahbjgbaaGreatDoorRows
import Derived.ProofKit
import Derived.Stop.Joined
namespace Go.Proofs.YtmlglimahbjgbaaGreatDoor
open Go Go.Am Go.Town Go.RowKit Go.ChangeShapes Go.WideShapes Go.ChangeAt
set_option maxRecDepth 100000

theorem awake_good {w0 : World} (h0 : Lib0 w0) : Good w0 ⟨13, awakeF⟩ := fun ds d hd => by
  simp only [awakeF] at hd
  split at hd
  · cases hd
    exact bodyD_sound (C := cfgC w0 awC) (g := 13) (cfgC_ok w0 awC) (ev_sound (cfgC_ok w0 awC) (specs_ok h0 (awC_good h0)) 400) (fd := fnOf Tryz.f13) rfl awake_run
  · cases hd

/-! # What the card says of the world -/

/-- The variables' names, as the row lists them. -/
def lname (i : Nat) : String := (Rows.townPathsRow.laid.map (·.1)).getD i ""
def ldata (i : Nat) : DataW Unit := (Rows.townPathsRow.laid.map (·.2)).getD i .nil
def inside : DataW Unit → DataW Unit
  | .iface _ d => d
  | d => d

theorem gPlaces : Tryz.prog.globalNamed (lname 3) = some 0 := by kernel_rfl
theorem tPlaces : (Tryz.prog.globals[0]?).map (·.type) = some 253 := by kernel_rfl
theorem gPow : Tryz.prog.globalNamed (lname 2) = some 2 := by kernel_rfl
theorem tPow : (Tryz.prog.globals[2]?).map (·.type) = some 314 := by kernel_rfl
theorem gBruijn : Tryz.prog.globalNamed (lname 1) = some 6 := by kernel_rfl

abbrev tBru : Nat := 323
def ldList : DataW Unit → List (DataW Unit)
  | .agg l => l
  | _ => []

abbrev placeCells : List Value := [.func (.func 258) #[] #[], iv (-1000), iv 1000, .func (.func 259) #[] #[], iv (-1000), iv 1000, .func (.func 260) #[] #[], iv (-1000), iv 1000, .func (.func 261) #[] #[], iv (-1000), iv 1000]

theorem lit_cell {P : Program} {w : World} {H : Type} {enc : TypeId × Value → H} {base : Nat} {sp : Nat → Bool} {held : Bool} {fuel : Nat} {t : TypeId} {v : Value} {n : Int} {q : List MemPlace} (hu : P.underlying t = some (.int .i64))
    (h : DataW.trod enc P w base sp held fuel t [v] = some (.lit (.int .i64 n), q)) : v = .int .i64 n := by
  obtain ⟨z, hc, hz, _⟩ := DataW.trod_int hu h
  simp only [Prod.mk.injEq, DataW.lit.injEq, Lit.int.injEq, true_and] at hz
  simp only [List.cons.injEq, and_true] at hc
  rw [hc]
  first | rw [hz.1] | rw [hz] | skip

theorem len_three {α : Type} : ∀ {l : List α}, l.length = 3 → ∃ a b c, l = [a, b, c]
  | [a, b, c], _ => ⟨a, b, c, rfl⟩
  | [], h => by simp at h
  | [_], h => by simp at h
  | [_, _], h => by simp at h
  | _ :: _ :: _ :: _ :: _, h => by simp at h

theorem one_place {w : World} {fuel : Nat} {c0 c1 c2 : Value} {b : UInt8} {r : List UInt8} {f0 : FuncId} {q : List MemPlace}
    (hone : ((List.range Tryz.prog.funcs.size).filter fun f => (Tryz.prog.funcs[f]?).any (·.name.toUTF8.data.toList == b :: r)) = [f0])
    (h : DataW.trod (funcToken Tryz.prog) Tryz.prog w 0 (fun _ => true) true fuel 252 [c0, c1, c2] = some (.agg [.held (b :: r), .lit (.int .i64 (-1000)), .lit (.int .i64 1000)], q)) :
    c0 = .func (.func f0) #[] #[] ∧ c1 = iv (-1000) ∧ c2 = iv 1000 := by
  have hu : Tryz.prog.underlying 252 = some (.struct (Tryz.prog.fieldsOf 252)) := by kernel_rfl
  obtain ⟨f, hf⟩ := trod_struct_get hu h
  have hfs : (Tryz.prog.fieldsOf 252).toList.map (fun fd => (fd.type, fd.offset, Tryz.prog.cellsOf fd.type)) = [(250, 0, 1), (3, 1, 1), (3, 2, 1)] := by kernel_rfl
  obtain ⟨a0, a1, a2, hfl⟩ : ∃ a0 a1 a2, (Tryz.prog.fieldsOf 252).toList = [a0, a1, a2] := len_three (by
    have := congrArg List.length hfs
    simpa using this)
  rw [hfl] at hfs
  simp only [List.map_cons, List.map_nil, List.cons.injEq, Prod.mk.injEq, and_true] at hfs
  obtain ⟨⟨x1, x2, x3⟩, ⟨y1, y2, y3⟩, ⟨z1, z2, z3⟩⟩ := hfs
  obtain ⟨d0, q0, e0, h0⟩ := hf 0 a0 (by rw [hfl]; rfl)
  obtain ⟨d1, q1, e1, h1⟩ := hf 1 a1 (by rw [hfl]; rfl)
  obtain ⟨d2, q2, e2, h2⟩ := hf 2 a2 (by rw [hfl]; rfl)
  simp at e0 e1 e2
  subst e0 e1 e2
  rw [x1, x2] at h0
  rw [y1, y2] at h1
  rw [z1, z2] at h2
  have c1' : Tryz.prog.cellsOf 250 = 1 := by kernel_rfl
  have c3' : Tryz.prog.cellsOf 3 = 1 := by kernel_rfl
  rw [c1'] at h0
  rw [c3'] at h1 h2
  simp only [List.drop_zero, List.take_succ_cons, List.take_zero, List.drop_succ_cons] at h0 h1 h2
  have u250 : Tryz.prog.underlying 250 = some (.func #[33] #[3] false) := by kernel_rfl
  exact ⟨func_of_trod u250 hone h0, lit_cell Tryz.underlying3 h1, lit_cell Tryz.underlying3 h2⟩

theorem places_of {W : World} (hL : laidMetH Tryz.prog Rows.townPathsRow.laid W) : ∀ (j : Nat), W.cell? ⟨0, j, none⟩ = placeCells[j]? := by
  obtain ⟨g, t, cs, fuel, p, hg, ht, hv, hd⟩ := hL.funcs (n := lname 3) (d := inside (ldata 3)) (List.mem_of_getElem? (i := 3) rfl)
  obtain rfl := Option.some.inj (gPlaces.symm.trans hg)
  obtain rfl := Option.some.inj (tPlaces.symm.trans ht)
  have u253 : Tryz.prog.underlying 253 = some (.array 4 252) := by kernel_rfl
  have hs : cs.toList = placeCells := by
    have hd' : ∃ l0 l1 l2 l3 : List UInt8, ∃ b0 b1 b2 b3 : UInt8, DataW.trod (funcToken Tryz.prog) Tryz.prog W 0 (fun _ => true) true fuel 253 cs.toList = some (.agg [.agg [.held (b0 :: l0), .lit (.int .i64 (-1000)), .lit (.int .i64 1000)], .agg [.held (b1 :: l1), .lit (.int .i64 (-1000)), .lit (.int .i64 1000)], .agg [.held (b2 :: l2), .lit (.int .i64 (-1000)), .lit (.int .i64 1000)], .agg [.held (b3 :: l3), .lit (.int .i64 (-1000)), .lit (.int .i64 1000)]], p) ∧
        ((List.range Tryz.prog.funcs.size).filter fun f => (Tryz.prog.funcs[f]?).any (·.name.toUTF8.data.toList == b0 :: l0)) = [258] ∧ ((List.range Tryz.prog.funcs.size).filter fun f => (Tryz.prog.funcs[f]?).any (·.name.toUTF8.data.toList == b1 :: l1)) = [259] ∧
        ((List.range Tryz.prog.funcs.size).filter fun f => (Tryz.prog.funcs[f]?).any (·.name.toUTF8.data.toList == b2 :: l2)) = [260] ∧ ((List.range Tryz.prog.funcs.size).filter fun f => (Tryz.prog.funcs[f]?).any (·.name.toUTF8.data.toList == b3 :: l3)) = [261] :=
      ⟨_, _, _, _, _, _, _, _, hd, by kernel_rfl, by kernel_rfl, by kernel_rfl, by kernel_rfl⟩
    obtain ⟨l0, l1, l2, l3, b0, b1, b2, b3, hd', n0, n1, n2, n3⟩ := hd'
    obtain ⟨hl, f, hel⟩ := trod_array_get u253 hd'
    have c253 : Tryz.prog.cellsOf 253 = 12 := by kernel_rfl
    have c252 : Tryz.prog.cellsOf 252 = 3 := by kernel_rfl
    rw [c253] at hl
    rw [c252] at hel
    match hcl : cs.toList, hl with
    | [x0, x1, x2, x3, x4, x5, x6, x7, x8, x9, x10, x11], _ =>
      rw [hcl] at hel
      obtain ⟨d0, q0, e0, h0⟩ := hel 0 (by omega)
      obtain ⟨d1, q1, e1, h1⟩ := hel 1 (by omega)
      obtain ⟨d2, q2, e2, h2⟩ := hel 2 (by omega)
      obtain ⟨d3, q3, e3, h3⟩ := hel 3 (by omega)
      simp only [List.getElem?_cons_zero, List.getElem?_cons_succ, Option.some.injEq] at e0 e1 e2 e3
      subst e0 e1 e2 e3
      obtain ⟨rfl, rfl, rfl⟩ := one_place n0 h0
      obtain ⟨rfl, rfl, rfl⟩ := one_place n1 h1
      obtain ⟨rfl, rfl, rfl⟩ := one_place n2 h2
      obtain ⟨rfl, rfl, rfl⟩ := one_place n3 h3
      rfl
  intro j
  have := World.var?_cell hg hv j
  rw [this, ← Array.getElem?_toList, hs]

theorem plain_of {W : World} (hL : laidMetH Tryz.prog Rows.townPathsRow.laid W) : laidMet Tryz.prog [(lname 0, ldata 0), (lname 1, ldata 1), (lname 2, ldata 2)] W := by
  have h' : laidMet Tryz.prog [(lname 0, ldata 0), (lname 1, ldata 1), (lname 2, ldata 2)] W ∧ handlesMet Tryz.prog [(lname 3, ldata 3)] W := hL
  exact h'.1

theorem pow_of {W : World} (hL : laidMetH Tryz.prog Rows.townPathsRow.laid W) : Lib.TabIs Tryz.prog W (lname 2) .u64 Lib.pow10Tab := by
  obtain ⟨ps, ⟨_, _, _, _, _, _, _, _, _, _, ⟨_, _, _, _, _, _, _, _, _, _, ⟨g, t, cs, fuel, p, q, hg, ht, hvar, hd, _, _⟩, _⟩, _⟩, _⟩ := plain_of hL
  obtain rfl := Option.some.inj (gPow.symm.trans hg)
  obtain rfl := Option.some.inj (tPow.symm.trans ht)
  unfold Lib.TabIs
  have u314 : Tryz.prog.underlying 314 = some (.array 20 289) := by kernel_rfl
  have u289 : Tryz.prog.underlying 289 = some (.int .u64) := by kernel_rfl
  rw [hvar, ← Lib.cells_of_tab u314 u289 (by kernel_rfl) (by kernel_rfl) hd]

theorem size_of {W : World} (hL : laidMetH Tryz.prog Rows.townPathsRow.laid W) : 7 ≤ W.heap.size := by
  obtain ⟨ps, ⟨_, _, _, _, _, _, _, _, _, _, ⟨g, t, cs, fuel, p, q, hg, ht, hvar, hd, _, _⟩, _⟩, _⟩ := plain_of hL
  obtain rfl := Option.some.inj (gBruijn.symm.trans hg)
  have tB : (Tryz.prog.globals[6]?).map (·.type) = some tBru := by kernel_rfl
  obtain rfl := Option.some.inj (tB.symm.trans ht)
  have hb : Tryz.prog.underlying tBru = some (.array 64 5) := by kernel_rfl
  have hl := (trod_array_get hb (show DataW.trod (fun _ => ()) Tryz.prog W 0 (fun _ => true) false fuel tBru cs.toList = some (.agg (ldList (ldata 1)), p) from hd)).1
  have c64 : Tryz.prog.cellsOf tBru = 64 := by kernel_rfl
  rw [c64] at hl
  have hc := World.var?_cell hg hvar 0
  have hpos : 0 < cs.size := by rw [← Array.length_toList, hl]; omega
  have h0 : cs[0]? = some cs[0] := Array.getElem?_eq_getElem hpos
  rw [h0] at hc
  exact World.block_lt_of_cell? W _ hc

/-! # The world, as the machine asks for it -/

theorem base_of {W : World} (hL : laidMetH Tryz.prog Rows.townPathsRow.laid W) : Base (cfg W).G (cfg W).GB W := by
  refine ⟨⟨fun g j c hc => ?_, fun _ _ => rfl⟩, size_of hL, show (7 : Nat) ≤ K0 by decide⟩
  have hc : (gl 258 259 260 261 g)[j]? = some c := hc
  unfold gl at hc
  split at hc
  · have hc : placeCells[j]? = some c := hc
    refine ⟨by rw [places_of hL j]; exact hc, ?_, by show (0 : Nat) < 7; omega⟩
    have := List.mem_of_getElem? hc
    simp only [placeCells, List.mem_cons, List.not_mem_nil, or_false] at this
    rcases this with rfl | rfl | rfl | rfl | rfl | rfl | rfl | rfl | rfl | rfl | rfl | rfl <;> rfl
  · simp at hc

theorem lib_of {W : World} (hL : laidMetH Tryz.prog Rows.townPathsRow.laid W) : Lib0 W := lib0 fun w hw n h1 h2 => by
  have hT := pow_of hL
  have hT' : Lib.TabIs Tryz.prog w (lname 2) .u64 Lib.pow10Tab := by
    unfold Lib.TabIs at hT ⊢
    rw [← hT]
    unfold World.var?
    rw [gPow]
    simp only [Option.bind_some]
    rw [hw 2 (by omega)]
  exact Any.strconv_Itoa Tryz.laysM171 n h1 h2 w hT'

/-! # The law -/

theorem leaves25 : leaves Tryz.prog 8 25 = some [.str, .int, .int, .int, .int, .int, .int] := by kernel_rfl
theorem leaves28 : leaves Tryz.prog 8 28 = some [.int, .int, .int, .int, .int, .int] := by kernel_rfl
theorem leaves23 : leaves Tryz.prog 8 23 = some [.int, .int] := by kernel_rfl

theorem fit_wall {cs : List Value} (h : Fit [.str, .int, .int, .int, .int, .int, .int] cs) : ∃ n a b c d h' e, cs = [.string n, iv a, iv b, iv c, iv d, iv h', iv e] := by
  match cs, h with
  | [.string n, .int .i64 a, .int .i64 b, .int .i64 c, .int .i64 d, .int .i64 h', .int .i64 e], _ => exact ⟨n, a, b, c, d, h', e, rfl⟩

theorem fit_two {cs : List Value} (h : Fit [.int, .int] cs) : ∃ a b, cs = [iv a, iv b] := by
  match cs, h with
  | [.int .i64 a, .int .i64 b], _ => exact ⟨a, b, rfl⟩

theorem fit_six {cs : List Value} (h : Fit [.int, .int, .int, .int, .int, .int] cs) : ∃ a b c d e f, cs = [iv a, iv b, iv c, iv d, iv e, iv f] := by
  match cs, h with
  | [.int .i64 a, .int .i64 b, .int .i64 c, .int .i64 d, .int .i64 e, .int .i64 f], _ => exact ⟨a, b, c, d, e, f, rfl⟩

theorem agg_of {P : Program} {w : World} {t : TypeId} {v : Value} (h : Value.okWide P w .any 0 t v ∨ ∃ r b, Value.okWide P w r b t v) (hs : (∃ fs, P.underlying t = some (.struct fs)) ∨ ∃ n e, P.underlying t = some (.array n e)) : ∃ cs, v = .agg cs := by
  have key : ∀ r b, Value.okWide P w r b t v → ∃ cs, v = .agg cs := fun r b h => by
    unfold Value.okWide at h
    rcases hs with ⟨fs, hu⟩ | ⟨n, e, hu⟩ <;> rw [hu] at h <;> exact ⟨h.choose, h.choose_spec.1⟩
  rcases h with h | ⟨r, b, h⟩
  · exact key _ _ h
  · exact key _ _ h

/-- The law's call, at the world of the card. -/
theorem law3_call {W : World} (hL : laidMetH Tryz.prog Rows.townPathsRow.laid W) (n : ByteArray) (a b c d h e p q r s t u x y : Int) :
    Calls Tryz.prog 3 #[.agg #[.string n, iv a, iv b, iv c, iv d, iv h, iv e], .agg #[iv p, iv q, iv r, iv s, iv t, iv u], .agg #[iv x, iv y]] W fun e' W' => e' = .returned (.bool true) ∧ Below W.heap.size W W' := by
  have h0 := lib_of hL
  have hb := base_of hL
  refine fnD_below (C := cfg W) rfl (law3_fn h0 (awake_good h0) n a b c d h e p q r s t u x y) hb ?_
  refine imps_ok _ _ rfl fun j dd uu hj hu => ?_
  match j, hj, hu with
  | 0, hj, hu => cases hj; cases hu; exact imp_plain (vs := [.string n, iv a, iv b, iv c, iv d, iv h, iv e]) (by simp [scal, iv])
  | 1, hj, hu => cases hj; cases hu; exact imp_plain (vs := [iv p, iv q, iv r, iv s, iv t, iv u]) (by simp [scal, iv])
  | 2, hj, hu => cases hj; cases hu; exact imp_plain (vs := [iv x, iv y]) (by simp [scal, iv])
  | j + 3, hj, hu => cases hj

theorem own : ownKnob Tryz.prog.godebug = none := by kernel_rfl
theorem laidOut : laidOutB Tryz.prog = true := by kernel_rfl

theorem door_met (os : Os) (args : Array Value) : laidMetH Tryz.prog Rows.townPathsRow.laid ((World.doorLaid Tryz.prog 600 os).forCall (fun _ _ => 0) ⟨#[], args, []⟩).memory :=
  laidMetH_of_parts3 (fuel := 8) (laidMet_of_run' 8 (by kernel_rfl) (by kernel_rfl)) (by kernel_rfl) (by kernel_rfl)

abbrev arg3 : Array Value := #[.agg #[.string ByteArray.empty, iv 0, iv 0, iv 0, iv 0, iv 0, iv 0], .agg #[iv 0, iv 0, iv 0, iv 0, iv 0, iv 0], .agg #[iv 0, iv 0]]

theorem lifted (os : Os) (started : os.Started) (H : Type) (enc : TypeId × Value → H) :
    ReturnsInHanded {} Tryz.checked os 3 .any (fun w args => (Rows.townPathsSpec.pre enc Tryz.prog Tryz.f3 [] false w args ∧ laidMetH Tryz.prog Rows.townPathsRow.laid w) ∧ sizedMet enc Tryz.prog Tryz.f3 (OpenSpec.ofChange Rows.townPathsSpec) false w args)
      (Rows.townPathsSpec.post enc Tryz.prog Tryz.f3 false true false false) := by
  refine returnsInHanded_of_change_and (C := Tryz.checked) (X := fun w _ => laidMetH Tryz.prog Rows.townPathsRow.laid w) (fun _ _ _ hh h => h.of_heap hh) own started (by kernel_rfl) Tryz.func3
    (ChangeSpec.witness_shaped (enc := enc) (C := Tryz.checked) (os := os) (X := fun w _ => laidMetH Tryz.prog Rows.townPathsRow.laid w) false (World.doorLaid Tryz.prog 600 os) arg3 8 rfl (World.shaped_of_RefB (by kernel_rfl) (by kernel_rfl)) (by kernel_rfl) (by kernel_rfl) (by kernel_rfl) (door_met os _)) ?_
  intro W base args ds gs before hval0 hW _ _ hL _
  have hval : ∀ (j : Nat) t v, Tryz.f3.params[j]? = some t → args[j]? = some v → Value.okWide Tryz.prog W .any base t v := hval0
  have hW' := hW
  obtain ⟨p, q, hA0, hV, rfl, hfz, hnd⟩ := hW
  have hA : DataW.TrodAll enc Tryz.prog W 0 (fun _ => true) true Tryz.f3.params.toList args.toList ds p := hA0
  rw [Tryz.params3] at hA hval
  obtain ⟨v0, v1, v2, d0, d1, d2, p0, p1, p2, rfl, rfl, rfl, h0, h1, h2⟩ := trodAll_three hA
  obtain ⟨rfl, rfl⟩ := trodVars_none hV
  have hlt : ∀ x ∈ p0 ++ p1 ++ p2, x.block < W.heap.size := fun x hx => by simpa using hW'.lt x (by simpa using hx)
  obtain ⟨cs0, rfl⟩ := agg_of (.inr ⟨_, _, hval 0 25 v0 rfl rfl⟩) (.inl ⟨Tryz.prog.fieldsOf 25, by kernel_rfl⟩)
  obtain ⟨cs1, rfl⟩ := agg_of (.inr ⟨_, _, hval 1 28 v1 rfl rfl⟩) (.inr ⟨2, 27, by kernel_rfl⟩)
  obtain ⟨cs2, rfl⟩ := agg_of (.inr ⟨_, _, hval 2 23 v2 rfl rfl⟩) (.inl ⟨Tryz.prog.fieldsOf 23, by kernel_rfl⟩)
  have h0k := h0
  have h1k := h1
  have h2k := h2
  obtain ⟨f0, t0⟩ := h0
  obtain ⟨f1, t1⟩ := h1
  obtain ⟨f2, t2⟩ := h2
  obtain ⟨n, a, b, c, d, h', e, e0⟩ := fit_wall (trod_fit 8 25 _ f0 _ _ leaves25 t0)
  obtain ⟨a1, b1, c1, d1', e1', f1', e1⟩ := fit_six (trod_fit 8 28 _ f1 _ _ leaves28 t1)
  obtain ⟨a2, b2, e2⟩ := fit_two (trod_fit 8 23 _ f2 _ _ leaves23 t2)
  simp only [Value.cells] at e0 e1 e2
  obtain rfl : cs0 = #[.string n, iv a, iv b, iv c, iv d, iv h', iv e] := by rw [← Array.toArray_toList (xs := cs0), e0]
  obtain rfl : cs1 = #[iv a1, iv b1, iv c1, iv d1', iv e1', iv f1'] := by rw [← Array.toArray_toList (xs := cs1), e1]
  obtain rfl : cs2 = #[iv a2, iv b2] := by rw [← Array.toArray_toList (xs := cs2), e2]
  refine (law3_call hL n a b c d h' e a1 b1 c1 d1' e1' f1' a2 b2).mono fun e' W' ⟨he, hB⟩ => ?_
  subst he
  have r0 := Below.trod laidOut (by kernel_rfl) (of_decide_eq_true (by kernel_rfl)) h0k hB (fun x hx => hlt x (by simp [hx]))
  have r1 := Below.trod laidOut (by kernel_rfl) (of_decide_eq_true (by kernel_rfl)) h1k hB (fun x hx => hlt x (by simp [hx]))
  have r2 := Below.trod laidOut (by kernel_rfl) (of_decide_eq_true (by kernel_rfl)) h2k hB (fun x hx => hlt x (by simp [hx]))
  exact ⟨_, rfl, ⟨_, _, _, [], _, [], hW', trodAll_mk1 (shut_bool Tryz.underlying4 true), trodAll_mk3 r0 r1 r2, rfl, hB.frame _, fun h => by cases h⟩⟩

end Go.Proofs.YtmlglimahbjgbaaGreatDoor
