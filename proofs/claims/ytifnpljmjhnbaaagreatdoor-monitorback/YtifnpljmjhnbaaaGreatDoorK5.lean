/-
  A part of the proof of the statement that the claim names: see the last file.
-/
import Derived.Test.YtifnpljmjhnbaaaGreatDoorK4
namespace Go.Proofs.YtifnpljmjhnbaaaGreatDoor
open Go Go.Am Go.RowKit
set_option maxRecDepth 100000
variable {w0 : World}
noncomputable section


theorem parP_le (s : ByteArray) : (parP s).1.length ≤ 100000 := by
  unfold parP
  cases hc : (e80 s != 0) with
  | true => exact Nat.zero_le _
  | false =>
    have hs := e80_le hc
    simp only [cond_false]
    cases hg : goP (spl 10 (bl s)) ⟨[], 0, 0⟩ with
    | bad i => exact Nat.zero_le _
    | good q =>
      have h := goP_len _ _ _ hg
      have h2 : (bl s).count 10 ≤ (bl s).length := List.count_le_length
      rw [bl_len] at h2
      rw [spl_len] at h
      simp only [List.length_nil] at h
      unfold fz80
      simp only
      cases (e80b q != 0) with
      | true => exact Nat.zero_le _
      | false => show q.o.length ≤ 100000; omega
def step14 (r : TLq) (i : Nat) (o : TLq) : X × TLq := (.normal, o ++ [el14 r i])
theorem ix14_eq {r : TLq} (hr : r.length ≤ 100000) {i : Nat} (h : i < r.length) : ix14 r (i : Int) = ((r.length - 1 - i : Nat) : Int) := by
  unfold ix14
  rw [W_id (n := (r.length : Int) - 1) (by omega) (by omega), W_id (by omega) (by omega)]
  omega
theorem el14_eq {r : TLq} (hr : r.length ≤ 100000) {i : Nat} (h : i < r.length) : el14 r (i : Int) = r.reverse[i]'(by simpa using h) := by
  unfold el14
  rw [ix14_eq hr h, Int.toNat_natCast, Nat.add_zero, List.getElem_reverse]
  unfold nth
  rw [List.getD_eq_getElem?_getD, List.getElem?_eq_getElem (by omega)]
  rfl
theorem run14 {r : TLq} (hr : r.length ≤ 100000) : ∀ (f i : Nat), i + f = r.length → rgRun 0 (step14 r) f i (r.reverse.take i) = (.exit 0, ((r.length : Int), r.reverse))
  | 0, i, h => by
    show (X.exit 0, ((i : Int), r.reverse.take i)) = _
    rw [List.take_of_length_le (by rw [List.length_reverse]; omega), show i = r.length by omega]
  | f + 1, i, h => by
    have hi : i < r.length := by omega
    unfold rgRun
    have e : step14 r i (r.reverse.take i) = (.normal, r.reverse.take (i + 1)) := by
      unfold step14
      rw [el14_eq hr hi, List.take_succ_eq_append_getElem (by simpa using hi)]
    rw [e]
    exact run14 hr f (i + 1) (by omega)
theorem rm_ok {o : TLq} (h : o.length ≤ 1000000) : rm80 o = true := by
  unfold rm80
  rw [(Nat.ble_eq ..).mpr (by omega), (Nat.ble_eq ..).mpr (by omega)]
  rfl
theorem cs14_gd (h0 : Lib0 w0) : Gds (cfg w0) cs14 := ⟨gd23 h0, gd26 h0, gd28 h0, gd29 h0, gd51 h0, gd79 h0, gd80 h0, gd83 h0, trivial⟩
theorem l14 (h0 : Lib0 w0) {r : TLq} (hr : r.length ≤ 100000) : Owed ((cfg w0).at cs14) (ob14 r ((r.length : Int), r.reverse)) :=
  ⟨ldT_rg (at_ok (cfg_ok w0) cs14) (at_sp h0 (cs14_gd h0)) (N := (fnOf Tryz.f14).ntmps) (rel := rel14) (B := lpB 0 (fnOf Tryz.f14).body) (id := 0) (k := r.length) (by omega) (st14 r) (step14 r) (fun i o => o.length ≤ i)
    (fun i o hi ho => .leaf (by
      refine (round14 r (i : Int) o).trans ?_
      have hin : inV r (ix14 r (i : Int)) = true := by rw [ix14_eq hr hi]; exact inb 1 (by omega)
      rw [lt_t hi, hin, rm_ok (by rw [List.length_append, List.length_singleton]; omega)]
      rfl))
    (fun i o o' hi ho h => by cases h; rw [List.length_append, List.length_singleton]; omega)
    (fun o ho => .leaf (by refine (round14 r _ o).trans ?_; rw [ge_f]; rfl)) (a0 := []) (Nat.le_refl _) (run14 hr r.length 0 (by omega)), trivial⟩
theorem cU10 : cU 10 = 10 := rfl
theorem ls14_eq {r : TLq} {y : Tup intK} (hr : chkR (r ++ [y]) = 0) : ls14 (outB (r ++ [y])) = (hdL (r ++ [y]).length :: r.map lnR).map tupS ++ [tupS (lnR y), tupS []] := by
  unfold ls14 splC
  rw [cU10, lines_of hr]
  simp
theorem nth_app (A : SLs) (x : Tup sK1) (tl : SLs) : nth (A ++ x :: tl) A.length = x := by
  unfold nth
  rw [List.getD_eq_getElem?_getD, List.getElem?_append_right (Nat.le_refl _), Nat.sub_self]
  rfl
theorem ln14_eq {r : TLq} {y : Tup intK} (hr : chkR (r ++ [y]) = 0) : ln14 (outB (r ++ [y])) (r ++ [y]) = mkB (lnR y) := by
  unfold ln14
  rw [ls14_eq hr, Int.toNat_natCast, Nat.add_zero]
  have hA : (r ++ [y]).length = ((hdL (r ++ [y]).length :: r.map lnR).map tupS).length := by simp
  exact congrArg Prod.fst ((congrArg (nth _) hA).trans (nth_app _ _ _))
theorem end14_true {r : TLq} (hr : chkR r = 0) (hl : r.length ≤ 40) : end14 r (outB r) ((r.length : Int), r.reverse) = some (ob14 r ((r.length : Int), r.reverse), Bo true) := by
  obtain ⟨-, hpos, hv⟩ := chk_okP hr
  obtain ⟨r', y, rfl⟩ : ∃ r' y, r = r' ++ [y] := ⟨r.dropLast, r.getLast (by intro e; rw [e] at hpos; simp at hpos), (List.dropLast_concat_getLast _).symm⟩
  have hbl : bl (outB (r' ++ [y])) = hdL (r' ++ [y]).length ++ 10 :: (linesL r' ++ lnR y) ++ [10] := by
    rw [bl_outB, linesL_app, linesL_cons]
    simp [linesL]
  have hsz := outB_size hv
  have hlen := congrArg List.length hbl
  rw [bl_len, List.length_append, List.length_singleton] at hlen
  have hb2 : bl (outB (r' ++ [y])) = (hdL (r' ++ [y]).length ++ 10 :: linesL r') ++ (lnR y ++ [10]) := by
    rw [hbl]; simp
  have hlen2 := congrArg List.length hb2
  rw [bl_len, List.length_append, @List.length_append _ (lnR y), List.length_singleton] at hlen2
  have hn : n14 (outB (r' ++ [y])) = (((outB (r' ++ [y])).size - 1 : Nat) : Int) := by
    unfold n14
    rw [W_id (by omega) (by omega)]
    omega
  have hm : m14 (outB (r' ++ [y])) (r' ++ [y]) = (((outB (r' ++ [y])).size - 1 - (lnR y).length : Nat) : Int) := by
    unfold m14
    have e : (mkB (lnR y)).size = (lnR y).length := by rw [← bl_len, bl_mkB]
    rw [hn, ln14_eq hr, e, W_id (by omega) (by omega)]
    omega
  have hc : ∀ j : Nat, j ≤ (outB (r' ++ [y])).size → cutE (outB (r' ++ [y])) (j : Int) = true := fun j hj => by
    unfold cutE
    rw [decide_eq_true (show (0 : Int) ≤ j by omega), decide_eq_true (show (j : Int) ≤ (((outB (r' ++ [y])).size : Nat) : Int) by omega)]
    rfl
  have p1 : parP ((outB (r' ++ [y])).extract 0 ((outB (r' ++ [y])).size - 1)) = ([], ((r' ++ [y]).length : Int), 25) := par_last hr hl (by
    rw [ext_0, bl_mkB, hbl, List.take_append_of_le_length (by omega), List.take_of_length_le (by omega)])
  have p2 : parP ((outB (r' ++ [y])).extract 0 ((outB (r' ++ [y])).size - 1 - (lnR y).length)) = ([], ((r' ++ [y]).length : Int), 2) := par_line hr hl (by
    rw [ext_0, bl_mkB, hb2, List.take_append_of_le_length (by omega), List.take_of_length_le (by omega)])
  have hsm : sm (r' ++ [y]) = true := (Nat.ble_eq ..).mpr (by omega)
  have hsr : sm (r' ++ [y]).reverse = true := (Nat.ble_eq ..).mpr (by rw [List.length_reverse]; omega)
  have hll : (ls14 (outB (r' ++ [y]))).length = (r' ++ [y]).length + 2 := by rw [ls14_eq hr]; simp
  unfold end14 gQ
  rw [hn, hm, hc _ (by omega), hc _ (by omega), Int.toNat_natCast, Int.toNat_natCast, p1, p2, hll, decide_eq_true (show (0 : Int) ≤ ((r' ++ [y]).length : Int) by omega), decide_eq_true (show ((r' ++ [y]).length : Int) < (((r' ++ [y]).length + 2 : Nat) : Int) by omega)]
  simp only [bne_self_eq_false, cond_true, cond_false, Nat.beq, Bool.and_self]
  unfold tot14 gQ
  simp only
  rw [hsm, hsr, tot_rev hr]
  simp only [beq_self_eq_true, cond_true]
theorem law14_fn (h0 : Lib0 w0) (r : TLq) (s : ByteArray) : FnD (cfg w0) 14 [.vec intK r, St_ s] (Bo true) := by
  have hb := body14 (w0 := w0) r s ((r.length : Int), r.reverse)
  have fin : ∀ {o : Obs}, law14 r s ((r.length : Int), r.reverse) = some (o, Bo true) → Owed ((cfg w0).at cs14) o → FnD (cfg w0) 14 [.vec intK r, St_ s] (Bo true) :=
    fun h hO => fnD_t (cfg_ok w0) h0 (cs14_gd h0) (fd := fnOf Tryz.f14) rfl (hb.trans h) hO
  cases hl : decide ((r.length : Int) > 40) with
  | true => exact fin (o := []) (by unfold law14; rw [hl]; rfl) trivial
  | false =>
    have hl' : r.length ≤ 40 := by have := of_decide_eq_false hl; omega
    have hsm : sm r = true := (Nat.ble_eq ..).mpr (by omega)
    cases hc : (chkR r != 0) with
    | true => exact fin (o := []) (by unfold law14 gQ; rw [hl, hsm, hc]; rfl) trivial
    | false =>
      have hr : chkR r = 0 := by simpa using hc
      cases hs : decide (((s.size : Nat) : Int) > 300) with
      | true => exact fin (o := []) (by unfold law14 gQ; rw [hl, hsm, hc, hs]; rfl) trivial
      | false =>
        have hs' : s.size ≤ 300 := by have := of_decide_eq_false hs; omega
        refine fin (o := ob14 r ((r.length : Int), r.reverse)) ?_ (l14 h0 (by omega))
        have he := end14_true hr hl'
        have hsz := outB_size (vld_of hr)
        have hss : smS (outB r) = true := (Nat.ble_eq ..).mpr (by omega)
        have hpl : sm (parP s).1 = true := (Nat.ble_eq ..).mpr (parP_le s)
        have hsi : sameI r r = true := decide_eq_true rfl
        have hb2 : Nat.ble r.length 100000 = true := (Nat.ble_eq ..).mpr (by omega)
        have hll : (ls14 (outB r)).length = r.length + 2 := by
          unfold ls14 splC
          rw [cU10, lines_of hr]
          simp
        have hw : IntKind.i64.wrap ((r.length : Int) + 2) = ((r.length + 2 : Nat) : Int) := W_id (by omega) (by omega)
        unfold law14 gQ
        rw [hl, hsm, hc, hs, prP_ok hr (by omega)]
        simp only
        rw [hss, par_print hr hl']
        simp only
        rw [hb2, hsi, hll, hw, he, hpl]
        simp only [bne_self_eq_false, cond_true, cond_false, Bool.not_true]
        cases hp : ((parP s).2.2 == 0) with
        | false => rfl
        | true =>
          rw [print_par hs' (eq_of_beq hp)]
          simp only [bne_self_eq_false, cond_true, cond_false, beq_self_eq_true, Bool.not_true]
end
end Go.Proofs.YtifnpljmjhnbaaaGreatDoor
