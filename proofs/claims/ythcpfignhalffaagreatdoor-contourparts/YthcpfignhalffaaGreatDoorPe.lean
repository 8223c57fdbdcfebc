/-
 A part of the proof of the statement that the claim names: see the last file.
-/
import Derived.Test.YthcpfignhalffaaGreatDoorPd
import Derived.Test.YthcpfignhalffaaGreatDoorAm5
namespace Go.Proofs.YthcpfignhalffaaGreatDoor
open Go Go.Am Go.RowKit
set_option maxRecDepth 100000
variable {w0 : World}
noncomputable section
variable {g : Gr} {Wn Hn x0 x1 y0 y1 : Nat}
theorem toldE (h0 : Lib0 w0) {v : Ev} (V : Vg v.g Wn Hn) : LdT ((cfg w0).at cs11) (ldE v true) (sq11 200051) (stE v false) :=
 ldT_if (id := 200051) (at_ok (cfg_ok w0) cs11) (at_sp h0 (cs11_gd h0)) (N := N11) (rel := relE) (.leaf ((runE v).trans (V.uE _ _)))
def u8 (n : Int) : Prop := 0 ≤ n ∧ n ≤ 255
theorem W_u8 {n : Int} (h : u8 n) : IntKind.i64.wrap n = n := by unfold u8 at h; exact W_id (by omega) (by omega)
theorem mod_u8 {n : Int} (h : u8 n) {k : Nat} (hk : 0 < k) : ∃ m : Nat, (IntKind.i64.wrap n).tmod (k : Int) = (m : Int) ∧ m < k := by
 rw [W_u8 h]
 obtain ⟨i, rfl⟩ : ∃ i : Nat, n = (i : Int) := ⟨n.toNat, by unfold u8 at h; omega⟩
 exact ⟨i % k, by rw [Int.ofNat_tmod], Nat.mod_lt _ hk⟩
theorem mV_val {v : Ev} (V : Vg v.g Wn Hn) (h : u8 (show Int from v.n.1)) : ∃ m : Nat, mV v = (m : Int) ∧ 1 ≤ m ∧ m ≤ v.g.l.length := by
 have hp : 0 < v.g.l.length := by rw [V.len]; exact Nat.mul_pos V.h1 V.w1
 have hb := V.few
 obtain ⟨i, hi, hl⟩ := mod_u8 h hp
 refine ⟨i + 1, ?_, by omega, by omega⟩
 unfold mV
 rw [hi, show IntKind.i64.wrap (1 + (i : Int)) = 1 + (i : Int) from W_id (by omega) (by omega)]
 omega
theorem toldD (h0 : Lib0 w0) {v : Ev} (V : Vg v.g Wn Hn) (h : u8 (show Int from v.n.1)) : LdT ((cfg w0).at cs11) (ldD v) (sq11 200032) (stE v false) := by
 have hb := V.few
 obtain ⟨m, hm, m1, m2⟩ := mV_val V h
 obtain ⟨j, hj, hjm, hjn⟩ := V.hotLast m1 m2
 have hls : lsV v (m : Int) = (j : Int) := V.lev rfl hj m1 m2 hjn
 have hle : leV v (m : Int) = i1 (nth v.g.l j) := by unfold leV; rw [hls, Int.toNat_natCast]
 have hsm : smG v.g = true := sm_of V.chk
 have hN := hotN m2
 have hrun := runD (w0 := w0) v ((m : Int), es0 v.g m) (v.g.l.length : Nat)
 have hu : ∀ n y : Rw, uD v (m : Int) n y = y := fun n y => by
  unfold uD gT nT
  rw [decide_eq_false (show ¬ (((v.g.l.length : Nat) : Int) = 0) by omega), hsm, V.chk, show hE v.g (m : Int) = 0 from in_within (by omega) (by omega), hN,
   show IntKind.i64.wrap ((m : Int) - 1) = ((m - 1 : Nat) : Int) from by rw [show IntKind.i64.wrap ((m : Int) - 1) = (m : Int) - 1 from W_id (by omega) (by omega)]; omega,
   show inHt (hotS v.g (m : Int)) ((m - 1 : Nat) : Int) = true from inb 2 (by omega), hls, inO_nat hj]
  simp
 rw [hm, hu] at hrun
 have hO : Owed ((cfg w0).at cs11) (obD v ((m : Int), es0 v.g m) (v.g.l.length : Nat)) := by
  unfold obD
  rw [hm]
  exact ⟨toldE h0 V, toldP4 h0 V (fun i hi hg => by rw [hle]; exact V.cold hj hi hjm hg), toldP2 h0 V m2, trivial⟩
 exact ldT_if (id := 200032) (at_ok (cfg_ok w0) cs11) (at_sp h0 (cs11_gd h0)) (N := N11) (rel := relE) ⟨60, 60, _, _, hrun, hO⟩
theorem Bn.vg (B : Bn g Wn Hn x0 x1 y0 y1) : Vg g Wn Hn := ⟨B.chk, B.few, B.w, B.h, B.w1, B.w16, B.h1, B.h16, B.len⟩
theorem toldCt (h0 : Lib0 w0) {v : Ev} (B : Bn v.g Wn Hn x0 x1 y0 y1) (hx : v.x = (x0 : Int)) (hp : 0 < x0) : LdT ((cfg w0).at cs11) (ldCd v true) (cdB 230 (fnOf Tryz.f11).body) (stC' v false true) := by
 have V := B.vg
 have hh := V.h1; have b1 := B.x; have b2 := B.xw
 have Bl : Bn v.g Wn Hn 0 x0 0 Hn := V.bn hp (by omega) (by omega) (Nat.le_refl _)
 have Br : Bn v.g Wn Hn x0 Wn 0 Hn := V.bn (by omega) (Nat.le_refl _) (by omega) (Nat.le_refl _)
 have el : blV v = bxN 0 x0 0 Hn := by unfold blV bxN; rw [hx, V.h]; rfl
 have er : brV v = bxN x0 Wn 0 Hn := by unfold brV bxN; rw [hx, V.h, V.w]; rfl
 have hl : lfV v = tN v.g Wn 0 x0 0 Hn := by unfold lfV; rw [el]; exact Bl.t
 have hr : rtV v = tN v.g Wn x0 Wn 0 Hn := by unfold rtV; rw [er]; exact Br.t
 obtain ⟨j1, j2⟩ := joined (Bl := Bl) Br
 have hj : jnV v = v.g := by unfold jnV; rw [hl, hr]; exact j2
 have hu : ∀ n y : Rw, uC v n y = y := fun n y => by
  unfold uC gT nT
  rw [hj, hl, hr, j1, el, er, Bl.e78, Br.e78, sm_of V.chk, sm_of Bl.chkT, sm_of Br.chkT, sameG_refl]
  rfl
 exact ldT_if (id := 100230) (at_ok (cfg_ok w0) cs11) (at_sp h0 (cs11_gd h0)) (N := N11) (rel := relC) (.leaf ((runCt v).trans (hu _ _)))
theorem toldC (h0 : Lib0 w0) {v : Ev} (B : Bn v.g Wn Hn x0 x1 y0 y1) (hx : v.x = (x0 : Int)) : LdT ((cfg w0).at cs11) (ldCd v (decide (v.x > 0))) (cdB 230 (fnOf Tryz.f11).body) (stC' v false (decide (v.x > 0))) := by
 by_cases hp : 0 < x0
 ·rw [hx, decide_eq_true (show (x0 : Int) > 0 by omega)]
  exact toldCt h0 B hx hp
 ·rw [hx, decide_eq_false (show ¬ ((x0 : Int) > 0) by omega)]
  exact ldT_if (id := 100230) (at_ok (cfg_ok w0) cs11) (at_sp h0 (cs11_gd h0)) (N := N11) (rel := relC) (.leaf (runCf v))
theorem toldB (h0 : Lib0 w0) {v : Ev} (B : Bn v.g Wn Hn x0 x1 y0 y1) (hx : v.x = (x0 : Int)) (hy : v.y = (y0 : Int)) (ht : v.t = tN v.g Wn x0 x1 y0 y1) (h : u8 (show Int from v.n.1)) : LdT ((cfg w0).at cs11) (ldBd v) (sq11 200019) (stE v false) := by
 have V := B.vg
 have hp := B.len0
 have ho : ovOk v.g (oth (tN v.g Wn x0 x1 y0 y1)) (x0 : Int) (y0 : Int) = true := B.ov B.chkO rfl rfl
 have hu : ∀ n y : Rw, uB v n y = y := fun n y => by
  unfold uB gT aT
  rw [hx, hy, ht, sm_of B.chkT, sm_of B.chkO, sm_of V.chk, ho, B.anyO, show inO (tN v.g Wn x0 x1 y0 y1).l 0 = true from inO_nat (j := 0) (by rw [tN_len]; exact hp)]
  rfl
 exact ldT_if (id := 200019) (at_ok (cfg_ok w0) cs11) (at_sp h0 (cs11_gd h0)) (N := N11) (rel := relE) ⟨60, 60, _, _, (runB v (decide (v.x > 0))).trans (hu _ _), toldD h0 V h, toldC h0 B hx, trivial⟩
theorem Bn.ixZ (B : Bn g Wn Hn x0 x1 y0 y1) {v : Ev} (hg : v.g = g) (hx : v.x = (x0 : Int)) (hy : v.y = (y0 : Int)) (ht : v.t.w = ((x1 - x0 : Nat) : Int)) {j : Nat} (hj : j < (y1 - y0) * (x1 - x0)) : ixZ v (j : Int) = (((y0 + j / (x1 - x0)) * Wn + x0 + j % (x1 - x0) : Nat) : Int) := by
 have b0 := B.w; have b1 := B.h; have b2 := B.w16; have b3 := B.x; have b4 := B.xw; have b5 := B.y; have b6 := B.yh; have b7 := B.h16; have bl := B.len; have bf := B.few
 obtain ⟨h1, h2, h3⟩ := B.at hj
 have hd : (j : Int).tdiv v.t.w = ((j / (x1 - x0) : Nat) : Int) := by rw [ht, Int.ofNat_tdiv]
 have hm : (j : Int).tmod v.t.w = ((j % (x1 - x0) : Nat) : Int) := by rw [ht, Int.ofNat_tmod]
 unfold Go.Proofs.YthcpfignhalffaaGreatDoor.ixZ
 rw [hd, hm, hg, hx, hy]
 clear hd hm hj
 generalize j / (x1 - x0) = q at *
 generalize j % (x1 - x0) = r at *
 have hmul : ((y0 : Int) + (q : Int)) * g.w = (((y0 + q) * Wn : Nat) : Int) := by rw [b0, ← Int.natCast_add, ← Int.natCast_mul]
 have hle : (y0 + q) * Wn ≤ 16 * 16 := Nat.mul_le_mul (by omega) b2
 rw [show IntKind.i64.wrap (q : Int) = (q : Int) from W_id (by omega) (by omega), show IntKind.i64.wrap ((y0 : Int) + (q : Int)) = (y0 : Int) + (q : Int) from W_id (by omega) (by omega), hmul,
  show IntKind.i64.wrap (((y0 + q) * Wn : Nat) : Int) = (((y0 + q) * Wn : Nat) : Int) from W_id (by omega) (by omega)]
 rw [show IntKind.i64.wrap ((((y0 + q) * Wn : Nat) : Int) + (x0 : Int)) = (((y0 + q) * Wn : Nat) : Int) + (x0 : Int) from W_id (by omega) (by omega)]
 rw [show IntKind.i64.wrap ((((y0 + q) * Wn : Nat) : Int) + (x0 : Int) + (r : Int)) = (((y0 + q) * Wn : Nat) : Int) + (x0 : Int) + (r : Int) from W_id (by omega) (by omega)]
 omega
theorem nth_mapI {l : TLi} {f : Tup intK → Tup intK} {j : Nat} (h : j < l.length) : nth (l.map f) j = f (nth l j) := by
 unfold nth
 rw [List.getD_eq_getElem?_getD, List.getD_eq_getElem?_getD, List.getElem?_map, List.getElem?_eq_getElem h]
 rfl
theorem toldL (h0 : Lib0 w0) {v : Ev} (B : Bn v.g Wn Hn x0 x1 y0 y1) (hx : v.x = (x0 : Int)) (hy : v.y = (y0 : Int)) (ht : v.t = tN v.g Wn x0 x1 y0 y1) : LdT ((cfg w0).at cs11) (ldLL v ((v.t.l.map leE).length : Nat)) lq0 (stL v (v.g.l.map leE) (v.t.l.map leE) false 0) := by
 have htw : v.t.w = ((x1 - x0 : Nat) : Int) := by rw [ht]; rfl
 have htl : v.t.l.length = (y1 - y0) * (x1 - x0) := by rw [ht]; exact tN_len ..
 have hw : decide (v.t.w = 0) = false := decide_eq_false (by have := B.x; omega)
 have hlen : (v.t.l.map leE).length = (y1 - y0) * (x1 - x0) := by rw [List.length_map, htl]
 have hk : (y1 - y0) * (x1 - x0) ≤ 16 * 16 := Nat.mul_le_mul (by have := B.yh; have := B.h16; omega) (by have := B.xw; have := B.w16; omega)
 have hr : lsRun 0 (fun (_ : Tup intK) (a : Unit) => (X.normal, a)) (v.t.l.map leE) 0 () = (.exit 0, (((0 + (v.t.l.map leE).length : Nat) : Int), ())) := by
  rw [lsRun_fold (h := fun _ b => b) 0 (v.t.l.map leE) 0 () (fun _ _ _ => rfl)]
 rw [Nat.zero_add] at hr
 exact ldT_ls (at_ok (cfg_ok w0) cs11) (at_sp h0 (cs11_gd h0)) (N := N11) (rel := relL) (B := lpB 0 (fnOf Tryz.f11).body) (id := 0) (v.t.l.map leE) (by omega) (fun p : Int × Unit => stL v (v.g.l.map leE) (v.t.l.map leE) false p.1) (fun _ a => (X.normal, a)) (fun _ _ => True)
  (fun j _ hj _ => .leaf (by
   refine (roundL v (v.g.l.map leE) (v.t.l.map leE) (j : Int)).trans ?_
   have hj2 : j < (y1 - y0) * (x1 - x0) := by omega
   obtain ⟨k1, _, _⟩ := B.at hj2
   have hz := B.ixZ rfl hx hy htw hj2
   have e1 : nth (v.t.l.map leE) j = leE (nth v.t.l j) := nth_mapI (by omega)
   have e2 : nth (v.g.l.map leE) ((y0 + j / (x1 - x0)) * Wn + x0 + j % (x1 - x0)) = leE (nth v.g.l ((y0 + j / (x1 - x0)) * Wn + x0 + j % (x1 - x0))) := nth_mapI k1
   have e3 : nth v.t.l j = nth v.g.l ((y0 + j / (x1 - x0)) * Wn + x0 + j % (x1 - x0)) := by rw [ht]; exact nth_tilN' hj2
   rw [lt_t hj, inO_nat hj, hw, hz, inO_nat (by rw [List.length_map]; exact k1), Int.toNat_natCast, Int.toNat_natCast, Nat.add_zero, Nat.add_zero, e1, e2, e3]
   simp only [bne_self_eq_false]
   rfl))
  (fun _ _ _ _ _ _ => trivial)
  (fun _ _ => .leaf (by
   refine (roundL v (v.g.l.map leE) (v.t.l.map leE) (((v.t.l.map leE).length : Nat) : Int)).trans ?_
   rw [ge_f]; rfl))
  trivial hr
theorem lnB_no (l : TLi) : lnB l = false := by
 unfold lnB
 rw [List.length_map, bne_self_eq_false]
theorem toldA (h0 : Lib0 w0) {v : Ev} (B : Bn v.g Wn Hn x0 x1 y0 y1) (hx : v.x = (x0 : Int)) (hy : v.y = (y0 : Int)) (hb : v.b = bxN x0 x1 y0 y1) (h : u8 (show Int from v.n.1)) : LdT ((cfg w0).at cs11) (ldAd v) (sq11 200005) (stA v false) := by
 have V := B.vg
 have ht : tileG v.g v.b = tN v.g Wn x0 x1 y0 y1 := by rw [hb]; exact B.t
 have b2 := B.w16; have b3 := B.x; have b4 := B.xw; have b5 := B.y; have b6 := B.yh; have b7 := B.h16
 have hu : ∀ n y : Rw, uA v (tileG v.g v.b) n y = y := fun n y => by
  have ew : IntKind.i64.wrap (v.b.c1 - v.x) = ((x1 - x0 : Nat) : Int) := by
   rw [hb, hx]; unfold bxN; simp only
   rw [show IntKind.i64.wrap ((x1 : Int) - (x0 : Int)) = (x1 : Int) - (x0 : Int) from W_id (by omega) (by omega)]; omega
  have eh : IntKind.i64.wrap (v.b.r1 - v.y) = ((y1 - y0 : Nat) : Int) := by
   rw [hb, hy]; unfold bxN; simp only
   rw [show IntKind.i64.wrap ((y1 : Int) - (y0 : Int)) = (y1 : Int) - (y0 : Int) from W_id (by omega) (by omega)]; omega
  have ho : ovOk v.g (tN v.g Wn x0 x1 y0 y1) (x0 : Int) (y0 : Int) = true := B.ov B.chkT rfl rfl
  unfold uA lvG gT nT
  rw [ew, eh, ht, hb, hx, hy, B.e78, sm_of V.chk, sm_of B.chkT, B.chkT, V.chk, ho, B.any, sameG_refl, lnB_no, lnB_no]
  rw [show ((tN v.g Wn x0 x1 y0 y1).w != ((x1 - x0 : Nat) : Int)) = false from bne_self_eq_false _, show ((tN v.g Wn x0 x1 y0 y1).h != ((y1 - y0 : Nat) : Int)) = false from bne_self_eq_false _]
  rfl
 have hB : LdT ((cfg w0).at cs11) (ldBd (tV v)) (sq11 200019) (stE (tV v) false) := toldB (v := tV v) h0 B hx hy ht h
 have hL := toldL (v := tV v) h0 B hx hy ht
 exact ldT_if (id := 200005) (at_ok (cfg_ok w0) cs11) (at_sp h0 (cs11_gd h0)) (N := N11) (rel := relA) ⟨60, 60, _, _, (runA v (((tV v).t.l.map leE).length : Nat)).trans (hu _ _), hB, hL, trivial⟩
end
end Go.Proofs.YthcpfignhalffaaGreatDoor
namespace Go.Proofs.YthcpfignhalffaaGreatDoor
open Go Go.Am Go.RowKit
set_option maxRecDepth 100000
variable {w0 : World}
noncomputable section
def wh11 (g : Gr) (n : Tup uK) : Option (Obs × D) :=
 bif !(few g && (chkG g == 0)) then some ([], Bo true) else bif decide (g.w = 0) then none else bif decide (g.h = 0) then none else bif decide (xE g n = 0) then none else bif decide (yE g n = 0) then none
 else some ([(ldAd (vV g n), sq11 200005, stA (vV g n) false)], Bo true)
theorem body11 (g : Gr) (n : Tup uK) : bodyT ((cfg w0).at cs11) 60 [ldAd (vV g n)] 60 (fnOf Tryz.f11) [gD g, .agg ((toVs uK n).map .val)] = wh11 g n := by
 obtain ⟨w, h, l⟩ := g
 kernel_rfl
structure U8 (n : Tup uK) : Prop where
 a : u8 (show Int from n.1)
 b : u8 (show Int from n.2.1)
 c : u8 (show Int from n.2.2.1)
 d : u8 (show Int from n.2.2.2.1)
theorem place {n0 n2 : Int} (h0 : u8 n0) (h2 : u8 n2) {w : Int} {k : Nat} (hk : 0 < k) (h16 : k ≤ 16) (hw : w = (k : Int)) : ∃ x0 x1 : Nat, (IntKind.i64.wrap n0).tmod w = (x0 : Int) ∧ x0 < x1 ∧ x1 ≤ k ∧ IntKind.i64.wrap (w - (x0 : Int)) = ((k - x0 : Nat) : Int) ∧
  IntKind.i64.wrap (IntKind.i64.wrap ((x0 : Int) + 1) + (IntKind.i64.wrap n2).tmod (((k - x0 : Nat) : Int))) = (x1 : Int) := by
 subst hw
 obtain ⟨x0, hx, hl⟩ := mod_u8 h0 hk
 obtain ⟨d, hd, hd2⟩ := mod_u8 h2 (k := k - x0) (by omega)
 refine ⟨x0, x0 + 1 + d, hx, by omega, by omega, ?_, ?_⟩
 ·rw [show IntKind.i64.wrap ((k : Int) - (x0 : Int)) = (k : Int) - (x0 : Int) from W_id (by omega) (by omega)]; omega
 ·rw [hd, show IntKind.i64.wrap ((x0 : Int) + 1) = (x0 : Int) + 1 from W_id (by omega) (by omega), show IntKind.i64.wrap ((x0 : Int) + 1 + (d : Int)) = (x0 : Int) + 1 + (d : Int) from W_id (by omega) (by omega)]; omega
theorem law11_fn (h0 : Lib0 w0) (g : Gr) (n : Tup uK) (hn : U8 n) : FnD (cfg w0) 11 [gD g, .agg ((toVs uK n).map .val)] (Bo true) := by
 have hb := body11 (w0 := w0) g n
 unfold wh11 at hb
 cases hc : (few g && (chkG g == 0)) with
 | false =>
   rw [hc] at hb
   exact fnD_t (cfg_ok w0) h0 (cs11_gd h0) (g := 11) (fd := fnOf Tryz.f11) rfl hb trivial
 | true =>
   rw [Bool.and_eq_true, beq_iff_eq] at hc
   obtain ⟨Wn, Hn, V⟩ := vg_of hc.2 hc.1
   have w1 := V.w; have h1 := V.h; have w2 := V.w1; have h2 := V.h1
   obtain ⟨x0, x1, ex, hx1, hx2, exE, exx⟩ := place hn.a hn.c V.w1 V.w16 V.w
   obtain ⟨y0, y1, ey, hy1, hy2, eyE, eyy⟩ := place hn.b hn.d V.h1 V.h16 V.h
   have hxV : xV g n = (x0 : Int) := ex
   have hyV : yV g n = (y0 : Int) := ey
   have hxE : xE g n = ((Wn - x0 : Nat) : Int) := by unfold xE; rw [hxV]; exact exE
   have hyE : yE g n = ((Hn - y0 : Nat) : Int) := by unfold yE; rw [hyV]; exact eyE
   have hbV : bV g n = bxN x0 x1 y0 y1 := by
    unfold bV bxN
    rw [hxV, hyV, hxE, hyE]
    unfold n2 n3
    rw [exx, eyy]
   rw [hc.2, hc.1, hxE, hyE, decide_eq_false (show ¬ (g.w = 0) by omega), decide_eq_false (show ¬ (g.h = 0) by omega), decide_eq_false (show ¬ (((Wn - x0 : Nat) : Int) = 0) by omega), decide_eq_false (show ¬ (((Hn - y0 : Nat) : Int) = 0) by omega)] at hb
   have hA : LdT ((cfg w0).at cs11) (ldAd (vV g n)) (sq11 200005) (stA (vV g n) false) := toldA (v := vV g n) h0 (V.bn hx1 hx2 hy1 hy2) hxV hyV hbV hn.a
   exact fnD_t (cfg_ok w0) h0 (cs11_gd h0) (g := 11) (fd := fnOf Tryz.f11) rfl hb ⟨hA, trivial⟩
end
end Go.Proofs.YthcpfignhalffaaGreatDoor
namespace Go.Proofs.YthcpfignhalffaaGreatDoor
open Go Go.Am Go.RowKit
set_option maxRecDepth 100000
theorem wf8 {n : Int} (h : WfE (.int .u8) n) : 0 ≤ n ∧ n ≤ 255 := by
 have h : (decide (IntKind.u8.min ≤ n) && decide (n ≤ IntKind.u8.max)) = true := h
 rw [Bool.and_eq_true, decide_eq_true_eq, decide_eq_true_eq] at h
 have e1 : IntKind.u8.min = 0 := by decide
 have e2 : IntKind.u8.max = 255 := by decide
 omega
theorem u8_of {n : Int} (h : WfE (.int .u8) n) : u8 n := wf8 h
theorem u8s_of {n : Tup uK} (h : WfT uK n) : U8 n := ⟨u8_of h.1, u8_of h.2.1, u8_of h.2.2.1, u8_of h.2.2.2.1⟩
end Go.Proofs.YthcpfignhalffaaGreatDoor
