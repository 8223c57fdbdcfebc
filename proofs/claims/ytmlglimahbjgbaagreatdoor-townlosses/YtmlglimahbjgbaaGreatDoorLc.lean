/-
  A part of the proof of the statement that the claim names: see the last file.
-/
import Derived.Test.YtmlglimahbjgbaaGreatDoorL8
import Derived.Test.YtmlglimahbjgbaaGreatDoorL9
import Derived.Test.YtmlglimahbjgbaaGreatDoorLa
import Derived.Test.YtmlglimahbjgbaaGreatDoorLb
import Derived.Test.YtmlglimahbjgbaaGreatDoorAm4
namespace Go.Proofs.YtmlglimahbjgbaaGreatDoor
open Go Go.Am Go.Town
set_option maxRecDepth 100000
variable {w0 : World}
noncomputable section

/-! # Heard: its contract -/

theorem ex44_any (l : List (Tup wallK)) (t : List (Tup stpK)) (s r : Tup v3K) (en : Int) (hl : l.length ≤ 4) : ex44 w0 l t s r en = goE l t s r en (List.range' 0 l.length) [] := by
  match l, hl with
  | [], _ => exact run44_0 t s r en
  | [a], _ => exact run44_1 a t s r en
  | [a, b], _ => exact run44_2 a b t s r en
  | [a, b, c], _ => exact run44_3 a b c t s r en
  | [a, b, c, d], _ => exact run44_4 a b c d t s r en
  | _ :: _ :: _ :: _ :: _ :: _, hl => simp at hl

/-- Five walls: by what the first two do. -/
theorem ex44_five (a b c d e : Tup wallK) (t : List (Tup stpK)) (s r : Tup v3K) (en : Int) :
    ex44x w0 (refB [a, b, c, d, e] 0 s r) (refB [a, b, c, d, e] 1 s r) [a, b, c, d, e] t s r en = goE [a, b, c, d, e] t s r en [0, 1, 2, 3, 4] [] := by
  have key : goXX (refB [a, b, c, d, e] 0 s r) (refB [a, b, c, d, e] 1 s r) [a, b, c, d, e] t s r en = goE [a, b, c, d, e] t s r en [0, 1, 2, 3, 4] [] :=
    goX_eq (l := [a, b, c, d, e]) (j := 0) (js := [1, 2, 3, 4]) fun a0 => goX_eq (l := [a, b, c, d, e]) (j := 1) (js := [2, 3, 4]) fun _ => rfl
  refine Eq.trans ?_ key
  cases refB [a, b, c, d, e] 0 s r <;> cases refB [a, b, c, d, e] 1 s r
  · exact run44_54 a b c d e t s r en
  · exact run44_53 a b c d e t s r en
  · exact run44_52 a b c d e t s r en
  · exact run44_51 a b c d e t s r en

theorem body44_any (l : List (Tup wallK)) (t : List (Tup stpK)) (s r : Tup v3K) (en : Int) (ms : List (Tup mirK)) (hl : ms.length ≤ 5) : bd44 w0 l t s r en ms = T44 l t s r en ms := by
  match ms, hl with
  | [], _ => exact body44_0 l t s r en
  | [a], _ => exact body44_1 l t s r en a
  | [a, b], _ => exact body44_2 l t s r en a b
  | [a, b, c], _ => exact body44_3 l t s r en a b c
  | [a, b, c, d], _ => exact body44_4 l t s r en a b c d
  | [a, b, c, d, e], _ => exact body44_5 l t s r en a b c d e
  | _ :: _ :: _ :: _ :: _ :: _ :: _, hl => simp at hl

theorem eW_rng {w : Tup wallK} (hw : wChk w = 0) : 0 ≤ eW w ∧ eW w ≤ 1000 := by
  unfold wChk chkWall at hw
  rw [firstZ_nil] at hw
  exact withinZ_nil.1 (hw (withinZ w.2.2.2.2.2.2.1 0 1000) (by simp))

theorem e53_of {l : List (Tup wallK)} {t : List (Tup stpK)} {s r : Tup v3K} {en : Int} (O : OkH l t s r en) : e53 l s r = 0 := by
  unfold e53
  rw [O.cl, O.hs, O.hr]; rfl

theorem enB_at {l : List (Tup wallK)} {t : List (Tup stpK)} {s r : Tup v3K} {en : Int} (O : OkH l t s r en) {j : Nat} (hj : j < l.length) : enB en (eW (nth l j)) = true := by
  rw [enB_iff]
  exact ⟨O.he, eW_rng ((chkAll_all O.cl).2 _ (nth_mem hj))⟩

theorem goE_eq {l : List (Tup wallK)} {t : List (Tup stpK)} {s r : Tup v3K} {en : Int} (O : OkH l t s r en) : ∀ (js : List Nat) (acc : List (Tup mirK)), (∀ j ∈ js, j < l.length) →
    goE l t s r en js acc = some ([], .normal, st44 l t s r en (resE l en (js.foldl (fun b j => addM l s r j b) acc)))
  | [], acc, _ => rfl
  | j :: js, acc, hj => by
    unfold goE
    rw [List.foldl_cons]
    have ih := fun acc => goE_eq O js acc (fun i hi => hj i (by simp [hi]))
    unfold addM hasM
    cases he : evW (nth l j) with
    | false => exact ih acc
    | true =>
      rw [okM_all (e53_of O) (hj j (by simp)) he, enB_at O (hj j (by simp))]
      cases hb : refB l j s r with
      | false => exact ih acc
      | true => exact ih _

theorem ld44_ok (h0 : Lib0 w0) {l : List (Tup wallK)} {t : List (Tup stpK)} {s r : Tup v3K} {en : Int} (O : OkH l t s r en) (hl : l.length ≤ 5) : LdT ((cfg w0).at cs44) (ld44 l t s r en (mirsL l s r)) bk44 (st44 l t s r en nilD) := by
  have hg := goE_eq O (List.range' 0 l.length) [] (fun j hj => by simpa using hj)
  by_cases h4 : l.length ≤ 4
  · exact ldT_blk (at_ok (cfg_ok w0) cs44) (at_sp h0 (cs44_gd h0)) (.leaf (n := 80) (m := 80) (L := []) ((ex44_any l t s r en h4).trans hg))
  · match l, h4, hl, hg with
    | [a, b, c, d, e], _, _, hg =>
      have := ldT_blk (at_ok (cfg_ok w0) (cs44x (refB [a, b, c, d, e] 0 s r) (refB [a, b, c, d, e] 1 s r))) (at_sp h0 (cs44x_gd h0 _ _)) (.leaf (n := 80) (m := 80) (L := []) ((ex44_five a b c d e t s r en).trans hg))
      exact this
    | [], h4, _, _ => exact absurd (by simp) h4
    | [_], h4, _, _ => exact absurd (by simp) h4
    | [_, _], h4, _, _ => exact absurd (by simp) h4
    | [_, _, _], h4, _, _ => exact absurd (by simp) h4
    | [_, _, _, _], h4, _, _ => exact absurd (by simp) h4
    | _ :: _ :: _ :: _ :: _ :: _ :: _, _, hl, _ => simp at hl

/-! ## The mirrors stand in the order of their walls -/

theorem mirs_inv (l : List (Tup wallK)) (s r : Tup v3K) : ∀ (n i : Nat) (acc : List (Tup mirK)), acc.Pairwise (fun a b => mW a < mW b) → (∀ m ∈ acc, 0 ≤ mW m ∧ mW m < i) →
    ((List.range' i n).foldl (fun b j => addM l s r j b) acc).Pairwise (fun a b => mW a < mW b) ∧ ∀ m ∈ (List.range' i n).foldl (fun b j => addM l s r j b) acc, 0 ≤ mW m ∧ mW m < ((i + n : Nat) : Int)
  | 0, i, acc, hp, hb => ⟨hp, fun m hm => hb m hm⟩
  | n + 1, i, acc, hp, hb => by
    rw [List.range'_succ, List.foldl_cons]
    have key : (addM l s r i acc).Pairwise (fun a b => mW a < mW b) ∧ ∀ m ∈ addM l s r i acc, 0 ≤ mW m ∧ mW m < ((i + 1 : Nat) : Int) := by
      unfold addM
      cases hasM l s r i with
      | false => exact ⟨hp, fun m hm => by have := hb m hm; omega⟩
      | true =>
        have hk : mW (mirW (nth l i) i s r) = (i : Int) := rfl
        refine ⟨List.pairwise_append.2 ⟨hp, List.pairwise_singleton .., fun a ha b hb' => ?_⟩, fun m hm => ?_⟩
        · rw [List.mem_singleton.1 hb', hk]
          exact (hb a ha).2
        · rcases List.mem_append.1 hm with hm | hm
          · have := hb m hm; omega
          · rw [List.mem_singleton.1 hm, hk]; omega
    have := mirs_inv l s r n (i + 1) _ key.1 key.2
    rw [show i + 1 + n = i + (n + 1) by omega] at this
    exact this

theorem mirs_ok (l : List (Tup wallK)) (s r : Tup v3K) : (mirsL l s r).Pairwise (fun a b => mW a < mW b) ∧ ∀ m ∈ mirsL l s r, 0 ≤ mW m ∧ mW m < (l.length : Int) := by
  have := mirs_inv l s r l.length 0 [] List.Pairwise.nil (fun m hm => by cases hm)
  rw [Nat.zero_add] at this
  exact this

theorem srtT_ok {k : Ro} : ∀ (ms : List (Tup mirK)), ms.Pairwise (fun a b => mW a < mW b) → srtT ms k = k
  | [], _ => rfl
  | [_], _ => rfl
  | a :: b :: ms, h => by
    unfold srtT
    rw [List.pairwise_cons] at h
    rw [decide_eq_true (h.1 b (by simp))]
    exact srtT_ok (b :: ms) h.2

theorem mirs_len (l : List (Tup wallK)) (s r : Tup v3K) : (mirsL l s r).length ≤ l.length := by
  have key : ∀ (js : List Nat) (acc : List (Tup mirK)), (js.foldl (fun b j => addM l s r j b) acc).length ≤ acc.length + js.length := fun js => by
    induction js with
    | nil => intro acc; simp
    | cons j js ih =>
      intro acc
      rw [List.foldl_cons]
      have := ih (addM l s r j acc)
      have := addM_len l s r j acc
      rw [List.length_cons]
      omega
  have := key (List.range' 0 l.length) []
  simp only [List.length_nil, List.length_range', Nat.zero_add] at this
  exact this

noncomputable def hear0 (l : List (Tup wallK)) (t : List (Tup stpK)) (s r : Tup v3K) (en : Int) : Tup iv2 := hear l t s r en (mirsL l s r)
noncomputable def hrE (l : List (Tup wallK)) (t : List (Tup stpK)) (s r : Tup v3K) (en : Int) : Int := bif eH l t s r en != 0 then eH l t s r en else bif bigB (hear0 l t s r en) then 4 else 0
noncomputable def hrD (l : List (Tup wallK)) (t : List (Tup stpK)) (s r : Tup v3K) (en : Int) : D := .tup [pair (or2e (hrE l t s r en) (hear0 l t s r en)), I (hrE l t s r en)]

theorem hrD_e {l : List (Tup wallK)} {t : List (Tup stpK)} {s r : Tup v3K} {en : Int} (h : (eH l t s r en != 0) = true) : hrD l t s r en = .tup [pair z2, I (eH l t s r en)] := by
  unfold hrD
  have e : hrE l t s r en = eH l t s r en := by unfold hrE; rw [h]; rfl
  rw [e]
  unfold or2e orI
  rw [h]; rfl

theorem fin44_eq {l : List (Tup wallK)} {t : List (Tup stpK)} {s r : Tup v3K} {en : Int} (h : (eH l t s r en != 0) = false) (o : Obs) : fin44 o (hear0 l t s r en) = some (o, hrD l t s r en) := by
  unfold fin44 hrD
  have e : hrE l t s r en = bif bigB (hear0 l t s r en) then 4 else 0 := by unfold hrE; rw [h]; rfl
  rw [e]
  cases bigB (hear0 l t s r en) <;> rfl

theorem fn44 (h0 : Lib0 w0) (l : List (Tup wallK)) (t : List (Tup stpK)) (s r : Tup v3K) (en : Int) (hl : eH l t s r en = 0 → l.length ≤ 5) : FnD (cfg w0) 44 [.vec wallK l, .vec stpK t, agP s r, I en] (hrD l t s r en) := by
  cases hc : (eH l t s r en != 0) with
  | true =>
    refine fnD_t (cfg_ok w0) h0 (cs44_gd h0) (fd := fnOf Tryz.f44) rfl (o := []) ((body44_0 l t s r en).trans ?_) trivial
    unfold T44
    rw [hc, hrD_e hc]; rfl
  | false =>
    have hz : eH l t s r en = 0 := by simpa using hc
    have hv : vH l t s r en = true := by unfold vH; rw [hz]; rfl
    have O := vH_ok hv
    refine fnD_t (cfg_ok w0) h0 (cs44_gd h0) (fd := fnOf Tryz.f44) rfl (o := ob44 l t s r en (mirsL l s r)) ((body44_any l t s r en (mirsL l s r) (Nat.le_trans (mirs_len l s r) (hl hz))).trans ?_) ⟨ld44_ok h0 O (hl hz), trivial⟩
    unfold T44
    rw [hc, srtT_ok _ (mirs_ok l s r).1, hv]
    exact fin44_eq hc _

noncomputable def g44 (l : List (Tup wallK)) (t : List (Tup stpK)) (s r : Tup v3K) (en : Int) : Bool := eH l t s r en != 0 || Nat.ble l.length 5
noncomputable def c44 : Ct := ct 44 [.v wallK, .v stpK, .b p6K, .c ik] fun a => .br (g44 a.1 a.2.1 (pa1 a.2.2.1) (pa2 a.2.2.1) a.2.2.2.1) (.leaf (hrD a.1 a.2.1 (pa1 a.2.2.1) (pa2 a.2.2.1) a.2.2.2.1)) .bad
theorem gd44 (h0 : Lib0 w0) : Gd (cfg w0) c44 := gd_sig fun a d hd => by
  obtain ⟨hg, hd⟩ := br_run hd
  cases hd
  refine fn44 h0 a.1 a.2.1 (pa1 a.2.2.1) (pa2 a.2.2.1) a.2.2.2.1 fun h => ?_
  unfold g44 at hg
  rw [h] at hg
  exact Nat.le_of_ble_eq_true (by simpa using hg)

/-! ## The reference's Heard -/

noncomputable def cs49 : List Ct := [c48, c58, tmC 127]
theorem cs49_gd (h0 : Lib0 w0) : Gds (cfg w0) cs49 := ⟨gd48 h0, gd58 h0, gd127 h0, trivial⟩
noncomputable def rel49 : List (Nat × Cv) := [(0, .id), (4, .id), (13, .ov mirK), (14, .id), (12, .id), (10, .id), (11, .id)]
noncomputable def st49 (l : List (Tup wallK)) (en : Int) (ms : List (Tup mirK)) (a : Int × Tup iv2) : List D := [.vec wallK l, I en, .ovec mirK ms, I a.1, .obox [I a.2.1, I a.2.2.1], .obox [I 0, I 0], I 0]
noncomputable def inM (ms : List (Tup mirK)) (j : Int) : Bool := Nat.beq 11 11 && (decide (0 ≤ j) && decide (j < ms.length))
noncomputable def inW (l : List (Tup wallK)) (m : Tup mirK) : Bool := Nat.beq 7 7 && (decide (0 ≤ mW m) && decide (mW m < l.length))

theorem round49 (l : List (Tup wallK)) (en : Int) (ms : List (Tup mirK)) (j : Int) (o : Tup iv2) : rndD ((cfg w0).at cs49) 40 [] 40 (fnOf Tryz.f49).ntmps rel49 (lpB 0 (fnOf Tryz.f49).body) (st49 l en ms (j, o)) =
    bif decide (j < ms.length) then
      bif inM ms j then bif inW l (nth ms j.toNat) then bif enB en (ecW l (nth ms j.toNat)) then some ([], .normal, st49 l en ms (W (j + 1), addE l en o (nth ms j.toNat))) else none else none else none
    else some ([], .exit 0, st49 l en ms (j, o)) := by kernel_rfl
theorem body49 (l : List (Tup wallK)) (t : List (Tup stpK)) (s r : Tup v3K) (en : Int) (p : Int × Tup iv2) : bodyT ((cfg w0).at cs49) 40 [ldP 0 (fnOf Tryz.f49).ntmps rel49 .normal (st49 l en (mirsL l s r) p)] 40 (fnOf Tryz.f49) [.vec wallK l, .vec stpK t, vec3 s, vec3 r, I en] =
    gO (vH l t s r en) (gO (v58 l s r) (fin44 [(ldP 0 (fnOf Tryz.f49).ntmps rel49 .normal (st49 l en (mirsL l s r) p), .loop (lpB 0 (fnOf Tryz.f49).body), st49 l en (mirsL l s r) (0, scr l t s r en))] p.2)) := by kernel_rfl

theorem fn49 (h0 : Lib0 w0) (l : List (Tup wallK)) (t : List (Tup stpK)) (s r : Tup v3K) (en : Int) (hv : vH l t s r en = true) : FnD (cfg w0) 49 [.vec wallK l, .vec stpK t, vec3 s, vec3 r, I en] (hrD l t s r en) := by
  have O := vH_ok hv
  have hll := O.ll
  have hml := mirs_len l s r
  have hin := (mirs_ok l s r).2
  have hz : eH l t s r en = 0 := by simpa [vH] using hv
  refine fn_ls h0 (cs49_gd h0) (fd := fnOf Tryz.f49) rfl rel49 (mirsL l s r) (by omega) (st49 l en (mirsL l s r)) (fun m a => (X.normal, addE l en a m)) (fun _ _ => True) (a0 := scr l t s r en) trivial
    (fun j a hj _ => .leaf (by
      have hm : nth (mirsL l s r) j ∈ mirsL l s r := by simp [nth, List.getD_eq_getElem?_getD, hj]
      have hb := hin _ hm
      have h1 : inW l (nth (mirsL l s r) j) = true := by
        unfold inW
        rw [decide_eq_true hb.1, decide_eq_true hb.2]; rfl
      have h2 : enB en (ecW l (nth (mirsL l s r) j)) = true := enB_at O (by omega)
      rw [round49, show inM (mirsL l s r) j = true from inb 11 hj, lt_t hj, Int.toNat_natCast, h1, h2]
      rfl)) (fun _ _ _ _ _ _ => trivial)
    (fun a _ => .leaf (by rw [round49, ge_f]; rfl)) fun x p hx => ?_
  rw [lsRun_fold (h := fun m a => addE l en a m) 0 (mirsL l s r) 0 (scr l t s r en) (fun _ _ _ => rfl)] at hx
  cases hx
  refine (body49 l t s r en _).trans ?_
  have h58 : v58 l s r = true := by unfold v58; rw [O.cl, O.hs, O.hr]; rfl
  rw [hv, h58]
  exact fin44_eq (by rw [hz]; rfl) _
noncomputable def c49 : Ct := ct 49 [.v wallK, .v stpK, .b v3K, .b v3K, .c ik] fun a => .br (vH a.1 a.2.1 a.2.2.1 a.2.2.2.1 a.2.2.2.2.1) (.leaf (hrD a.1 a.2.1 a.2.2.1 a.2.2.2.1 a.2.2.2.2.1)) .bad
theorem gd49 (h0 : Lib0 w0) : Gd (cfg w0) c49 := gd_sig fun a d hd => by
  obtain ⟨hg, hd⟩ := br_run hd
  cases hd
  exact fn49 h0 a.1 a.2.1 a.2.2.1 a.2.2.2.1 a.2.2.2.2.1 hg
end
end Go.Proofs.YtmlglimahbjgbaaGreatDoor

namespace Go.Proofs.YtmlglimahbjgbaaGreatDoor
open Go Go.Am Go.Town
set_option maxRecDepth 100000
variable {w0 : World}
noncomputable section

/-! # TownLosses: the law's run -/

noncomputable def c26l : Ct := ct 26 [.c ik, .c ik, .c ik, .c ik] fun a => .leaf (Bo (numB a.1 a.2.1 a.2.2.1 a.2.2.2.1))
theorem gd26l (h0 : Lib0 w0) : Gd (cfg w0) c26l := gd_sig fun a d hd => by cases hd; exact fn26 h0 a.1 a.2.1 a.2.2.1 a.2.2.2.1
noncomputable def c39l : Ct := ct 39 [.b iv2, .c ik, .c ik, .b iv2] fun a => .leaf (Bo (ivB a.1 a.2.1 a.2.2.1 a.2.2.2.1))
theorem gd39l (h0 : Lib0 w0) : Gd (cfg w0) c39l := gd_sig fun a d hd => by cases hd; exact fn39 h0 a.1 a.2.1 a.2.2.1 a.2.2.2.1

noncomputable def law5 : List Ct := [⟨13, tG awakeF⟩, c27, c31, c42, c41, c43, c44, tabC 45, ⟨32, tG (intsF withinK)⟩, ⟨108, tG firstF⟩, checkC 33, ⟨21, tG checkPathF⟩, c47, c48, c49, tabC 50, c26l, c39l]
theorem law5_gd (h0 : Lib0 w0) (ha : Good w0 ⟨13, awakeF⟩) : Gds (cfg w0) law5 :=
  ⟨gd_of ha, gd27 h0, gd31 h0, gd42 h0, gd41 h0, gd43 h0, gd44 h0, gd45 h0, gd_of (range_good h0), gd_of (rfirst_good h0), gd33 h0, gd_of (rcheckPath_good h0), gd47 h0, gd48 h0, gd49 h0, gd50 h0, gd26l h0, gd39l h0, trivial⟩

noncomputable def anS (b : Bool) (k : Option D) : Option D := bif b then k else some (Bo false)
noncomputable def eqLs (a b : Int) : Bool := a == b
noncomputable def tlB (t : List (Tup stpK)) : Bool := Nat.ble t.length 100000
noncomputable def llB (l : List (Tup wallK)) : Bool := Nat.ble l.length 100000
noncomputable def t17 (t : List (Tup stpK)) : Bool := decide ((t.length : Int) > 17)
noncomputable def twoL (l : List (Tup wallK)) (t : List (Tup stpK)) (s r : Tup v3K) (en : Int) : Int := firstZ [chkAllW l, chkTab t, firstZ [pChk s, pChk r], withinZ en 0 10000000000000]
noncomputable def finL (l : List (Tup wallK)) (t : List (Tup stpK)) (s r : Tup v3K) (d en : Int) (f : Int) (sc he : Tup iv2) (e3 : Int) : Option D :=
  gS (tlB t) (anS (eqLs (chkTab t) (chkTab t)) (anS (numB (orI (e41 t d) (facL d 1000 t)) (e41 t d) (e41 t d) f) (anS (ivB (or2e (eH l t s r en) (scr l t s r en)) (eH l t s r en) (twoL l t s r en) sc)
    (anS (ivB (or2e (hrE l t s r en) (hear0 l t s r en)) (hrE l t s r en) e3 he) (some (Bo true))))))
noncomputable def midL (l : List (Tup wallK)) (t : List (Tup stpK)) (s r : Tup v3K) (d en : Int) (f : Int) : Option D :=
  bif eqLs (twoL l t s r en) 0 then gS (vH l t s r en) (gS (vH l t s r en) (finL l t s r d en f (scr l t s r en) (or2e (hrE l t s r en) (hear0 l t s r en)) (hrE l t s r en))) else finL l t s r d en f z2 z2 (twoL l t s r en)
noncomputable def law5D (l : List (Tup wallK)) (t : List (Tup stpK)) (s r : Tup v3K) (d en : Int) : Option D :=
  bif !shortW l then some (Bo true) else bif t17 t then some (Bo true) else
  gS (tlB t) (gS (llB l) (gS (tlB t) (gS (llB l) (gS (tlB t) (gS (g44 l t s r en)
    (bif eqLs (e41 t d) 0 then gS (tabB t) (midL l t s r d en (facL d 1000 t)) else midL l t s r d en 0))))))
noncomputable def wayD (s r : Tup v3K) (d en : Int) : D := .agg [I s.1, I s.2.1, I s.2.2.1, I r.1, I r.2.1, I r.2.2.1, I d, I en]
noncomputable def q5 (w0 : World) (l : List (Tup wallK)) (t : List (Tup stpK)) (s r : Tup v3K) (d en : Int) : Option D := bodyK ((cfg w0).at law5) 100 (fnOf Tryz.f5) [.vec wallK l, .vec stpK t, wayD s r d en]
noncomputable def q5b (_ : World) (l : List (Tup wallK)) (t : List (Tup stpK)) (s r : Tup v3K) (d en : Int) : Option D := law5D l t s r d en
end
end Go.Proofs.YtmlglimahbjgbaaGreatDoor

namespace Go.Proofs.YtmlglimahbjgbaaGreatDoor
open Go Go.Am Go.Town
set_option maxRecDepth 100000
variable {w0 : World}

/-! # TownLosses: the law holds -/

theorem law5_run (l : List (Tup wallK)) (t : List (Tup stpK)) (s r : Tup v3K) (d en : Int) : bodyK ((cfg w0).at law5) 100 (fnOf Tryz.f5) [.vec wallK l, .vec stpK t, wayD s r d en] = law5D l t s r d en := by kernel_rfl

theorem num_ok {e x f : Int} (h : e = 0 → f = x) : numB (orI e x) e e f = true := by
  unfold numB orI
  cases hc : (e != 0) with
  | true => simp
  | false =>
    rw [h (by simpa using hc)]
    simp

theorem eqI_t {a b : Int} (h : a = b) : eqI a b = true := by subst h; simp [eqI]
theorem iv_ok {e : Int} {x y : Tup iv2} (h : e = 0 → xL y = xL x ∧ xH y = xH x) : ivB (or2e e x) e e y = true := by
  unfold ivB
  have hq : eq2 (or2e e x) (bif e != 0 then z2 else y) = true := by
    unfold or2e orI
    cases hc : (e != 0) with
    | true => rfl
    | false =>
      obtain ⟨h1, h2⟩ := h (by simpa using hc)
      show (eqI (xL x) (xL y) && (eqI (xH x) (xH y) && true)) = true
      rw [eqI_t h1.symm, eqI_t h2.symm]; rfl
  rw [hq]
  simp

theorem anS_t {b : Bool} {k : Option D} (h : b = true) : anS b k = k := by rw [h]; rfl
theorem gS_t {b : Bool} {k : Option D} (h : b = true) : gS b k = k := by rw [h]; rfl
theorem eqLs_t {a b : Int} (h : a = b) : eqLs a b = true := by subst h; simp [eqLs]

theorem first_mid (a b c d e : Int) : firstZ [a, b, firstZ [c, d], e] = firstZ [a, b, c, d, e] := by
  have key : firstZ [firstZ [c, d], e] = firstZ [c, d, e] := by
    by_cases hc : c = 0
    · subst hc
      by_cases hd : d = 0
      · subst hd; rfl
      · have : (d != 0) = true := by simpa using hd
        simp [firstZ, this]
    · have : (c != 0) = true := by simpa using hc
      simp [firstZ, this]
  show (bif a != 0 then a else bif b != 0 then b else firstZ [firstZ [c, d], e]) = _
  rw [key]; rfl

theorem twoL_eq (l : List (Tup wallK)) (t : List (Tup stpK)) (s r : Tup v3K) (en : Int) : twoL l t s r en = eH l t s r en := first_mid _ _ _ _ _

theorem finL_ok {l : List (Tup wallK)} {t : List (Tup stpK)} {s r : Tup v3K} {d en f : Int} {sc he : Tup iv2} {e3 : Int} (ht : tlB t = true) (hf : e41 t d = 0 → f = facL d 1000 t) (hs : eH l t s r en = 0 → xL sc = xL (scr l t s r en) ∧ xH sc = xH (scr l t s r en))
    (h3 : e3 = hrE l t s r en) (hh : hrE l t s r en = 0 → xL he = xL (hear0 l t s r en) ∧ xH he = xH (hear0 l t s r en)) : finL l t s r d en f sc he e3 = some (Bo true) := by
  unfold finL
  rw [gS_t ht, anS_t (eqLs_t rfl), anS_t (num_ok hf), twoL_eq, anS_t (iv_ok hs), h3, anS_t (iv_ok hh)]

theorem midL_ok {l : List (Tup wallK)} {t : List (Tup stpK)} {s r : Tup v3K} {d en f : Int} (ht : tlB t = true) (hf : e41 t d = 0 → f = facL d 1000 t) : midL l t s r d en f = some (Bo true) := by
  unfold midL
  rw [twoL_eq]
  cases hc : eqLs (eH l t s r en) 0 with
  | true =>
    have hv : vH l t s r en = true := hc
    rw [hv]
    refine finL_ok ht hf (fun _ => ⟨rfl, rfl⟩) rfl fun h => ?_
    rw [h]
    exact ⟨rfl, rfl⟩
  | false =>
    have hn : (eH l t s r en != 0) = true := by simpa [eqLs] using hc
    have he : eH l t s r en ≠ 0 := by simpa using hn
    have h3 : hrE l t s r en = eH l t s r en := by unfold hrE; rw [hn]; rfl
    refine finL_ok ht hf (fun h => absurd h he) h3.symm fun h => ?_
    rw [h3] at h
    exact absurd h he

theorem law5_fn (h0 : Lib0 w0) (ha : Good w0 ⟨13, awakeF⟩) (l : List (Tup wallK)) (t : List (Tup stpK)) (s r : Tup v3K) (d en : Int) : FnD (cfg w0) 5 [.vec wallK l, .vec stpK t, wayD s r d en] (Bo true) := by
  refine fnD_k (cfg_ok w0) h0 (law5_gd h0 ha) (fd := fnOf Tryz.f5) rfl (n := 100) ((law5_run l t s r d en).trans ?_)
  unfold law5D
  cases hs : shortW l with
  | false => rfl
  | true =>
    cases h17 : t17 t with
    | true => rfl
    | false =>
      have hf : Nat.ble l.length 5 = true ∨ manyL l = true := by
        unfold shortW at hs
        cases hm : manyW l.length with
        | true => rw [hm] at hs; cases hs
        | false =>
          unfold manyW at hm
          simp only [Bool.and_eq_false_iff, decide_eq_false_iff_not, bne_eq_false_iff_eq] at hm
          unfold manyL
          simp only [Nat.ble_eq, decide_eq_true_eq]
          omega
      have hl : l.length ≤ 33 := by
        unfold shortW at hs
        cases hm : manyW l.length with
        | true => rw [hm] at hs; cases hs
        | false =>
          unfold manyW at hm
          simp only [Bool.and_eq_false_iff, decide_eq_false_iff_not, bne_eq_false_iff_eq] at hm
          omega
      have ht : tlB t = true := by
        unfold t17 at h17
        unfold tlB
        simp only [decide_eq_false_iff_not] at h17
        simp only [Nat.ble_eq]
        omega
      have hll : llB l = true := by unfold llB; simp only [Nat.ble_eq]; omega
      have hg : g44 l t s r en = true := by
        unfold g44
        rcases hf with hf | hf
        · rw [hf]; simp
        · have : eH l t s r en = 5 := by unfold eH; rw [chk_many hf]; rfl
          rw [this]; rfl
      rw [gS_t ht, gS_t hll, gS_t ht, gS_t hll, gS_t ht, gS_t hg]
      cases he : eqLs (e41 t d) 0 with
      | true =>
        have h41 : e41 t d = 0 := by simpa [eqLs] using he
        have hb : tabB t = true := by
          unfold e41 at h41
          rw [firstZ_nil] at h41
          unfold tabB
          rw [h41 (chkTab t) (by simp)]; rfl
        show gS (tabB t) _ = _
        rw [gS_t hb]
        exact midL_ok ht fun _ => rfl
      | false => exact midL_ok ht fun h => by rw [h] at he; cases he

def sh5 : List Sh := [.v wallK, .v stpK, .b [ik, ik, ik, ik, ik, ik, ik, ik]]

theorem law5_all (h0 : Lib0 w0) (ha : Good w0 ⟨13, awakeF⟩) (a : ArgT sh5) (_ : WfA sh5 a) : FnD (cfg w0) 5 (toShs sh5 a) (Bo true) :=
  law5_fn h0 ha a.1 a.2.1 (t3 a.2.2.1.1 a.2.2.1.2.1 a.2.2.1.2.2.1) (t3 a.2.2.1.2.2.2.1 a.2.2.1.2.2.2.2.1 a.2.2.1.2.2.2.2.2.1) a.2.2.1.2.2.2.2.2.2.1 a.2.2.1.2.2.2.2.2.2.2.1
end Go.Proofs.YtmlglimahbjgbaaGreatDoor
