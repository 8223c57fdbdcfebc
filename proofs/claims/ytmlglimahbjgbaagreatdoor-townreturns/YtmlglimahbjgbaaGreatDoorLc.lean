/-
  A part of the proof of the statement that the claim names: see the last file.
-/
import Derived.Test.YtmlglimahbjgbaaGreatDoorL8
import Derived.Test.YtmlglimahbjgbaaGreatDoorL9
import Derived.Test.YtmlglimahbjgbaaGreatDoorLa
import Derived.Test.YtmlglimahbjgbaaGreatDoorLb
import Derived.Test.YtmlglimahbjgbaaGreatDoorL2
import Derived.Test.YtmlglimahbjgbaaGreatDoorT1
import Derived.Test.YtmlglimahbjgbaaGreatDoorL4
namespace Go.Proofs.YtmlglimahbjgbaaGreatDoor
open Go Go.Am Go.Town
set_option maxRecDepth 100000
variable {w0 : World}
noncomputable section

/-! # Heard: its contract -/

theorem ex44_any (l : List (Tup wallK)) (t : List (Tup stpK)) (s r : Tup v3K) (en : Int) (hl : l.length ≤ 4) : ex44 w0 l t s r en = goE l t s r en (List.range' 0 l.length) [] := by
  match l, hl with
  | [], _ => exact run44_0 t s r en
  | [a], _ => exact run44_1 a t s r en
  | [a, b], _ => exact run44_2 a b t s r en
  | [a, b, c], _ => exact run44_3 a b c t s r en
  | [a, b, c, d], _ => exact run44_4 a b c d t s r en
  | _ :: _ :: _ :: _ :: _ :: _, hl => simp at hl

/-- Five walls: by what the first two do. -/
theorem ex44_five (a b c d e : Tup wallK) (t : List (Tup stpK)) (s r : Tup v3K) (en : Int) :
    ex44x w0 (refB [a, b, c, d, e] 0 s r) (refB [a, b, c, d, e] 1 s r) [a, b, c, d, e] t s r en = goE [a, b, c, d, e] t s r en [0, 1, 2, 3, 4] [] := by
  have key : goXX (refB [a, b, c, d, e] 0 s r) (refB [a, b, c, d, e] 1 s r) [a, b, c, d, e] t s r en = goE [a, b, c, d, e] t s r en [0, 1, 2, 3, 4] [] :=
    goX_eq (l := [a, b, c, d, e]) (j := 0) (js := [1, 2, 3, 4]) fun a0 => goX_eq (l := [a, b, c, d, e]) (j := 1) (js := [2, 3, 4]) fun _ => rfl
  refine Eq.trans ?_ key
  cases refB [a, b, c, d, e] 0 s r <;> cases refB [a, b, c, d, e] 1 s r
  · exact run44_54 a b c d e t s r en
  · exact run44_53 a b c d e t s r en
  · exact run44_52 a b c d e t s r en
  · exact run44_51 a b c d e t s r en

theorem body44_any (l : List (Tup wallK)) (t : List (Tup stpK)) (s r : Tup v3K) (en : Int) (ms : List (Tup mirK)) (hl : ms.length ≤ 5) : bd44 w0 l t s r en ms = T44 l t s r en ms := by
  match ms, hl with
  | [], _ => exact body44_0 l t s r en
  | [a], _ => exact body44_1 l t s r en a
  | [a, b], _ => exact body44_2 l t s r en a b
  | [a, b, c], _ => exact body44_3 l t s r en a b c
  | [a, b, c, d], _ => exact body44_4 l t s r en a b c d
  | [a, b, c, d, e], _ => exact body44_5 l t s r en a b c d e
  | _ :: _ :: _ :: _ :: _ :: _ :: _, hl => simp at hl

theorem eW_rng {w : Tup wallK} (hw : wChk w = 0) : 0 ≤ eW w ∧ eW w ≤ 1000 := by
  unfold wChk chkWall at hw
  rw [firstZ_nil] at hw
  exact withinZ_nil.1 (hw (withinZ w.2.2.2.2.2.2.1 0 1000) (by simp))

theorem e53_of {l : List (Tup wallK)} {t : List (Tup stpK)} {s r : Tup v3K} {en : Int} (O : OkH l t s r en) : e53 l s r = 0 := by
  unfold e53
  rw [O.cl, O.hs, O.hr]; rfl

theorem enB_at {l : List (Tup wallK)} {t : List (Tup stpK)} {s r : Tup v3K} {en : Int} (O : OkH l t s r en) {j : Nat} (hj : j < l.length) : enB en (eW (nth l j)) = true := by
  rw [enB_iff]
  exact ⟨O.he, eW_rng ((chkAll_all O.cl).2 _ (nth_mem hj))⟩

theorem goE_eq {l : List (Tup wallK)} {t : List (Tup stpK)} {s r : Tup v3K} {en : Int} (O : OkH l t s r en) : ∀ (js : List Nat) (acc : List (Tup mirK)), (∀ j ∈ js, j < l.length) →
    goE l t s r en js acc = some ([], .normal, st44 l t s r en (resE l en (js.foldl (fun b j => addM l s r j b) acc)))
  | [], acc, _ => rfl
  | j :: js, acc, hj => by
    unfold goE
    rw [List.foldl_cons]
    have ih := fun acc => goE_eq O js acc (fun i hi => hj i (by simp [hi]))
    unfold addM hasM
    cases he : evW (nth l j) with
    | false => exact ih acc
    | true =>
      rw [okM_all (e53_of O) (hj j (by simp)) he, enB_at O (hj j (by simp))]
      cases hb : refB l j s r with
      | false => exact ih acc
      | true => exact ih _

theorem ld44_ok (h0 : Lib0 w0) {l : List (Tup wallK)} {t : List (Tup stpK)} {s r : Tup v3K} {en : Int} (O : OkH l t s r en) (hl : l.length ≤ 5) : LdT ((cfg w0).at cs44) (ld44 l t s r en (mirsL l s r)) bk44 (st44 l t s r en nilD) := by
  have hg := goE_eq O (List.range' 0 l.length) [] (fun j hj => by simpa using hj)
  by_cases h4 : l.length ≤ 4
  · exact ldT_blk (at_ok (cfg_ok w0) cs44) (at_sp h0 (cs44_gd h0)) (.leaf (n := 80) (m := 80) (L := []) ((ex44_any l t s r en h4).trans hg))
  · match l, h4, hl, hg with
    | [a, b, c, d, e], _, _, hg =>
      have := ldT_blk (at_ok (cfg_ok w0) (cs44x (refB [a, b, c, d, e] 0 s r) (refB [a, b, c, d, e] 1 s r))) (at_sp h0 (cs44x_gd h0 _ _)) (.leaf (n := 80) (m := 80) (L := []) ((ex44_five a b c d e t s r en).trans hg))
      exact this
    | [], h4, _, _ => exact absurd (by simp) h4
    | [_], h4, _, _ => exact absurd (by simp) h4
    | [_, _], h4, _, _ => exact absurd (by simp) h4
    | [_, _, _], h4, _, _ => exact absurd (by simp) h4
    | [_, _, _, _], h4, _, _ => exact absurd (by simp) h4
    | _ :: _ :: _ :: _ :: _ :: _ :: _, _, hl, _ => simp at hl

/-! ## The mirrors stand in the order of their walls -/

theorem mirs_inv (l : List (Tup wallK)) (s r : Tup v3K) : ∀ (n i : Nat) (acc : List (Tup mirK)), acc.Pairwise (fun a b => mW a < mW b) → (∀ m ∈ acc, 0 ≤ mW m ∧ mW m < i) →
    ((List.range' i n).foldl (fun b j => addM l s r j b) acc).Pairwise (fun a b => mW a < mW b) ∧ ∀ m ∈ (List.range' i n).foldl (fun b j => addM l s r j b) acc, 0 ≤ mW m ∧ mW m < ((i + n : Nat) : Int)
  | 0, i, acc, hp, hb => ⟨hp, fun m hm => hb m hm⟩
  | n + 1, i, acc, hp, hb => by
    rw [List.range'_succ, List.foldl_cons]
    have key : (addM l s r i acc).Pairwise (fun a b => mW a < mW b) ∧ ∀ m ∈ addM l s r i acc, 0 ≤ mW m ∧ mW m < ((i + 1 : Nat) : Int) := by
      unfold addM
      cases hasM l s r i with
      | false => exact ⟨hp, fun m hm => by have := hb m hm; omega⟩
      | true =>
        have hk : mW (mirW (nth l i) i s r) = (i : Int) := rfl
        refine ⟨List.pairwise_append.2 ⟨hp, List.pairwise_singleton .., fun a ha b hb' => ?_⟩, fun m hm => ?_⟩
        · rw [List.mem_singleton.1 hb', hk]
          exact (hb a ha).2
        · rcases List.mem_append.1 hm with hm | hm
          · have := hb m hm; omega
          · rw [List.mem_singleton.1 hm, hk]; omega
    have := mirs_inv l s r n (i + 1) _ key.1 key.2
    rw [show i + 1 + n = i + (n + 1) by omega] at this
    exact this

theorem mirs_ok (l : List (Tup wallK)) (s r : Tup v3K) : (mirsL l s r).Pairwise (fun a b => mW a < mW b) ∧ ∀ m ∈ mirsL l s r, 0 ≤ mW m ∧ mW m < (l.length : Int) := by
  have := mirs_inv l s r l.length 0 [] List.Pairwise.nil (fun m hm => by cases hm)
  rw [Nat.zero_add] at this
  exact this

theorem srtT_ok {k : Ro} : ∀ (ms : List (Tup mirK)), ms.Pairwise (fun a b => mW a < mW b) → srtT ms k = k
  | [], _ => rfl
  | [_], _ => rfl
  | a :: b :: ms, h => by
    unfold srtT
    rw [List.pairwise_cons] at h
    rw [decide_eq_true (h.1 b (by simp))]
    exact srtT_ok (b :: ms) h.2

theorem mirs_len (l : List (Tup wallK)) (s r : Tup v3K) : (mirsL l s r).length ≤ l.length := by
  have key : ∀ (js : List Nat) (acc : List (Tup mirK)), (js.foldl (fun b j => addM l s r j b) acc).length ≤ acc.length + js.length := fun js => by
    induction js with
    | nil => intro acc; simp
    | cons j js ih =>
      intro acc
      rw [List.foldl_cons]
      have := ih (addM l s r j acc)
      have := addM_len l s r j acc
      rw [List.length_cons]
      omega
  have := key (List.range' 0 l.length) []
  simp only [List.length_nil, List.length_range', Nat.zero_add] at this
  exact this

noncomputable def hear0 (l : List (Tup wallK)) (t : List (Tup stpK)) (s r : Tup v3K) (en : Int) : Tup iv2 := hear l t s r en (mirsL l s r)
noncomputable def hrE (l : List (Tup wallK)) (t : List (Tup stpK)) (s r : Tup v3K) (en : Int) : Int := bif eH l t s r en != 0 then eH l t s r en else bif bigB (hear0 l t s r en) then 4 else 0
noncomputable def hrD (l : List (Tup wallK)) (t : List (Tup stpK)) (s r : Tup v3K) (en : Int) : D := .tup [pair (or2e (hrE l t s r en) (hear0 l t s r en)), I (hrE l t s r en)]

theorem hrD_e {l : List (Tup wallK)} {t : List (Tup stpK)} {s r : Tup v3K} {en : Int} (h : (eH l t s r en != 0) = true) : hrD l t s r en = .tup [pair z2, I (eH l t s r en)] := by
  unfold hrD
  have e : hrE l t s r en = eH l t s r en := by unfold hrE; rw [h]; rfl
  rw [e]
  unfold or2e orI
  rw [h]; rfl

theorem fin44_eq {l : List (Tup wallK)} {t : List (Tup stpK)} {s r : Tup v3K} {en : Int} (h : (eH l t s r en != 0) = false) (o : Obs) : fin44 o (hear0 l t s r en) = some (o, hrD l t s r en) := by
  unfold fin44 hrD
  have e : hrE l t s r en = bif bigB (hear0 l t s r en) then 4 else 0 := by unfold hrE; rw [h]; rfl
  rw [e]
  cases bigB (hear0 l t s r en) <;> rfl

theorem fn44 (h0 : Lib0 w0) (l : List (Tup wallK)) (t : List (Tup stpK)) (s r : Tup v3K) (en : Int) (hl : eH l t s r en = 0 → l.length ≤ 5) : FnD (cfg w0) 44 [.vec wallK l, .vec stpK t, agP s r, I en] (hrD l t s r en) := by
  cases hc : (eH l t s r en != 0) with
  | true =>
    refine fnD_t (cfg_ok w0) h0 (cs44_gd h0) (fd := fnOf Tryz.f44) rfl (o := []) ((body44_0 l t s r en).trans ?_) trivial
    unfold T44
    rw [hc, hrD_e hc]; rfl
  | false =>
    have hz : eH l t s r en = 0 := by simpa using hc
    have hv : vH l t s r en = true := by unfold vH; rw [hz]; rfl
    have O := vH_ok hv
    refine fnD_t (cfg_ok w0) h0 (cs44_gd h0) (fd := fnOf Tryz.f44) rfl (o := ob44 l t s r en (mirsL l s r)) ((body44_any l t s r en (mirsL l s r) (Nat.le_trans (mirs_len l s r) (hl hz))).trans ?_) ⟨ld44_ok h0 O (hl hz), trivial⟩
    unfold T44
    rw [hc, srtT_ok _ (mirs_ok l s r).1, hv]
    exact fin44_eq hc _

noncomputable def g44 (l : List (Tup wallK)) (t : List (Tup stpK)) (s r : Tup v3K) (en : Int) : Bool := eH l t s r en != 0 || Nat.ble l.length 5
noncomputable def c44 : Ct := ct 44 [.v wallK, .v stpK, .b p6K, .c ik] fun a => .br (g44 a.1 a.2.1 (pa1 a.2.2.1) (pa2 a.2.2.1) a.2.2.2.1) (.leaf (hrD a.1 a.2.1 (pa1 a.2.2.1) (pa2 a.2.2.1) a.2.2.2.1)) .bad
theorem gd44 (h0 : Lib0 w0) : Gd (cfg w0) c44 := gd_sig fun a d hd => by
  obtain ⟨hg, hd⟩ := br_run hd
  cases hd
  refine fn44 h0 a.1 a.2.1 (pa1 a.2.2.1) (pa2 a.2.2.1) a.2.2.2.1 fun h => ?_
  unfold g44 at hg
  rw [h] at hg
  exact Nat.le_of_ble_eq_true (by simpa using hg)

/-! ## The reference's Heard -/

noncomputable def cs49 : List Ct := [c48, c58, tmC 127]
theorem cs49_gd (h0 : Lib0 w0) : Gds (cfg w0) cs49 := ⟨gd48 h0, gd58 h0, gd127 h0, trivial⟩
noncomputable def rel49 : List (Nat × Cv) := [(0, .id), (4, .id), (13, .ov mirK), (14, .id), (12, .id), (10, .id), (11, .id)]
noncomputable def st49 (l : List (Tup wallK)) (en : Int) (ms : List (Tup mirK)) (a : Int × Tup iv2) : List D := [.vec wallK l, I en, .ovec mirK ms, I a.1, .obox [I a.2.1, I a.2.2.1], .obox [I 0, I 0], I 0]
noncomputable def inM (ms : List (Tup mirK)) (j : Int) : Bool := Nat.beq 11 11 && (decide (0 ≤ j) && decide (j < ms.length))
noncomputable def inW (l : List (Tup wallK)) (m : Tup mirK) : Bool := Nat.beq 7 7 && (decide (0 ≤ mW m) && decide (mW m < l.length))

theorem round49 (l : List (Tup wallK)) (en : Int) (ms : List (Tup mirK)) (j : Int) (o : Tup iv2) : rndD ((cfg w0).at cs49) 40 [] 40 (fnOf Tryz.f49).ntmps rel49 (lpB 0 (fnOf Tryz.f49).body) (st49 l en ms (j, o)) =
    bif decide (j < ms.length) then
      bif inM ms j then bif inW l (nth ms j.toNat) then bif enB en (ecW l (nth ms j.toNat)) then some ([], .normal, st49 l en ms (W (j + 1), addE l en o (nth ms j.toNat))) else none else none else none
    else some ([], .exit 0, st49 l en ms (j, o)) := by kernel_rfl
theorem body49 (l : List (Tup wallK)) (t : List (Tup stpK)) (s r : Tup v3K) (en : Int) (p : Int × Tup iv2) : bodyT ((cfg w0).at cs49) 40 [ldP 0 (fnOf Tryz.f49).ntmps rel49 .normal (st49 l en (mirsL l s r) p)] 40 (fnOf Tryz.f49) [.vec wallK l, .vec stpK t, vec3 s, vec3 r, I en] =
    gO (vH l t s r en) (gO (v58 l s r) (fin44 [(ldP 0 (fnOf Tryz.f49).ntmps rel49 .normal (st49 l en (mirsL l s r) p), .loop (lpB 0 (fnOf Tryz.f49).body), st49 l en (mirsL l s r) (0, scr l t s r en))] p.2)) := by kernel_rfl

theorem fn49 (h0 : Lib0 w0) (l : List (Tup wallK)) (t : List (Tup stpK)) (s r : Tup v3K) (en : Int) (hv : vH l t s r en = true) : FnD (cfg w0) 49 [.vec wallK l, .vec stpK t, vec3 s, vec3 r, I en] (hrD l t s r en) := by
  have O := vH_ok hv
  have hll := O.ll
  have hml := mirs_len l s r
  have hin := (mirs_ok l s r).2
  have hz : eH l t s r en = 0 := by simpa [vH] using hv
  refine fn_ls h0 (cs49_gd h0) (fd := fnOf Tryz.f49) rfl rel49 (mirsL l s r) (by omega) (st49 l en (mirsL l s r)) (fun m a => (X.normal, addE l en a m)) (fun _ _ => True) (a0 := scr l t s r en) trivial
    (fun j a hj _ => .leaf (by
      have hm : nth (mirsL l s r) j ∈ mirsL l s r := by simp [nth, List.getD_eq_getElem?_getD, hj]
      have hb := hin _ hm
      have h1 : inW l (nth (mirsL l s r) j) = true := by
        unfold inW
        rw [decide_eq_true hb.1, decide_eq_true hb.2]; rfl
      have h2 : enB en (ecW l (nth (mirsL l s r) j)) = true := enB_at O (by omega)
      rw [round49, show inM (mirsL l s r) j = true from inb 11 hj, lt_t hj, Int.toNat_natCast, h1, h2]
      rfl)) (fun _ _ _ _ _ _ => trivial)
    (fun a _ => .leaf (by rw [round49, ge_f]; rfl)) fun x p hx => ?_
  rw [lsRun_fold (h := fun m a => addE l en a m) 0 (mirsL l s r) 0 (scr l t s r en) (fun _ _ _ => rfl)] at hx
  cases hx
  refine (body49 l t s r en _).trans ?_
  have h58 : v58 l s r = true := by unfold v58; rw [O.cl, O.hs, O.hr]; rfl
  rw [hv, h58]
  exact fin44_eq (by rw [hz]; rfl) _
noncomputable def c49 : Ct := ct 49 [.v wallK, .v stpK, .b v3K, .b v3K, .c ik] fun a => .br (vH a.1 a.2.1 a.2.2.1 a.2.2.2.1 a.2.2.2.2.1) (.leaf (hrD a.1 a.2.1 a.2.2.1 a.2.2.2.1 a.2.2.2.2.1)) .bad
theorem gd49 (h0 : Lib0 w0) : Gd (cfg w0) c49 := gd_sig fun a d hd => by
  obtain ⟨hg, hd⟩ := br_run hd
  cases hd
  exact fn49 h0 a.1 a.2.1 a.2.2.1 a.2.2.2.1 a.2.2.2.2.1 hg
end
end Go.Proofs.YtmlglimahbjgbaaGreatDoor

namespace Go.Town
open Go

/-! # Paths there and back, in plain Lean -/

def bsI (sx sy tx ty px py : Int) : Int := (tx - sx) * (py - sy) - (ty - sy) * (px - sx)

theorem bs_back (sx sy tx ty px py : Int) : bsI tx ty sx sy px py = -bsI sx sy tx ty px py := by
  unfold bsI; grind

theorem ImC.bsA {ax ay bx by' sx sy rx ry ix iy jx jy : Int} (h : ImC ax ay bx by' sx sy ix iy) (g : ImC ax ay bx by' rx ry jx jy) : bsI jx jy sx sy ax ay = bsI ix iy rx ry ax ay := by
  unfold bsI
  rcases h with ⟨h0, _, rfl, rfl⟩ | ⟨h0, _, rfl, rfl⟩ | ⟨h0, _, rfl, rfl⟩ | ⟨h0, _, rfl, rfl⟩ <;> rcases g with ⟨g0, _, rfl, rfl⟩ | ⟨g0, _, rfl, rfl⟩ | ⟨g0, _, rfl, rfl⟩ | ⟨g0, _, rfl, rfl⟩ <;> first | (exfalso; omega) | grind

theorem ImC.bsB {ax ay bx by' sx sy rx ry ix iy jx jy : Int} (h : ImC ax ay bx by' sx sy ix iy) (g : ImC ax ay bx by' rx ry jx jy) : bsI jx jy sx sy bx by' = bsI ix iy rx ry bx by' := by
  unfold bsI
  rcases h with ⟨h0, _, rfl, rfl⟩ | ⟨h0, _, rfl, rfl⟩ | ⟨h0, _, rfl, rfl⟩ | ⟨h0, _, rfl, rfl⟩ <;> rcases g with ⟨g0, _, rfl, rfl⟩ | ⟨g0, _, rfl, rfl⟩ | ⟨g0, _, rfl, rfl⟩ | ⟨g0, _, rfl, rfl⟩ <;> first | (exfalso; omega) | skip
  · subst h0; grind
  · subst h0; grind
  · have : bx = ax + (by' - ay) := by omega
    subst this; grind
  · have : bx = ax - (by' - ay) := by omega
    subst this; grind

/-- The square is the same. -/
theorem ImC.sq {ax ay bx by' sx sy rx ry ix iy jx jy : Int} (h : ImC ax ay bx by' sx sy ix iy) (g : ImC ax ay bx by' rx ry jx jy) : (jx - sx) * (jx - sx) + (jy - sy) * (jy - sy) = (ix - rx) * (ix - rx) + (iy - ry) * (iy - ry) := by
  rcases h with ⟨h0, _, rfl, rfl⟩ | ⟨h0, _, rfl, rfl⟩ | ⟨h0, _, rfl, rfl⟩ | ⟨h0, _, rfl, rfl⟩ <;> rcases g with ⟨g0, _, rfl, rfl⟩ | ⟨g0, _, rfl, rfl⟩ | ⟨g0, _, rfl, rfl⟩ | ⟨g0, _, rfl, rfl⟩ <;> first | (exfalso; omega) | grind

/-- The place is the same. -/
theorem ImC.place {ax ay bx by' sx sy rx ry ix iy jx jy p q : Int} (h : ImC ax ay bx by' sx sy ix iy) (g : ImC ax ay bx by' rx ry jx jy)
    (hp : (p = turnI ax ay bx by' sx sy ∧ q = turnI ax ay bx by' rx ry) ∨ (p = -turnI ax ay bx by' sx sy ∧ q = -turnI ax ay bx by' rx ry)) : p * jx + q * sx = q * ix + p * rx ∧ p * jy + q * sy = q * iy + p * ry := by
  unfold turnI at hp
  rcases h with ⟨h0, _, rfl, rfl⟩ | ⟨h0, _, rfl, rfl⟩ | ⟨h0, _, rfl, rfl⟩ | ⟨h0, _, rfl, rfl⟩ <;> rcases g with ⟨g0, _, rfl, rfl⟩ | ⟨g0, _, rfl, rfl⟩ | ⟨g0, _, rfl, rfl⟩ | ⟨g0, _, rfl, rfl⟩ <;> first | (exfalso; omega) | skip
  · subst h0
    rcases hp with ⟨rfl, rfl⟩ | ⟨rfl, rfl⟩ <;> constructor <;> grind
  · subst h0
    rcases hp with ⟨rfl, rfl⟩ | ⟨rfl, rfl⟩ <;> constructor <;> grind
  · have : bx = ax + (by' - ay) := by omega
    subst this
    rcases hp with ⟨rfl, rfl⟩ | ⟨rfl, rfl⟩ <;> constructor <;> grind
  · have : bx = ax - (by' - ay) := by omega
    subst this
    rcases hp with ⟨rfl, rfl⟩ | ⟨rfl, rfl⟩ <;> constructor <;> grind
end Go.Town

namespace Go.Town
open Go

/-! # Sums in any order -/

theorem W_form (n : Int) : W n = (n + 9223372036854775808) % 18446744073709551616 - 9223372036854775808 := by
  show (if (true && decide (n % 18446744073709551616 ≥ 9223372036854775808)) = true then n % 18446744073709551616 - 18446744073709551616 else n % 18446744073709551616) = _
  simp only [Bool.true_and, decide_eq_true_eq]
  split <;> omega

theorem W_comm (b x y : Int) : W (W (b + x) + y) = W (W (b + y) + x) := by
  simp only [W_form]
  omega

end Go.Town

namespace Go.Proofs.YtmlglimahbjgbaaGreatDoor
open Go Go.Am Go.Town
set_option maxRecDepth 100000
variable {w0 : World}

/-! # There and back: cuts, excess, depth -/

theorem beside_eq {sx sy tx ty px py : Int} (h1 : -3000 ≤ sx ∧ sx ≤ 3000) (h2 : -3000 ≤ sy ∧ sy ≤ 3000) (h3 : -3000 ≤ tx ∧ tx ≤ 3000) (h4 : -3000 ≤ ty ∧ ty ≤ 3000) (h5 : -1000 ≤ px ∧ px ≤ 1000) (h6 : -1000 ≤ py ∧ py ≤ 1000) :
    besideZ sx sy tx ty 1 px py = bsI sx sy tx ty px py := by
  unfold besideZ bsI
  rw [Int.mul_one, Int.mul_one, rngW (n := sx) (by omega), rngW (n := sy) (by omega), rngW (n := tx - sx) (by omega), rngW (n := py - sy) (by omega), rngW (n := ty - sy) (by omega), rngW (n := px - sx) (by omega)]
  have m1 := mul_bound (a := tx - sx) (b := py - sy) (A := 6000) (B := 4000) (by omega) (by omega) (by omega) (by omega)
  have m2 := mul_bound (a := ty - sy) (b := px - sx) (A := 6000) (B := 4000) (by omega) (by omega) (by omega) (by omega)
  rw [rngW (n := (tx - sx) * (py - sy)) (by omega), rngW (n := (ty - sy) * (px - sx)) (by omega), rngW (by omega)]

theorem meets_sym (P Q a b : Int) : meetsZ P Q a b = meetsZ Q P (-a) (-b) := by
  have e1 : decide (0 < -a) = decide (a < 0) := decide_eq_decide.2 (by omega)
  have e2 : decide (0 < -b) = decide (b < 0) := decide_eq_decide.2 (by omega)
  have e3 : decide (-a < 0) = decide (0 < a) := decide_eq_decide.2 (by omega)
  have e4 : decide (-b < 0) = decide (0 < b) := decide_eq_decide.2 (by omega)
  unfold meetsZ
  rw [e1, e2, e3, e4]
  cases decide (0 < P) <;> cases decide (P < 0) <;> cases decide (0 < Q) <;> cases decide (Q < 0) <;> cases decide (0 < a) <;> cases decide (0 < b) <;> cases decide (a < 0) <;> cases decide (b < 0) <;> rfl

section
variable {ax ay bx by' h sx sy sz rx ry rz : Int}

theorem meet_sym (S : Small ax ay bx by' h sx sy sz rx ry rz) : meetP ax ay bx by' rx ry sx sy = meetP ax ay bx by' sx sy rx ry := by
  have a1 := S.a1; have a2 := S.a2; have b1 := S.b1; have b2 := S.b2; have s1 := S.s1; have s2 := S.s2; have r1 := S.r1; have r2 := S.r2
  unfold meetP
  rw [beside_eq (sx := sx) (sy := sy) (tx := rx) (ty := ry) (by omega) (by omega) (by omega) (by omega) a1 a2, beside_eq (sx := sx) (sy := sy) (tx := rx) (ty := ry) (by omega) (by omega) (by omega) (by omega) b1 b2,
    beside_eq (sx := rx) (sy := ry) (tx := sx) (ty := sy) (by omega) (by omega) (by omega) (by omega) a1 a2, beside_eq (sx := rx) (sy := ry) (tx := sx) (ty := sy) (by omega) (by omega) (by omega) (by omega) b1 b2,
    bs_back sx sy rx ry ax ay, bs_back sx sy rx ry bx by']
  exact (meets_sym _ _ _ _).symm

theorem den_sym (S : Small ax ay bx by' h sx sy sz rx ry rz) : denP ax ay bx by' rx ry sx sy = denP ax ay bx by' sx sy rx ry := by
  obtain ⟨p1, p2, _⟩ := side_bound S.a1 S.a2 S.b1 S.b2 S.s1 S.s2
  obtain ⟨q1, q2, _⟩ := side_bound S.a1 S.a2 S.b1 S.b2 S.r1 S.r2
  unfold denP
  rw [(numden (h := h) (sz := sz) (tz := rz) ⟨p1, p2⟩ ⟨q1, q2⟩ S.hh S.s3 S.r3).1, (numden (h := h) (sz := rz) (tz := sz) ⟨q1, q2⟩ ⟨p1, p2⟩ S.hh S.r3 S.s3).1]
  omega

theorem num_sym (S : Small ax ay bx by' h sx sy sz rx ry rz) : numP ax ay bx by' h rx ry rz sx sy sz = numP ax ay bx by' h sx sy sz rx ry rz := by
  obtain ⟨p1, p2, _⟩ := side_bound S.a1 S.a2 S.b1 S.b2 S.s1 S.s2
  obtain ⟨q1, q2, _⟩ := side_bound S.a1 S.a2 S.b1 S.b2 S.r1 S.r2
  unfold numP
  rw [(numden (h := h) (sz := sz) (tz := rz) ⟨p1, p2⟩ ⟨q1, q2⟩ S.hh S.s3 S.r3).2.1, (numden (h := h) (sz := rz) (tz := sz) ⟨q1, q2⟩ ⟨p1, p2⟩ S.hh S.r3 S.s3).2.1, Int.add_comm (absZ (sideZ ax ay bx by' rx ry 1))]
  omega

theorem cut_sym (S : Small ax ay bx by' h sx sy sz rx ry rz) : cutP ax ay bx by' h rx ry rz sx sy sz = cutP ax ay bx by' h sx sy sz rx ry rz := by
  unfold cutP
  rw [meet_sym S, num_sym S]

theorem sqZ_sym {a b c d e f : Int} (h1 : -1000 ≤ a ∧ a ≤ 1000) (h2 : -1000 ≤ b ∧ b ≤ 1000) (h3 : 0 ≤ c ∧ c ≤ 1000) (h4 : -1000 ≤ d ∧ d ≤ 1000) (h5 : -1000 ≤ e ∧ e ≤ 1000) (h6 : 0 ≤ f ∧ f ≤ 1000) : sqZ d e f a b c = sqZ a b c d e f := by
  unfold sqZ
  rw [W_in (n := a - d) (by omega) (by omega), W_in (n := b - e) (by omega) (by omega), W_in (n := c - f) (by omega) (by omega), W_in (n := d - a) (by omega) (by omega), W_in (n := e - b) (by omega) (by omega), W_in (n := f - c) (by omega) (by omega),
    show (d - a) * (d - a) = (a - d) * (a - d) by grind, show (e - b) * (e - b) = (b - e) * (b - e) by grind, show (f - c) * (f - c) = (c - f) * (c - f) by grind]

theorem minI_comm (a b : Int) : minI a b = minI b a := by unfold minI; split <;> split <;> omega
theorem detL_comm (A B C : Int) : detL A B C = detL B A C := by unfold detL; rw [Int.add_comm (lowZ A)]

theorem corner_sym {x y : Int} (x1 : -1000 ≤ x ∧ x ≤ 1000) (y1 : -1000 ≤ y ∧ y ≤ 1000) (S : Small ax ay bx by' h sx sy sz rx ry rz) : cornerL x y rx ry rz sx sy sz = cornerL x y sx sy sz rx ry rz := by
  have s3 := S.s3; have r3 := S.r3
  have hm : 0 ≤ minI sz rz ∧ minI sz rz ≤ 1000 := by unfold minI; split <;> omega
  unfold cornerL
  rw [minI_comm rz sz, sqZ_sym x1 y1 hm S.r1 S.r2 S.r3, sqZ_sym S.s1 S.s2 S.s3 x1 y1 hm, sqZ_sym S.s1 S.s2 S.s3 S.r1 S.r2 S.r3]
  exact detL_comm _ _ _

theorem dep_sym (S : Small ax ay bx by' h sx sy sz rx ry rz) : depP ax ay bx by' h rx ry rz sx sy sz = depP ax ay bx by' h sx sy sz rx ry rz := by
  unfold depP
  rw [cut_sym S, num_sym S, den_sym S, corner_sym S.a1 S.a2 S, corner_sym S.b1 S.b2 S]
end
end Go.Proofs.YtmlglimahbjgbaaGreatDoor

namespace Go.Proofs.YtmlglimahbjgbaaGreatDoor
open Go Go.Am Go.Town
set_option maxRecDepth 100000
variable {w0 : World}

/-! # There and back: mirrors -/

theorem bsA_eq {w : Tup wallK} {i r : Tup v3K} (S : SmallW w) (h1 : -3000 ≤ pX i ∧ pX i ≤ 3000) (h2 : -3000 ≤ pY i ∧ pY i ≤ 3000) (R : SmallP r) : bsA i r w = bsI (pX i) (pY i) (pX r) (pY r) (aX w) (aY w) := by
  have r1 := R.x; have r2 := R.y
  exact beside_eq h1 h2 (by omega) (by omega) S.a1 S.a2
theorem bsB_eq {w : Tup wallK} {i r : Tup v3K} (S : SmallW w) (h1 : -3000 ≤ pX i ∧ pX i ≤ 3000) (h2 : -3000 ≤ pY i ∧ pY i ≤ 3000) (R : SmallP r) : bsB i r w = bsI (pX i) (pY i) (pX r) (pY r) (bX w) (bY w) := by
  have r1 := R.x; have r2 := R.y
  exact beside_eq h1 h2 (by omega) (by omega) S.b1 S.b2

structure SymM (w : Tup wallK) (s r : Tup v3K) : Prop where
  pre : preM w r s = preM w s r
  pl : preM w s r = true → plW w r s = plW w s r
  sq : sqW (imW w r) s = sqW (imW w s) r

theorem mir_sym {w : Tup wallK} {s r : Tup v3K} (hw : wChk w = 0) (hs : pChk s = 0) (hr : pChk r = 0) (he : evW w = true) : SymM w s r := by
  have F := mir_f hw hs hr he
  have G := mir_f hw hr hs he
  have S := w_small hw
  have P := p_small hs
  have R := p_small hr
  have eA : bsA (imW w r) s w = bsA (imW w s) r w := by rw [bsA_eq S F.ix F.iy R, bsA_eq S G.ix G.iy P, F.im.bsA G.im]
  have eB : bsB (imW w r) s w = bsB (imW w s) r w := by rw [bsB_eq S F.ix F.iy R, bsB_eq S G.ix G.iy P, F.im.bsB G.im]
  have eZ : lZ (plW w r s) = lZ (plW w s r) := by rw [F.Z, G.Z]; omega
  have eD : lD (plW w r s) = lD (plW w s r) := by rw [F.D, G.D]; omega
  refine ⟨?_, fun hp => ?_, ?_⟩
  · unfold preM
    rw [eA, eB, eZ, eD]
    generalize (sdW w s == 0) = b1
    generalize (sdW w r == 0) = b2
    generalize decide (sdW w s > 0) = b3
    generalize decide (sdW w r > 0) = b4
    generalize (!((decide (bsA (imW w s) r w > 0) && decide (bsB (imW w s) r w > 0)) || (decide (bsA (imW w s) r w < 0) && decide (bsB (imW w s) r w < 0))) && !decide (lZ (plW w s r) ≥ W (hW w * lD (plW w s r)))) = b5
    cases b1 <;> cases b2 <;> cases b3 <;> cases b4 <;> cases b5 <;> rfl
  · unfold preM at hp
    simp only [Bool.and_eq_true, Bool.not_eq_true'] at hp
    obtain ⟨h1, h2, h3, _, _⟩ := hp
    have h1 : sdW w s ≠ 0 := by simpa using h1
    have h2 : sdW w r ≠ 0 := by simpa using h2
    have hon := same_sign h1 h2 h3
    rw [← F.pn, ← F.qn] at hon
    have e1 : sdW w s = turnI (aX w) (aY w) (bX w) (bY w) (pX s) (pY s) := F.ts
    have e2 : sdW w r = turnI (aX w) (aY w) (bX w) (bY w) (pX r) (pY r) := F.tr
    obtain ⟨x1, y1⟩ := F.im.place G.im (hon.imp (fun h => ⟨h.1.trans e1, h.2.trans e2⟩) (fun h => ⟨h.1.trans (by rw [e1]), h.2.trans (by rw [e2])⟩))
    have eX : lX (plW w r s) = lX (plW w s r) := by rw [F.X, G.X]; exact x1
    have eY : lY (plW w r s) = lY (plW w s r) := by rw [F.Y, G.Y]; exact y1
    show t4 (lX (plW w r s)) (lY (plW w r s)) (lZ (plW w r s)) (lD (plW w r s)) = t4 (lX (plW w s r)) (lY (plW w s r)) (lZ (plW w s r)) (lD (plW w s r))
    rw [eX, eY, eZ, eD]
  · have k1 : sqW (imW w r) s = (pX (imW w r) - pX s) * (pX (imW w r) - pX s) + (pY (imW w r) - pY s) * (pY (imW w r) - pY s) + (pZ (imW w r) - pZ s) * (pZ (imW w r) - pZ s) := sq_img G.ix G.iy (by rw [G.iz]; exact R.z) P.x P.y P.z
    have k2 : sqW (imW w s) r = (pX (imW w s) - pX r) * (pX (imW w s) - pX r) + (pY (imW w s) - pY r) * (pY (imW w s) - pY r) + (pZ (imW w s) - pZ r) * (pZ (imW w s) - pZ r) := sq_img F.ix F.iy (by rw [F.iz]; exact P.z) R.x R.y R.z
    have k3 := F.im.sq G.im
    rw [k1, k2, F.iz, G.iz]
    have k4 : (pZ r - pZ s) * (pZ r - pZ s) = (pZ s - pZ r) * (pZ s - pZ r) := by grind
    omega

theorem way_sym (l : List (Tup wallK)) (k : Int) (s r : Tup v3K) (p : Tup plK) : wayB l k r s p = wayB l k s r p := by
  funext j
  unfold wayB
  rw [Bool.or_comm]

theorem any_sym (l : List (Tup wallK)) (k : Int) (s r : Tup v3K) (p : Tup plK) : anyW l k r s p = anyW l k s r p := by
  unfold anyW
  rw [way_sym]

theorem has_sym {l : List (Tup wallK)} {s r : Tup v3K} (hl : chkAllW l = 0) (hs : pChk s = 0) (hr : pChk r = 0) {j : Nat} (hj : j < l.length) : hasM l r s j = hasM l s r j := by
  have hw := (chkAll_all hl).2 _ (nth_mem hj)
  unfold hasM
  cases he : evW (nth l j) with
  | false => rfl
  | true =>
    have Y := mir_sym hw hs hr he
    unfold refB
    rw [Int.toNat_natCast, Y.pre]
    cases hp : preM (nth l j) s r with
    | false => rfl
    | true => rw [Y.pl hp, any_sym]

/-! ## The mirrors by their indices -/

noncomputable def idxM (l : List (Tup wallK)) (s r : Tup v3K) : List Nat := (List.range' 0 l.length).filter (hasM l s r)

theorem fold_idx (l : List (Tup wallK)) (s r : Tup v3K) : ∀ (js : List Nat) (acc : List (Tup mirK)), js.foldl (fun b j => addM l s r j b) acc = acc ++ (js.filter (hasM l s r)).map (fun j => mirW (nth l j) j s r)
  | [], acc => by simp
  | j :: js, acc => by
    rw [List.foldl_cons, fold_idx l s r js]
    unfold addM
    cases hb : hasM l s r j with
    | false => simp [hb]
    | true => simp [hb]

theorem mirs_idx (l : List (Tup wallK)) (s r : Tup v3K) : mirsL l s r = (idxM l s r).map (fun j => mirW (nth l j) j s r) := by
  unfold mirsL idxM
  rw [fold_idx]; rfl

theorem idx_sym {l : List (Tup wallK)} {s r : Tup v3K} (hl : chkAllW l = 0) (hs : pChk s = 0) (hr : pChk r = 0) : idxM l r s = idxM l s r := by
  unfold idxM
  refine List.filter_congr fun j hj => has_sym hl hs hr ?_
  simpa using hj

theorem idx_mem {l : List (Tup wallK)} {s r : Tup v3K} {j : Nat} (h : j ∈ idxM l s r) : j < l.length ∧ hasM l s r j = true := by
  unfold idxM at h
  rw [List.mem_filter] at h
  exact ⟨by simpa using h.1, h.2⟩

theorem nth_map {ks : List Kd} {α : Type} {f : α → Tup ks} {d : α} (js : List α) {i : Nat} (h : i < js.length) : nth (js.map f) i = f (js.getD i d) := by
  simp [nth, List.getD_eq_getElem?_getD, h]

/-- What is equal of the mirrors there and back. -/
theorem mirW_sym {l : List (Tup wallK)} {s r : Tup v3K} (hl : chkAllW l = 0) (hs : pChk s = 0) (hr : pChk r = 0) {j : Nat} (h : j ∈ idxM l s r) :
    plW (nth l j) r s = plW (nth l j) s r ∧ sqW (imW (nth l j) r) s = sqW (imW (nth l j) s) r := by
  obtain ⟨hj, hm⟩ := idx_mem h
  have hw := (chkAll_all hl).2 _ (nth_mem hj)
  unfold hasM at hm
  rw [Bool.and_eq_true] at hm
  have Y := mir_sym hw hs hr hm.1
  refine ⟨Y.pl ?_, Y.sq⟩
  have := hm.2
  unfold refB at this
  rw [Int.toNat_natCast, Bool.and_eq_true] at this
  exact this.1
end Go.Proofs.YtmlglimahbjgbaaGreatDoor

namespace Go.Proofs.YtmlglimahbjgbaaGreatDoor
open Go Go.Am Go.Town
set_option maxRecDepth 100000
variable {w0 : World}

/-! # What is heard: there and back, and in the opposite order -/

noncomputable def adJ (en : Int) (o : Tup iv2) (e : Int) : Tup iv2 := pr2 (IntKind.i64.wrap (xL o + tmL en e)) (IntKind.i64.wrap (xH o + tmH en e))
noncomputable def esL (l : List (Tup wallK)) (s r : Tup v3K) : List Int := (idxM l s r).map fun j => eW (nth l j)

theorem adJ_comm (en : Int) (o : Tup iv2) (x y : Int) : adJ en (adJ en o x) y = adJ en (adJ en o y) x := by
  show pr2 (W (W (xL o + tmL en x) + tmL en y)) (W (W (xH o + tmH en x) + tmH en y)) = pr2 (W (W (xL o + tmL en y) + tmL en x)) (W (W (xH o + tmH en y) + tmH en x))
  rw [W_comm (xL o), W_comm (xH o)]

theorem fold_es (l : List (Tup wallK)) (s r : Tup v3K) (en : Int) : ∀ (js : List Nat) (o : Tup iv2), (js.map fun j => mirW (nth l j) j s r).foldl (addE l en) o = (js.map fun j => eW (nth l j)).foldl (adJ en) o
  | [], _ => rfl
  | j :: js, o => by
    simp only [List.map_cons, List.foldl_cons]
    rw [fold_es l s r en js]
    congr 1

theorem hear_es (l : List (Tup wallK)) (t : List (Tup stpK)) (s r : Tup v3K) (en : Int) : hear0 l t s r en = (esL l s r).foldl (adJ en) (scr l t s r en) := by
  unfold hear0 hear esL
  rw [mirs_idx, fold_es]

/-! ## There and back -/

theorem wDep_sym {w : Tup wallK} {s r : Tup v3K} (hw : wChk w = 0) (hs : pChk s = 0) (hr : pChk r = 0) : wDep w r s = wDep w s r := by
  have he : wErr w s r = 0 := by
    unfold wErr errZ
    unfold wChk at hw
    unfold pChk at hs hr
    rw [hw, hs, hr]; rfl
  exact dep_sym (errZ_small he)

theorem sumD_sym {l : List (Tup wallK)} {s r : Tup v3K} (hl : ∀ w ∈ l, wChk w = 0) (hs : pChk s = 0) (hr : pChk r = 0) : sumD l r s = sumD l s r := by
  unfold sumD
  congr 1
  refine List.map_congr_left fun w hw => ?_
  unfold depE
  rw [wDep_sym (hl w hw) hs hr]

theorem hear_sym {l : List (Tup wallK)} {t : List (Tup stpK)} {s r : Tup v3K} {en : Int} (O : OkH l t s r en) : hear0 l t r s en = hear0 l t s r en := by
  rw [hear_es, hear_es]
  unfold esL scr
  rw [idx_sym O.cl O.hs O.hr, sumD_sym (chkAll_all O.cl).2 O.hs O.hr]

theorem eH_sym (l : List (Tup wallK)) (t : List (Tup stpK)) (s r : Tup v3K) (en : Int) (h : eH l t s r en = 0) : eH l t r s en = 0 := by
  unfold eH at h ⊢
  rw [firstZ_nil] at h ⊢
  intro e he
  simp only [List.mem_cons, List.not_mem_nil, or_false] at he h
  rcases he with rfl | rfl | rfl | rfl | rfl <;> exact h _ (by simp)

/-! ## In the opposite order -/

theorem nth_rev {ks : List Kd} (l : List (Tup ks)) {j : Nat} (h : j < l.length) : nth l.reverse j = nth l (l.length - 1 - j) := by
  simp [nth, List.getD_eq_getElem?_getD, h, show l.length - 1 - j < l.length by omega]

theorem sumD_rev (l : List (Tup wallK)) (s r : Tup v3K) : sumD l.reverse s r = sumD l s r := by
  unfold sumD sumT
  rw [List.map_reverse]
  exact (List.reverse_perm _).foldl_eq' (fun x _ y _ z => W_comm z (i1 x) (i1 y)) 0

theorem any_rev (l : List (Tup wallK)) (s r : Tup v3K) (p : Tup plK) {j : Nat} (hj : j < l.length) : anyW l.reverse j s r p = anyW l ((l.length - 1 - j : Nat) : Int) s r p := by
  unfold anyW
  rw [Bool.eq_iff_iff, List.any_eq_true, List.any_eq_true, List.length_reverse]
  constructor
  · rintro ⟨i, hi, h⟩
    simp only [List.mem_range'_1] at hi
    refine ⟨l.length - 1 - i, by simp; omega, ?_⟩
    unfold wayB at h ⊢
    rw [nth_rev l (by omega)] at h
    rw [Bool.and_eq_true] at h ⊢
    refine ⟨?_, h.2⟩
    have := h.1
    simp only [Bool.not_eq_true', beq_eq_false_iff_ne, ne_eq] at this ⊢
    omega
  · rintro ⟨i, hi, h⟩
    simp only [List.mem_range'_1] at hi
    refine ⟨l.length - 1 - i, by simp; omega, ?_⟩
    unfold wayB at h ⊢
    rw [nth_rev l (by omega), show l.length - 1 - (l.length - 1 - i) = i by omega]
    rw [Bool.and_eq_true] at h ⊢
    refine ⟨?_, h.2⟩
    have := h.1
    simp only [Bool.not_eq_true', beq_eq_false_iff_ne, ne_eq] at this ⊢
    omega

theorem has_rev (l : List (Tup wallK)) (s r : Tup v3K) {j : Nat} (hj : j < l.length) : hasM l.reverse s r j = hasM l s r (l.length - 1 - j) := by
  unfold hasM refB
  rw [Int.toNat_natCast, Int.toNat_natCast, nth_rev l hj, any_rev l s r _ hj]

theorem range_rev (n : Nat) : (List.range' 0 n).map (fun j => n - 1 - j) = (List.range' 0 n).reverse := by
  refine List.ext_getElem (by simp) fun i h1 h2 => ?_
  simp at h1
  simp [List.getElem_reverse]

theorem es_rev (l : List (Tup wallK)) (s r : Tup v3K) : (esL l.reverse s r).Perm (esL l s r) := by
  have e : esL l.reverse s r = (((List.range' 0 l.length).map (fun j => l.length - 1 - j)).filter (hasM l s r)).map fun j => eW (nth l j) := by
    unfold esL idxM
    rw [List.length_reverse, List.filter_map, List.map_map]
    have h1 : (List.range' 0 l.length).filter (hasM l.reverse s r) = (List.range' 0 l.length).filter (hasM l s r ∘ fun j => l.length - 1 - j) := List.filter_congr fun j hj => has_rev l s r (by simpa using hj)
    rw [h1]
    refine List.map_congr_left fun j hj => ?_
    have hj : j < l.length := by simpa using (List.mem_filter.1 hj).1
    simp only [Function.comp_apply]
    rw [nth_rev l hj]
  rw [e, range_rev]
  unfold esL idxM
  exact ((List.reverse_perm _).filter _).map _

theorem hear_rev (l : List (Tup wallK)) (t : List (Tup stpK)) (s r : Tup v3K) (en : Int) : hear0 l.reverse t s r en = hear0 l t s r en := by
  rw [hear_es, hear_es]
  unfold scr
  rw [sumD_rev]
  exact (es_rev l s r).foldl_eq' (fun x _ y _ z => adJ_comm en z x y) _

theorem beqB_comm (a b : ByteArray) : (a == b) = (b == a) := by
  have e1 := beq_toListBytes a b
  have e2 := beq_toListBytes b a
  first
    | (rw [e1, e2, Bool.eq_iff_iff, beq_iff_eq, beq_iff_eq]; exact eq_comm)
    | (rw [← e1, ← e2, Bool.eq_iff_iff, beq_iff_eq, beq_iff_eq]; exact eq_comm)

theorem chkFrom_iff : ∀ (l : List (Tup wallK)) (seen : List ByteArray), chkFrom seen l = 0 ↔ (∀ w ∈ l, wChk w = 0) ∧ l.Pairwise (fun v w => (nmW w == nmW v) = false) ∧ ∀ w ∈ l, ∀ t ∈ seen, (nmW w == t) = false
  | [], seen => by simp [chkFrom]
  | v :: vs, seen => by
    have key : chkFrom seen (v :: vs) = 0 ↔ (wChk v = 0 ∧ ∀ t ∈ seen, (nmW v == t) = false) ∧ chkFrom (seen ++ [nmW v]) vs = 0 := by
      show (bif chkE seen v != 0 then chkE seen v else chkFrom (seen ++ [nmW v]) vs) = 0 ↔ _
      unfold chkE
      by_cases h1 : wChk v = 0
      · rw [h1]
        cases h2 : seen.any (fun s => nmW v == s) with
        | true =>
          obtain ⟨t, ht, hb⟩ := List.any_eq_true.1 h2
          constructor
          · intro h; cases h
          · rintro ⟨⟨_, h⟩, _⟩
            rw [h t ht] at hb; cases hb
        | false =>
          have h3 : ∀ t ∈ seen, (nmW v == t) = false := fun t ht => by
            cases hb : (nmW v == t) with
            | false => rfl
            | true => rw [List.any_eq_true.2 ⟨t, ht, hb⟩] at h2; cases h2
          exact ⟨fun h => ⟨⟨rfl, h3⟩, h⟩, fun h => h.2⟩
      · have h1' : (wChk v != 0) = true := by simpa using h1
        simp only [h1', cond_true]
        exact ⟨fun h => absurd h h1, fun h => absurd h.1.1 h1⟩
    rw [key, chkFrom_iff vs, List.pairwise_cons]
    constructor
    · rintro ⟨⟨a1, a2⟩, b1, b2, b3⟩
      refine ⟨fun w hw => ?_, ⟨fun w hw => b3 w hw _ (by simp), b2⟩, fun w hw t ht => ?_⟩
      · rcases List.mem_cons.1 hw with rfl | hw
        · exact a1
        · exact b1 w hw
      · rcases List.mem_cons.1 hw with rfl | hw
        · exact a2 t ht
        · exact b3 w hw t (by simp [ht])
    · rintro ⟨c1, ⟨c2, c3⟩, c4⟩
      refine ⟨⟨c1 v (by simp), fun t ht => c4 v (by simp) t ht⟩, fun w hw => c1 w (by simp [hw]), c3, fun w hw t ht => ?_⟩
      rcases List.mem_append.1 ht with ht | ht
      · exact c4 w (by simp [hw]) t ht
      · rw [List.mem_singleton.1 ht]
        exact c2 w hw

theorem chk_rev {l : List (Tup wallK)} (h : chkAllW l = 0) : chkAllW l.reverse = 0 := by
  unfold chkAllW at h ⊢
  rw [List.length_reverse]
  cases hd : decide ((l.length : Int) > 32) with
  | true => rw [hd] at h; cases h
  | false =>
    rw [hd] at h
    simp only [cond_false] at h ⊢
    rw [chkFrom_iff] at h ⊢
    refine ⟨fun w hw => h.1 w (by simpa using hw), ?_, fun w _ t ht => by cases ht⟩
    rw [List.pairwise_reverse]
    exact h.2.1.imp fun {a b} hab => by rw [beqB_comm]; exact hab

theorem eH_rev (l : List (Tup wallK)) (t : List (Tup stpK)) (s r : Tup v3K) (en : Int) (h : eH l t s r en = 0) : eH l.reverse t s r en = 0 := by
  unfold eH at h ⊢
  rw [firstZ_nil] at h ⊢
  have hr := chk_rev (h (chkAllW l) (by simp))
  intro e he
  simp only [List.mem_cons, List.not_mem_nil, or_false] at he h
  rcases he with rfl | rfl | rfl | rfl | rfl
  · exact hr
  all_goals exact h _ (by simp)

/-! ## How much is heard -/

theorem tm_in {en e : Int} (h1 : 0 ≤ en ∧ en ≤ 1000000000000) (h2 : 0 ≤ e ∧ e ≤ 1000) : 0 ≤ tmL en e ∧ tmL en e ≤ tmH en e ∧ tmH en e ≤ en ∧ (tmH en e - 1) * 1000 ≤ en * e := by
  have g1 : 0 ≤ en * e := Int.mul_nonneg h1.1 h2.1
  have g2 : en * e ≤ en * 1000 := Int.mul_le_mul_of_nonneg_left h2.2 h1.1
  unfold tmL tmH ceilZ
  omega

theorem fold_in {en : Int} (h1 : 0 ≤ en ∧ en ≤ 1000000000000) : ∀ (es : List Int) (o : Tup iv2), (∀ e ∈ es, 0 ≤ e ∧ e ≤ 1000) → es.length ≤ 100 → 0 ≤ xL o ∧ xL o ≤ xH o ∧ xH o ≤ 1000000000000000 - es.length * 1000000000000 →
    xL o ≤ xL (es.foldl (adJ en) o) ∧ xH o ≤ xH (es.foldl (adJ en) o) ∧ xH (es.foldl (adJ en) o) ≤ xH o + es.length * en ∧ (xH (es.foldl (adJ en) o) - xH o - es.length) * 1000 ≤ en * es.sum
  | [], o, _, _, h => by simp
  | e :: es, o, he, hl, h => by
    obtain ⟨a1, a2, a3, a4⟩ := tm_in h1 (he e (by simp))
    rw [List.length_cons] at hl h
    rw [List.foldl_cons]
    have hx : xL (adJ en o e) = xL o + tmL en e := W_in (by omega) (by omega)
    have hy : xH (adJ en o e) = xH o + tmH en e := W_in (by omega) (by omega)
    obtain ⟨b1, b2, b3, b4⟩ := fold_in h1 es (adJ en o e) (fun x hx => he x (by simp [hx])) (by omega) (by rw [hx, hy]; omega)
    rw [hx] at b1
    rw [hy] at b2 b3 b4
    rw [List.length_cons, List.sum_cons, Int.mul_add]
    refine ⟨by omega, by omega, ?_, ?_⟩
    · have : ((es.length + 1 : Nat) : Int) * en = es.length * en + en := by grind
      omega
    · omega

theorem es_mem {l : List (Tup wallK)} {s r : Tup v3K} (hl : chkAllW l = 0) : ∀ e ∈ esL l s r, 0 ≤ e ∧ e ≤ 1000 := fun e he => by
  unfold esL at he
  obtain ⟨j, hj, rfl⟩ := List.mem_map.1 he
  exact eW_rng ((chkAll_all hl).2 _ (nth_mem (idx_mem hj).1))

theorem es_len (l : List (Tup wallK)) (s r : Tup v3K) : (esL l s r).length = (mirsL l s r).length := by
  unfold esL
  rw [mirs_idx, List.length_map, List.length_map]

structure Loud (l : List (Tup wallK)) (t : List (Tup stpK)) (s r : Tup v3K) (en : Int) : Prop where
  d0 : 0 ≤ xL (scr l t s r en)
  d1 : xL (scr l t s r en) ≤ xH (scr l t s r en)
  d2 : xH (scr l t s r en) ≤ en
  a1 : xL (scr l t s r en) ≤ xL (hear0 l t s r en)
  a2 : xH (scr l t s r en) ≤ xH (hear0 l t s r en)
  a3 : xH (hear0 l t s r en) ≤ en + (mirsL l s r).length * en
  a4 : (xH (hear0 l t s r en) - en - (mirsL l s r).length) * 1000 ≤ en * (esL l s r).sum

theorem loud_of {l : List (Tup wallK)} {t : List (Tup stpK)} {s r : Tup v3K} {en : Int} (O : OkH l t s r en) (hen : 0 ≤ en ∧ en ≤ 1000000000000) : Loud l t s r en := by
  have hf := (enB_iff.1 (O.fc (sumD l s r))).2
  obtain ⟨b1, b2, b3, _⟩ := tm_in hen hf
  have hll := O.ll
  have hm := mirs_len l s r
  have e0 : xL (scr l t s r en) = tmL en (facL (sumD l s r) 1000 t) := rfl
  have e1 : xH (scr l t s r en) = tmH en (facL (sumD l s r) 1000 t) := rfl
  obtain ⟨c1, c2, c3, c4⟩ := fold_in hen (esL l s r) (scr l t s r en) (es_mem O.cl) (by rw [es_len]; omega) (by rw [es_len, e0, e1]; omega)
  rw [es_len] at c3 c4
  rw [← hear_es] at c1 c2 c3 c4
  refine ⟨by omega, by omega, by omega, c1, c2, by omega, by omega⟩
end Go.Proofs.YtmlglimahbjgbaaGreatDoor

namespace Go.Proofs.YtmlglimahbjgbaaGreatDoor
open Go Go.Am Go.Town
set_option maxRecDepth 100000
variable {w0 : World}
noncomputable section

/-! # TownReturns: the functions of the law -/

/-! ## few -/

noncomputable def le5 (l : List (Tup wallK)) : Bool := decide ((l.length : Int) ≤ 5)
noncomputable def fewB (l : List (Tup wallK)) : Bool := bif le5 l then chkAllW l == 0 else false
noncomputable def cs77 : List Ct := [checkC 33]
theorem fn77 (h0 : Lib0 w0) (l : List (Tup wallK)) : FnD (cfg w0) 77 [.vec wallK l] (Bo (fewB l)) :=
  fnD_k (cfg_ok w0) h0 (cs := cs77) ⟨gd33 h0, trivial⟩ (fd := fnOf Tryz.f77) rfl (n := 40) ((show bodyK ((cfg w0).at cs77) 40 (fnOf Tryz.f77) [.vec wallK l] =
    bif le5 l then some (Bo (chkAllW l == 0)) else some (Bo false) by kernel_rfl).trans (by
      unfold fewB
      cases le5 l <;> rfl))
noncomputable def c77 : Ct := ct 77 [.v wallK] fun a => .leaf (Bo (fewB a.1))
theorem gd77 (h0 : Lib0 w0) : Gd (cfg w0) c77 := gd_sig fun a d hd => by cases hd; exact fn77 h0 a.1

/-! ## turned -/

noncomputable def rel78 : List (Nat × Cv) := [(0, .id), (4, .id), (3, .ov wallK)]
noncomputable def st78 (l : List (Tup wallK)) (a : Int × List (Tup wallK)) : List D := [.vec wallK l, I a.1, .ovec wallK a.2]
theorem round78 (l : List (Tup wallK)) (j : Int) (out : List (Tup wallK)) : rndD ((cfg w0).at []) 40 [] 40 (fnOf Tryz.f78).ntmps rel78 (lpB 0 (fnOf Tryz.f78).body) (st78 l (j, out)) =
    bif decide (j ≥ 0) then
      bif (Nat.beq 7 7 && (decide (0 ≤ j) && decide (j < l.length))) then
        bif (Nat.ble ((out ++ [nth l j.toNat]).length * 64) 1000000000000 && Nat.ble (out ++ [nth l j.toNat]).length 1000000000000) then some ([], .normal, st78 l (W (j - 1), out ++ [nth l j.toNat])) else none
      else none
    else some ([], .exit 0, st78 l (j, out)) := by kernel_rfl
theorem body78 (l : List (Tup wallK)) (p : Int × List (Tup wallK)) : bodyT ((cfg w0).at []) 40 [ldP 0 (fnOf Tryz.f78).ntmps rel78 .normal (st78 l p)] 40 (fnOf Tryz.f78) [.vec wallK l] =
    some ([(ldP 0 (fnOf Tryz.f78).ntmps rel78 .normal (st78 l p), .loop (lpB 0 (fnOf Tryz.f78).body), st78 l (W ((l.length : Int) - 1), []))], .vec wallK p.2) := by kernel_rfl

noncomputable def next78 (l : List (Tup wallK)) (a : Int × List (Tup wallK)) : X × (Int × List (Tup wallK)) := bif decide (a.1 ≥ 0) then (.normal, (W (a.1 - 1), a.2 ++ [nth l a.1.toNat])) else (.exit 0, a)

theorem drop_rev {ks : List Kd} (l : List (Tup ks)) {j : Nat} (h : j < l.length) : (l.drop (j + 1)).reverse ++ [nth l j] = (l.drop j).reverse := by
  have e : l.drop j = nth l j :: l.drop (j + 1) := by
    rw [List.drop_eq_getElem_cons h]
    simp [nth, List.getD_eq_getElem?_getD, h]
  rw [e, List.reverse_cons]

theorem iter78 (l : List (Tup wallK)) (hl : l.length ≤ 1000000) : ∀ j, j ≤ l.length → iterN (next78 l) (j + 1) ((j : Int) - 1, (l.drop j).reverse) = some (.exit 0, (-1, l.reverse))
  | 0, _ => by
    unfold iterN next78
    rfl
  | j + 1, h => by
    unfold iterN
    have hd : decide (((j + 1 : Nat) : Int) - 1 ≥ 0) = true := decide_eq_true (by omega)
    simp only [next78, hd, cond_true]
    rw [show ((j + 1 : Nat) : Int) - 1 = (j : Int) by omega, Int.toNat_natCast, drop_rev l (by omega), W_in (n := (j : Int) - 1) (by omega) (by omega)]
    exact iter78 l hl j (by omega)

theorem fn78 (h0 : Lib0 w0) (l : List (Tup wallK)) (hg : l.length ≤ 100000) : FnD (cfg w0) 78 [.vec wallK l] (.vec wallK l.reverse) := by
  refine fnD_lp (cfg_ok w0) h0 (cs := []) trivial (fd := fnOf Tryz.f78) rfl (body78 l (-1, l.reverse)) ?_
  have e : st78 l (W ((l.length : Int) - 1), []) = st78 l ((l.length : Int) - 1, (l.drop l.length).reverse) := by
    rw [W_in (n := (l.length : Int) - 1) (by omega) (by omega), List.drop_length]; rfl
  rw [e]
  refine ldT_iter (at_ok (cfg_ok w0) []) (at_sp h0 (cs := []) trivial) (id := 0) (x := .exit 0) (b := (-1, l.reverse)) (f := l.length + 1) (st78 l) (next78 l) (fun a => ∃ j : Nat, a.1 = (j : Int) - 1 ∧ j ≤ l.length ∧ a.2.length = l.length - j) ?_ ?_ ?_ (iter78 l (by omega) l.length (by omega))
  · rintro ⟨i, out⟩ ⟨j, hj, hle, ho⟩
    simp only at hj ho
    subst hj
    refine .leaf ((round78 l _ out).trans ?_)
    unfold next78
    cases j with
    | zero => rfl
    | succ j =>
      have hd : decide (((j + 1 : Nat) : Int) - 1 ≥ 0) = true := decide_eq_true (by omega)
      simp only [hd, cond_true]
      rw [show ((j + 1 : Nat) : Int) - 1 = (j : Int) by omega, Int.toNat_natCast, lt_t (show j < l.length by omega), room (by omega) (by omega)]
      rfl
  · rintro ⟨i, out⟩ ⟨i', out'⟩ ⟨j, hj, hle, ho⟩ hn
    simp only at hj ho
    subst hj
    unfold next78 at hn
    cases j with
    | zero => cases hn
    | succ j =>
      have hd : decide (((j + 1 : Nat) : Int) - 1 ≥ 0) = true := decide_eq_true (by omega)
      simp only [hd, cond_true, Prod.mk.injEq, true_and] at hn
      obtain ⟨rfl, rfl⟩ := hn
      refine ⟨j, ?_, by omega, by simp; omega⟩
      rw [W_in (by omega) (by omega)]; omega
  · exact ⟨l.length, rfl, by omega, by simp⟩
noncomputable def c78 : Ct := ct 78 [.v wallK] fun a => .br (Nat.ble (a.1 : List (Tup wallK)).length 100000) (.leaf (.vec wallK (a.1 : List (Tup wallK)).reverse)) .bad
theorem gd78 (h0 : Lib0 w0) : Gd (cfg w0) c78 := gd_sig fun a d hd => by
  obtain ⟨hg, hd⟩ := br_run hd
  cases hd
  exact fn78 h0 a.1 (Nat.le_of_ble_eq_true hg)

/-! ## Cuts, Excess and Depth of what is valid -/

noncomputable def cutW (w : Tup wallK) (s r : Tup v3K) : Bool := cutP w.2.1 w.2.2.1 w.2.2.2.1 w.2.2.2.2.1 w.2.2.2.2.2.1 s.1 s.2.1 s.2.2.1 r.1 r.2.1 r.2.2.1
noncomputable def exN (w : Tup wallK) (s r : Tup v3K) : Int := bif cutW w s r then exNum w.2.1 w.2.2.1 w.2.2.2.1 w.2.2.2.2.1 w.2.2.2.2.2.1 s.1 s.2.1 s.2.2.1 r.1 r.2.1 r.2.2.1 else 0
noncomputable def exDn (w : Tup wallK) (s r : Tup v3K) : Int := bif cutW w s r then exDen w.2.1 w.2.2.1 w.2.2.2.1 w.2.2.2.2.1 w.2.2.2.2.2.1 s.1 s.2.1 s.2.2.1 r.1 r.2.1 r.2.2.1 else 0
noncomputable def exE (w : Tup wallK) (s r : Tup v3K) : Int := bif cutW w s r then 0 else 7
noncomputable def okE (w : Tup wallK) (s r : Tup v3K) : Bool := wErr w s r == 0

theorem fn15v (h0 : Lib0 w0) (w : Tup wallK) (s r : Tup v3K) (h : okE w s r = true) : FnD (cfg w0) 15 [wD w, vec3 s, vec3 r] (.tup [Bo (cutW w s r), I 0]) := by
  refine cutsG_good h0 _ _ ?_
  show some (wErr w s r == 0, D.tup [Bo (cutW w s r), I 0]) = _
  rw [show (wErr w s r == 0) = true from h]
theorem fn17v (h0 : Lib0 w0) (w : Tup wallK) (s r : Tup v3K) (h : okE w s r = true) : FnD (cfg w0) 17 [wD w, vec3 s, vec3 r] (.tup [I (wDep w s r), I 0]) := by
  refine depG_good h0 _ _ ?_
  show some (wErr w s r == 0, D.tup [I (wDep w s r), I 0]) = _
  rw [show (wErr w s r == 0) = true from h]
theorem fn16v (h0 : Lib0 w0) (w : Tup wallK) (s r : Tup v3K) (h : okE w s r = true) : FnD (cfg w0) 16 [wD w, vec3 s, vec3 r] (.tup [pair (pr2 (exN w s r) (exDn w s r)), I (exE w s r)]) := by
  have := exc_good h0 [wD w, vec3 s, vec3 r] _ rfl
  unfold excD exErr at this
  have hz : wErr w s r = 0 := by simpa [okE] using h
  unfold wErr at hz
  rw [hz] at this
  exact this
noncomputable def c15v : Ct := ct 15 [.b wallK, .b v3K, .b v3K] fun a => .br (okE a.1 a.2.1 a.2.2.1) (.leaf (.tup [Bo (cutW a.1 a.2.1 a.2.2.1), I 0])) .bad
noncomputable def c16v : Ct := ct 16 [.b wallK, .b v3K, .b v3K] fun a => .br (okE a.1 a.2.1 a.2.2.1) (.leaf (.tup [pair (pr2 (exN a.1 a.2.1 a.2.2.1) (exDn a.1 a.2.1 a.2.2.1)), I (exE a.1 a.2.1 a.2.2.1)])) .bad
noncomputable def c17v : Ct := ct 17 [.b wallK, .b v3K, .b v3K] fun a => .br (okE a.1 a.2.1 a.2.2.1) (.leaf (.tup [I (wDep a.1 a.2.1 a.2.2.1), I 0])) .bad
theorem gd15v (h0 : Lib0 w0) : Gd (cfg w0) c15v := gd_sig fun a d hd => by
  obtain ⟨hg, hd⟩ := br_run hd
  cases hd
  exact fn15v h0 a.1 a.2.1 a.2.2.1 hg
theorem gd16v (h0 : Lib0 w0) : Gd (cfg w0) c16v := gd_sig fun a d hd => by
  obtain ⟨hg, hd⟩ := br_run hd
  cases hd
  exact fn16v h0 a.1 a.2.1 a.2.2.1 hg
theorem gd17v (h0 : Lib0 w0) : Gd (cfg w0) c17v := gd_sig fun a d hd => by
  obtain ⟨hg, hd⟩ := br_run hd
  cases hd
  exact fn17v h0 a.1 a.2.1 a.2.2.1 hg

/-! ## Mirrors, of known indices -/

noncomputable def mirJ (l : List (Tup wallK)) (s r : Tup v3K) (j : Nat) : Tup mirK := mirW (nth l j) j s r
noncomputable def fitJ (js : List Nat) (l : List (Tup wallK)) (s r : Tup v3K) : Bool := fewL l && (e53 l s r == 0 && @decide (idxM l s r = js) (Classical.propDecidable _))
noncomputable def c53j (js : List Nat) : Ct := ct 53 [.v wallK, .b v3K, .b v3K] fun a => .br (fitJ js a.1 a.2.1 a.2.2.1) (.leaf (.tup [.vec mirK (js.map (mirJ a.1 a.2.1 a.2.2.1)), I 0])) .bad
theorem fn53a (h0 : Lib0 w0) (l : List (Tup wallK)) (s r : Tup v3K) (h : fewL l = true) : FnD (cfg w0) 53 [.vec wallK l, vec3 s, vec3 r] (.tup [.vec mirK (orM (e53 l s r) (mirsL l s r)), I (e53 l s r)]) := by
  unfold fewL at h
  rw [Bool.or_eq_true] at h
  rcases h with h | h
  · exact fn53 h0 l s r (Nat.le_of_ble_eq_true h)
  · exact fn53m h0 l s r h
theorem fn53j (h0 : Lib0 w0) (js : List Nat) (l : List (Tup wallK)) (s r : Tup v3K) (hg : fitJ js l s r = true) : FnD (cfg w0) 53 [.vec wallK l, vec3 s, vec3 r] (.tup [.vec mirK (js.map (mirJ l s r)), I 0]) := by
  unfold fitJ at hg
  rw [Bool.and_eq_true, Bool.and_eq_true] at hg
  obtain ⟨h1, h2, h3⟩ := hg
  have he : e53 l s r = 0 := by simpa using h2
  have hi : idxM l s r = js := @of_decide_eq_true _ (Classical.propDecidable _) h3
  have := fn53a h0 l s r h1
  rw [he, mirs_idx, hi] at this
  exact this
theorem gd53j (h0 : Lib0 w0) (js : List Nat) : Gd (cfg w0) (c53j js) := gd_sig fun a d hd => by
  obtain ⟨hg, hd⟩ := br_run hd
  cases hd
  exact fn53j h0 js a.1 a.2.1 a.2.2.1 hg
end
end Go.Proofs.YtmlglimahbjgbaaGreatDoor
