/-
  A part of the proof of the statement that the claim names: see the last file.
-/
import Derived.Test.YtifnpljmjhnbaaaGreatDoorT8
namespace Go.Proofs.YtifnpljmjhnbaaaGreatDoor
open Go Go.Am
set_option maxRecDepth 100000
variable {w0 : World}
noncomputable section


def cs8 : List Ct := [c23, c52, c53, c60, c63, c26, c51, c56, c66, c67, c68, c69, c70, c71, c72]
structure Gv where
  s : Int
  m : TLi
  a : TLi
  b : TLi
def gvD (x : Gv) : D := .agg [I x.s, .vec intK x.m, .vec intK x.a, .vec intK x.b]
def gn (b : Bool) (k : Option D) : Option D := bif b then k else none
def fin8 (l : List (Tup evK)) (p : List (Tup paK)) (x : Gv) (words : TLi) (v w : Int × Int) : Option D :=
  gn (Nat.ble (unk l p x.s).1.length 100000) (bf (sameI (unk l p x.s).1 words) (bf ((unk l p x.s).2 == allZ l p x.s) (bf ((mat l p x.s x.m).1 == v.1) (bf ((mat l p x.s x.m).2 == v.2)
    (bf ((bnd l p x.s x.a x.b).1 == w.1) (bf ((bnd l p x.s x.a x.b).2 == w.2) (some (Bo true))))))))
def got8 (l : List (Tup evK)) (p : List (Tup paK)) (x : Gv) : Option D :=
  bif allZ l p x.s == 0 then gn (smE l) (gn (smP p) (gn (sm x.m) (gn (Nat.ble l.length 4) (gn (Nat.ble p.length 4)
    (bif pZ l p x.a x.b == 0 then gn (eqLn l p x.a x.b) (fin8 l p x ((refU p x.s l 0).map t1) (chkM l p x.s x.m) (bndR l p x.s x.a x.b))
     else fin8 l p x ((refU p x.s l 0).map t1) (chkM l p x.s x.m) (0, pZ l p x.a x.b))))))
  else bif allZ l p x.s == 0 then gn (eqLn l p x.a x.b) (fin8 l p x [] (0, allZ l p x.s) (bndR l p x.s x.a x.b))
  else fin8 l p x [] (0, allZ l p x.s) (0, allZ l p x.s)
def law8 (l : List (Tup evK)) (p : List (Tup paK)) (x : Gv) : Option D :=
  bif !(shortE l) then some (Bo true) else gn (gW p) (bif !(shortP p) then some (Bo true) else
    bif decide ((x.m.length : Int) > 9) then some (Bo true) else bif decide ((x.a.length : Int) > 9) then some (Bo true) else bif decide ((x.b.length : Int) > 9) then some (Bo true) else
    gn (gE l) (gn (gP p) (gn (shortE l) (gn (gE l) (gn (gP p) (gn (sm x.m) (gn (shortE l) (gn (gE l) (gn (gP p) (gn (sm x.a) (gn (sm x.b) (gn (shortE l) (gn (shortP p) (gn (sm x.a) (gn (sm x.b) (got8 l p x))))))))))))))))
theorem run8 (l : List (Tup evK)) (p : List (Tup paK)) (x : Gv) : bodyK ((cfg w0).at cs8) 60 (fnOf Tryz.f8) [.vec evK l, .vec paK p, gvD x] = law8 l p x := by
  obtain ⟨s, m, a, b⟩ := x
  kernel_rfl
theorem sameI_self (l : TLi) : sameI l l = true := by
  unfold sameI
  simp
theorem unk_len (l : List (Tup evK)) (p : List (Tup paK)) (s : Int) (hl : l.length ≤ 100000) : Nat.ble (unk l p s).1.length 100000 = true := by
  refine (Nat.ble_eq ..).mpr ?_
  unfold unk
  cases (allZ l p s != 0) with
  | true => simp
  | false =>
    have h : ∀ (rs : List TLi) (i : Int), (unkL rs i).length ≤ rs.length := fun rs => by
      induction rs with
      | nil => intro i; simp [unkL]
      | cons r rs ih =>
        intro i
        unfold unkL
        have := ih (i + 1)
        cases r.any isV <;> simp <;> omega
    have := h (l.map fun e => vaL e p s) 0
    rw [List.length_map] at this
    simp only [cond_false, List.length_map]
    omega
theorem fin8_ok {l : List (Tup evK)} {p : List (Tup paK)} {x : Gv} {words : TLi} {v w : Int × Int} (hl : l.length ≤ 100000) (h1 : unk l p x.s = (words, allZ l p x.s)) (h2 : mat l p x.s x.m = v) (h3 : bnd l p x.s x.a x.b = w) : fin8 l p x words v w = some (Bo true) := by
  unfold fin8 gn bf
  rw [unk_len l p x.s hl, h1, h2, h3, sameI_self]
  simp
theorem law8_true (l : List (Tup evK)) (p : List (Tup paK)) (x : Gv) (hp : p.length ≤ maxLen) : law8 l p x = some (Bo true) := by
  have hw : gW p = true := (Nat.ble_eq ..).mpr (by have : maxLen = 9223372036854775807 := rfl; omega)
  unfold law8
  cases h1 : shortE l with
  | false => rfl
  | true =>
    cases h2 : shortP p with
    | false => rw [hw]; rfl
    | true =>
      cases h3 : decide ((x.m.length : Int) > 9) with
      | true => rw [hw]; rfl
      | false =>
        cases h4 : decide ((x.a.length : Int) > 9) with
        | true => rw [hw]; rfl
        | false =>
          cases h5 : decide ((x.b.length : Int) > 9) with
          | true => rw [hw]; rfl
          | false =>
            have hl : l.length ≤ 100000 := by
              unfold shortE at h1
              simp only [Bool.or_eq_true, decide_eq_true_eq, beq_iff_eq] at h1
              omega
            have hp' : p.length ≤ 100000 := by
              unfold shortP at h2
              simp only [Bool.and_eq_true, Bool.or_eq_true, decide_eq_true_eq, beq_iff_eq] at h2
              omega
            have g1 : gE l = true := (Nat.ble_eq ..).mpr hl
            have g1' : smE l = true := (Nat.ble_eq ..).mpr hl
            have g2 : gP p = true := (Nat.ble_eq ..).mpr hp'
            have g2' : smP p = true := (Nat.ble_eq ..).mpr hp'
            have n3 := of_decide_eq_false h3
            have n4 := of_decide_eq_false h4
            have n5 := of_decide_eq_false h5
            have s3 : sm x.m = true := (Nat.ble_eq ..).mpr (by omega)
            have s4 : sm x.a = true := (Nat.ble_eq ..).mpr (by omega)
            have s5 : sm x.b = true := (Nat.ble_eq ..).mpr (by omega)
            rw [hw, g1, g2, s3, s4, s5]
            unfold gn
            simp only [Bool.not_true, cond_false, cond_true]
            unfold got8
            cases hz : (allZ l p x.s == 0) with
            | true =>
              have hne : (allZ l p x.s != 0) = false := by unfold bne; rw [hz]; rfl
              have h0 : allZ l p x.s = 0 := by simpa using hz
              obtain ⟨he, hpa, hs⟩ := allZ_ok hne
              have f1 : l.length ≤ 4 := by
                have := ev_len he
                unfold shortE at h1
                simp only [Bool.or_eq_true, decide_eq_true_eq, beq_iff_eq] at h1
                omega
              have f2 : p.length ≤ 4 := (shortP_few (l := l) (s := x.s) h2).resolve_right (by rw [hne]; decide)
              have u1 : unk l p x.s = ((refU p x.s l 0).map t1, allZ l p x.s) := by
                unfold unk
                rw [hne, unk_ref (pas_ok hpa) (slack_le hs) l 0 (evs_ok he), h0]
                rfl
              have u2 : mat l p x.s x.m = chkM l p x.s x.m := by unfold mat; rw [hne]; rfl
              rw [g1', g2', s3, (Nat.ble_eq ..).mpr f1, (Nat.ble_eq ..).mpr f2]
              unfold gn
              simp only [cond_true]
              cases hq : (pZ l p x.a x.b == 0) with
              | true =>
                have hq' : (pZ l p x.a x.b != 0) = false := by unfold bne; rw [hq]; rfl
                obtain ⟨e1, e2, _⟩ := pZ_zero (show pZ l p x.a x.b = 0 by simpa using hq)
                have e3 : eqLn l p x.a x.b = true := by
                  unfold eqLn
                  simp only [Bool.and_eq_true, Nat.ble_eq, Nat.beq_eq]
                  exact ⟨hl, hp', e1, e2⟩
                rw [e3]
                simp only [cond_true]
                exact fin8_ok hl u1 u2 (by unfold bnd; rw [hne, hq']; rfl)
              | false =>
                have hq' : (pZ l p x.a x.b != 0) = true := by unfold bne; rw [hq]; rfl
                simp only [cond_false]
                exact fin8_ok hl u1 u2 (by unfold bnd; rw [hne, hq']; rfl)
            | false =>
              have hne : (allZ l p x.s != 0) = true := by unfold bne; rw [hz]; rfl
              simp only [cond_false]
              exact fin8_ok hl (by unfold unk; rw [hne]; rfl) (by unfold mat; rw [hne]; rfl) (by unfold bnd; rw [hne]; rfl)
theorem law8_fn (h0 : Lib0 w0) (l : List (Tup evK)) (p : List (Tup paK)) (x : Gv) (hp : p.length ≤ maxLen) : FnD (cfg w0) 8 [.vec evK l, .vec paK p, gvD x] (Bo true) :=
  fnD_k (cfg_ok w0) h0 (cs := cs8) ⟨gd23 h0, gd52 h0, gd53 h0, gd60 h0, gd63 h0, gd26 h0, gd51 h0, gd56 h0, gd66 h0, gd67 h0, gd68 h0, gd69 h0, gd70 h0, gd71 h0, gd72 h0, trivial⟩ (fd := fnOf Tryz.f8) rfl ((run8 ..).trans (law8_true _ _ _ hp))
end
end Go.Proofs.YtifnpljmjhnbaaaGreatDoor
