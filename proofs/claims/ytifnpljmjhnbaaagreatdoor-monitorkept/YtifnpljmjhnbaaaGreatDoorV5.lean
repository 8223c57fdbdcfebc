/-
  A part of the proof of the statement that the claim names: see the last file.
-/
import Derived.Test.YtifnpljmjhnbaaaGreatDoorV4
namespace Go.Proofs.YtifnpljmjhnbaaaGreatDoor
open Go Go.Am
set_option maxRecDepth 100000
variable {w0 : World}
noncomputable section


def rel40 : List (Nat × Cv) := [(6, .id), (7, .id), (8, .id), (3, .ov evK)]
def st40 (l : List (Tup evK)) (a : Int × List (Tup evK)) : List D := [.vec evK l, I l.length, I a.1, .ovec evK a.2]
theorem round40 (l o : List (Tup evK)) (j : Int) : rndD ((cfg w0).at []) 40 [] 40 (fnOf Tryz.f40).ntmps rel40 (lpB 0 (fnOf Tryz.f40).body) (st40 l (j, o)) =
    bif decide (j < l.length) then bif inE l j then
      bif roomEv (o ++ [nth l j.toNat]) then some ([], .normal, st40 l (W (j + 1), o ++ [nth l j.toNat])) else none
    else none else some ([], .exit 0, st40 l (j, o)) := by kernel_rfl
theorem body40 (l : List (Tup evK)) (p : Int × List (Tup evK)) : bodyT ((cfg w0).at []) 40 [ldP 0 (fnOf Tryz.f40).ntmps rel40 .normal (st40 l p)] 40 (fnOf Tryz.f40) [.vec evK l] =
    some ([(ldP 0 (fnOf Tryz.f40).ntmps rel40 .normal (st40 l p), .loop (lpB 0 (fnOf Tryz.f40).body), st40 l (0, []))], .vec evK p.2) := by kernel_rfl
theorem fn40 (h0 : Lib0 w0) (l : List (Tup evK)) (hg : l.length ≤ 100000) : FnD (cfg w0) 40 [.vec evK l] (.vec evK l) := by
  refine fn_ls h0 (cs := []) trivial (fd := fnOf Tryz.f40) rfl rel40 l (by omega) (st40 l) (fun w a => (X.normal, a ++ [w])) (fun j a => a.length = j) (a0 := []) rfl
    (fun j a hj hi => .leaf (by
      have hi : a.length = j := hi
      rw [round40, inE_nat hj, lt_t hj, Int.toNat_natCast]
      unfold roomEv
      rw [room (by omega) (by omega)]
      rfl)) (fun j a a' _ hi h => by cases h; simp [hi])
    (fun a _ => .leaf (by rw [round40, ge_f]; rfl)) fun x p hx => ?_
  rw [lsRun_fold (h := fun w b => b ++ [w]) 0 l 0 [] (fun _ _ _ => rfl), show (fun b (w : Tup evK) => b ++ [w]) = (fun b w => b ++ [id w]) from rfl, foldl_snoc id, List.map_id, List.nil_append] at hx
  cases hx
  exact body40 l _
def c40 : Ct := ct 40 [.v evK] fun a => .br (Nat.ble (a.1 : List (Tup evK)).length 100000) (.leaf (.vec evK a.1)) .bad
theorem gd40 (h0 : Lib0 w0) : Gd (cfg w0) c40 := gd_sig fun a d hd => by
  obtain ⟨hg, hd⟩ := br_run hd
  cases hd
  exact fn40 h0 a.1 (Nat.le_of_ble_eq_true hg)
def q6 (x : Tup evK) : Int × Int × Int × Int × Int × Int := (ef x, et x, ee x, ep x, ea x, em x)
def sameEs (a b : List (Tup evK)) : Bool := decide (a.map q6 = b.map q6)
def neEv (x y : Tup evK) : Bool := !sameEv x y
theorem neEv_iff (x y : Tup evK) : neEv x y = true ↔ q6 x ≠ q6 y := by
  unfold neEv sameEv q6
  rw [Bool.not_eq_true', ← Bool.not_eq_true]
  simp only [Bool.and_true, Bool.and_eq_true, beq_iff_eq, ne_eq, Prod.mk.injEq]
  constructor
  · intro h ⟨a, b, c, d, e, f⟩; exact h ⟨⟨a, b⟩, c, d, e, f⟩
  · intro h ⟨⟨a, b⟩, c, d, e, f⟩; exact h ⟨a, b, c, d, e, f⟩
def rel39 : List (Nat × Cv) := [(0, .id), (1, .id), (5, .id), (4, .id)]
def st39 (a b : List (Tup evK)) (s : Int × Bool) : List D := [.vec evK a, .vec evK b, I s.1, Bo s.2]
theorem round39 (a b : List (Tup evK)) (j : Int) (r : Bool) : rndD ((cfg w0).at []) 40 [] 40 (fnOf Tryz.f39).ntmps rel39 (lpB 0 (fnOf Tryz.f39).body) (st39 a b (j, r)) =
    bif decide (j < a.length) then bif inE a j then bif inE b j then
      bif neEv (nth a j.toNat) (nth b j.toNat) then some ([], .ret, st39 a b (j, false)) else some ([], .normal, st39 a b (W (j + 1), r))
    else none else none else some ([], .exit 0, st39 a b (j, r)) := by kernel_rfl
theorem body39 (a b : List (Tup evK)) (x : X) (p : Int × Bool) (hx : x = .ret ∨ x = .normal) : bodyT ((cfg w0).at []) 40 [ldP 0 (fnOf Tryz.f39).ntmps rel39 x (st39 a b p)] 40 (fnOf Tryz.f39) [.vec evK a, .vec evK b] =
    bif (a.length : Int) != b.length then some ([], Bo false) else
    some ([(ldP 0 (fnOf Tryz.f39).ntmps rel39 x (st39 a b p), .loop (lpB 0 (fnOf Tryz.f39).body), st39 a b (0, false))], onX x (Bo p.2) (Bo true)) := by
  rcases hx with rfl | rfl <;> kernel_rfl
theorem any_same {α β : Type} [DecidableEq β] {a b : List α} (d : α) (q : α → β) (ne : α → α → Bool) (hne : ∀ x y, ne x y = true ↔ q x ≠ q y) (h : a.length = b.length) :
    (List.range' 0 a.length).any (fun j => ne (a.getD j d) (b.getD j d)) = !decide (a.map q = b.map q) := by
  rw [Bool.eq_iff_iff, List.any_eq_true]
  simp only [List.mem_range'_1, hne, Bool.not_eq_true', decide_eq_false_iff_not]
  constructor
  · rintro ⟨j, ⟨_, hj⟩, hne⟩ he
    have := congrArg (fun l => l[j]?) he
    simp only [List.getElem?_map] at this
    rw [List.getElem?_eq_getElem (by omega), List.getElem?_eq_getElem (by omega)] at this
    simp only [Option.map_some, Option.some.injEq] at this
    apply hne
    simp only [List.getD_eq_getElem?_getD, List.getElem?_eq_getElem (show j < a.length by omega), List.getElem?_eq_getElem (show j < b.length by omega), Option.getD_some]
    exact this
  · intro hne
    apply Classical.byContradiction
    intro hno
    apply hne
    apply List.ext_getElem?
    intro j
    simp only [List.getElem?_map]
    rcases Nat.lt_or_ge j a.length with hj | hj
    · rw [List.getElem?_eq_getElem hj, List.getElem?_eq_getElem (by omega)]
      simp only [Option.map_some, Option.some.injEq]
      apply Classical.byContradiction
      intro hx
      refine hno ⟨j, ⟨by omega, by omega⟩, fun hy => hx ?_⟩
      simpa only [List.getD_eq_getElem?_getD, List.getElem?_eq_getElem (show j < a.length by omega), List.getElem?_eq_getElem (show j < b.length by omega), Option.getD_some] using hy
    · rw [List.getElem?_eq_none hj, List.getElem?_eq_none (by omega)]
theorem fn39 (h0 : Lib0 w0) (a b : List (Tup evK)) (hl : a.length ≤ 100000) : FnD (cfg w0) 39 [.vec evK a, .vec evK b] (Bo (sameEs a b)) := by
  cases hne : ((a.length : Int) != b.length) with
  | true =>
    have : sameEs a b = false := by
      unfold sameEs
      rw [decide_eq_false_iff_not]
      intro h
      have := congrArg List.length h
      simp only [List.length_map] at this
      rw [this] at hne
      simp at hne
    rw [this]
    refine fnD_t (cfg_ok w0) h0 (cs := []) trivial (fd := fnOf Tryz.f39) rfl (L := [ldP 0 (fnOf Tryz.f39).ntmps rel39 .normal (st39 a b (0, true))]) (o := []) ((body39 a b .normal (0, true) (.inr rfl)).trans ?_) trivial
    rw [hne]; rfl
  | false =>
    have hab : a.length = b.length := Int.ofNat.inj (by simpa using hne)
    have hany : (List.range' 0 a.length).any (fun j => neEv (nth a j) (nth b j)) = !sameEs a b := any_same (dfl evK) q6 neEv neEv_iff hab
    refine fn_rg h0 (cs := []) trivial (fd := fnOf Tryz.f39) rfl rel39 a.length (by omega) (st39 a b) (fun j r => bif neEv (nth a j) (nth b j) then (X.ret, false) else (.normal, r)) (fun _ _ => True) (a0 := false) trivial
      (fun j r hj _ => .leaf (by
        rw [round39, inE_nat hj, inE_nat (show j < b.length by omega), lt_t hj, Int.toNat_natCast]
        cases neEv (nth a j) (nth b j) <;> rfl)) (fun _ _ _ _ _ _ => trivial)
      (fun r _ => .leaf (by rw [round39, ge_f]; rfl)) fun x p hx => ?_
    obtain ⟨q, hq⟩ := rgRun_any (id := 0) (p := fun j => neEv (nth a j) (nth b j)) (c := false) a.length 0 false
    rw [hq, hany] at hx
    cases hs : sameEs a b <;> rw [hs] at hx <;> cases hx
    · exact (body39 a b _ _ (.inl rfl)).trans (by rw [hne]; rfl)
    · exact (body39 a b _ _ (.inr rfl)).trans (by rw [hne]; rfl)
def c39 : Ct := ct 39 [.v evK, .v evK] fun a => .br (Nat.ble (a.1 : List (Tup evK)).length 100000) (.leaf (Bo (sameEs a.1 a.2.1))) .bad
theorem gd39 (h0 : Lib0 w0) : Gd (cfg w0) c39 := gd_sig fun a d hd => by
  obtain ⟨hg, hd⟩ := br_run hd
  cases hd
  exact fn39 h0 a.1 a.2.1 (Nat.le_of_ble_eq_true hg)


def tailE (a w : EE) : Option D := bif Nat.ble a.1.length 100000 then bif Nat.ble a.1.length 100000 then bf (sameEs a.1 w.1) (bf (a.2 == w.2) (some (Bo true))) else none else none
def law5 (l : TL) (r : Ru) : Option D := bif !(shortB l) then some (Bo true) else
  Gs 3 l (bif e36 l r == 0 then Gs 1 l (tailE (ev36 l r) (ev38 l r)) else tailE (ev36 l r) ([], e36 l r))
def cs5 : List Ct := [c23, c24, c26, c29, firstC 17, c36, ruC 37, c38, c39, c40]
theorem run5 (l : TL) (r : Ru) : bodyK ((cfg w0).at cs5) 40 (fnOf Tryz.f5) [.vec intK l, .agg [I r.1, I r.2.1, I r.2.2]] = law5 l r := by kernel_rfl
theorem ev36_len {l : TL} {r : Ru} (h : l.length ≤ 100000) : (ev36 l r).1.length ≤ 100000 := by
  have hel : (evsP l r).length ≤ 100000 := by
    unfold evsP
    rw [List.length_map]
    have := filter_len (selG r) (GG l r l.length)
    have := (GG_inv l r l.length).1
    omega
  unfold ev36
  cases (e36 l r != 0)
  · cases (evsP l r).any bgE
    · exact hel
    · simp
  · simp
theorem firstZ_z : ∀ {l : List Int}, firstZ l = 0 → ∀ e ∈ l, e = 0
  | [], _, e, h => by cases h
  | x :: xs, hz, e, h => by
    unfold firstZ at hz
    obtain ⟨h1, h2⟩ := first_zero hz
    rcases List.mem_cons.1 h with rfl | h
    · exact h1
    · exact firstZ_z h2 e h
theorem evs_eq {l : TL} {r : Ru} (hl : l.length ≤ 100000) (h : e36 l r = 0) : evsP l r = evsR l r := by
  obtain ⟨_, h⟩ := first_zero h
  obtain ⟨h, _⟩ := first_zero h
  have h1 := within_zero (firstZ_z h (withinZ r.1 1 maxE) (by simp))
  unfold evsP evsR
  refine List.map_congr_left fun g hg => ?_
  rw [List.mem_filter] at hg
  obtain ⟨a1, a2, a3, _, _, a6⟩ := (GG_inv l r l.length).2 g hg.1
  unfold gpEv gpR
  rw [evP_eq (by omega) (by omega) hl]
  have := of_decide_eq_true a6
  omega
theorem sameEs_self (l : List (Tup evK)) : sameEs l l = true := decide_eq_true rfl
theorem tailE_ok {a : EE} (h : a.1.length ≤ 100000) : tailE a a = some (Bo true) := by
  unfold tailE bf
  rw [sameEs_self, show Nat.ble a.1.length 100000 = true from (Nat.ble_eq ..).mpr h]
  simp
theorem law5_true (l : TL) (r : Ru) : law5 l r = some (Bo true) := by
  unfold law5
  cases hs : shortB l with
  | false => rfl
  | true =>
    have hl : l.length ≤ 1025 := by
      unfold shortB at hs
      cases hd : decide ((l.length : Int) ≤ 40) with
      | true => have := of_decide_eq_true hd; omega
      | false => rw [hd] at hs; simp only [cond_false, beq_iff_eq] at hs; omega
    have hg : sm l = true := (Nat.ble_eq ..).mpr (by omega)
    have hk := tailE_ok (ev36_len (l := l) (r := r) (by omega))
    rw [Bool.not_true, cond_false, Gs_ok hg]
    cases hz : (e36 l r == 0) with
    | true =>
      have h0 : e36 l r = 0 := by simpa using hz
      have : ev36 l r = ev38 l r := by
        unfold ev36 ev38
        rw [h0, evs_eq (by omega) h0]
        rfl
      rw [cond_true, Gs_ok hg, ← this]
      exact hk
    | false =>
      have : ev36 l r = ([], e36 l r) := by unfold ev36; rw [show (e36 l r != 0) = true by simp [bne, hz]]; rfl
      rw [cond_false, ← this]
      exact hk
theorem law5_fn (h0 : Lib0 w0) (l : TL) (r : Ru) : FnD (cfg w0) 5 [.vec intK l, .agg [I r.1, I r.2.1, I r.2.2]] (Bo true) :=
  fnD_k (cfg_ok w0) h0 (cs := cs5) ⟨gd23 h0, gd24 h0, gd26 h0, gd29 h0, gd17 h0, gd36 h0, gd37 h0, gd38 h0, gd39 h0, gd40 h0, trivial⟩ (fd := fnOf Tryz.f5) rfl ((run5 ..).trans (law5_true ..))
end
end Go.Proofs.YtifnpljmjhnbaaaGreatDoor
