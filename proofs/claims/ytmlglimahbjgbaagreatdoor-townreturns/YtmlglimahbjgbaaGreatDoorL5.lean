/-
  A part of the proof of the statement that the claim names: see the last file.
-/
import Derived.Test.YtmlglimahbjgbaaGreatDoorL2
namespace Go.Proofs.YtmlglimahbjgbaaGreatDoor
open Go Go.Am Go.Town
set_option maxRecDepth 100000
variable {w0 : World}
noncomputable section

/-! # Tables of steps -/

abbrev stpK : List Kd := [ik, ik]
noncomputable def sF (x : Tup stpK) : Int := x.1
noncomputable def sC (x : Tup stpK) : Int := x.2.1
noncomputable def s2 (a b : Int) : Tup stpK := (a, b, ())

/-! ## steps -/

noncomputable def rel42 : List (Nat × Cv) := [(6, .id), (7, .id), (8, .id), (3, .ov stpK)]
noncomputable def st42 (l : List (Tup stpK)) (a : Int × List (Tup stpK)) : List D := [.vec stpK l, I l.length, I a.1, .ovec stpK a.2]
theorem round42 (l : List (Tup stpK)) (j : Int) (out : List (Tup stpK)) : rndD ((cfg w0).at []) 40 [] 40 (fnOf Tryz.f42).ntmps rel42 (lpB 0 (fnOf Tryz.f42).body) (st42 l (j, out)) =
    bif decide (j < l.length) then
      bif (Nat.beq 2 2 && (decide (0 ≤ j) && decide (j < l.length))) then
        bif (Nat.ble ((out ++ [nth l j.toNat]).length * 16) 1000000000000 && Nat.ble (out ++ [nth l j.toNat]).length 1000000000000) then some ([], .normal, st42 l (W (j + 1), out ++ [nth l j.toNat])) else none
      else none
    else some ([], .exit 0, st42 l (j, out)) := by kernel_rfl
theorem body42 (l : List (Tup stpK)) (j : Int) (out : List (Tup stpK)) : bodyT ((cfg w0).at []) 40 [ldP 0 (fnOf Tryz.f42).ntmps rel42 .normal (st42 l (j, out))] 40 (fnOf Tryz.f42) [.vec stpK l] =
    some ([(ldP 0 (fnOf Tryz.f42).ntmps rel42 .normal (st42 l (j, out)), .loop (lpB 0 (fnOf Tryz.f42).body), st42 l (0, []))], .vec stpK out) := by kernel_rfl
theorem fn42 (h0 : Lib0 w0) (l : List (Tup stpK)) (hg : l.length ≤ 100000) : FnD (cfg w0) 42 [.vec stpK l] (.vec stpK l) := by
  refine fn_ls h0 (cs := []) trivial (fd := fnOf Tryz.f42) rfl rel42 l (by omega) (st42 l) (fun w a => (X.normal, a ++ [w])) (fun j a => a.length = j) (a0 := []) rfl
    (fun j a hj hi => .leaf (by
      rw [round42, inb 2 hj, lt_t hj, Int.toNat_natCast, room (by omega) (by omega)]
      rfl)) (fun j a a' _ hi h => by cases h; simp [hi])
    (fun a _ => .leaf (by rw [round42, ge_f]; rfl)) fun x p hx => ?_
  rw [lsRun_fold (h := fun w b => b ++ [w]) 0 l 0 [] (fun _ _ _ => rfl), foldl_snoc (fun w => w)] at hx
  cases hx
  have e : ([] : List (Tup stpK)) ++ l.map (fun w => w) = l := by simp
  rw [e]
  exact body42 l _ l
noncomputable def c42 : Ct := ct 42 [.v stpK] fun a => .br (Nat.ble (a.1 : List (Tup stpK)).length 100000) (.leaf (.vec stpK a.1)) .bad
theorem gd42 (h0 : Lib0 w0) : Gd (cfg w0) c42 := gd_sig fun a d hd => by
  obtain ⟨hg, hd⟩ := br_run hd
  cases hd
  exact fn42 h0 a.1 (Nat.le_of_ble_eq_true hg)

/-! ## CheckTable -/

noncomputable def r1S (x : Tup stpK) : Int := withinZ (sF x) 1 1000000
noncomputable def r2S (x : Tup stpK) : Int := withinZ (sC x) 0 1000
noncomputable def leS (b x : Tup stpK) : Bool := decide (sF x ≤ sF b)
noncomputable def gtS (b x : Tup stpK) : Bool := decide (sC x > sC b)
noncomputable def e3S (x : Tup stpK) (o : Bool) : Int := firstZ [r1S x, r2S x, whenZ o 11]
noncomputable def e2S (x : Tup stpK) : Int := firstZ [r1S x, r2S x]
noncomputable def ordS (b x : Tup stpK) : Bool := bif leS b x then true else gtS b x
noncomputable def eS (b x : Tup stpK) : Int := e3S x (ordS b x)
noncomputable def tabF : Tup stpK → List (Tup stpK) → Int
  | _, [] => 0
  | b, x :: xs => bif eS b x != 0 then eS b x else tabF x xs
noncomputable def hdE (n : Nat) : Int := firstZ [whenZ ((n : Int) == 0) 12, whenZ (decide ((n : Int) > 16)) 5]
noncomputable def chkTab (l : List (Tup stpK)) : Int := bif hdE l.length != 0 then hdE l.length else tabF (s2 0 1000) l

noncomputable def cs50 : List Ct := [⟨115, tG (intsF withinK)⟩, ⟨98, tG firstF⟩, ⟨119, tG whenF⟩]
theorem cs50_gd (h0 : Lib0 w0) : Gds (cfg w0) cs50 := ⟨gd_of (within_good h0), gd_of (first_good h0), gd_of (when_good h0), trivial⟩
noncomputable def rel50 : List (Nat × Cv) := [(22, .id), (23, .id), (24, .id), (4, .id), (2, .id)]
noncomputable def st50 (l : List (Tup stpK)) (a : Int × (Tup stpK × Int)) : List D := [.vec stpK l, I l.length, I a.1, .obox [I a.2.1.1, I a.2.1.2.1], I a.2.2]

theorem round50 (l : List (Tup stpK)) (j e : Int) (b : Tup stpK) : rndD ((cfg w0).at cs50) 40 [] 40 (fnOf Tryz.f50).ntmps rel50 (lpB 0 (fnOf Tryz.f50).body) (st50 l (j, (b, e))) =
    bif decide (j < l.length) then
      bif (Nat.beq 2 2 && (decide (0 ≤ j) && decide (j < l.length))) then
        bif leS b (nth l j.toNat) then
          bif e3S (nth l j.toNat) true != 0 then some ([], .ret, st50 l (j, (b, e3S (nth l j.toNat) true))) else some ([], .normal, st50 l (W (j + 1), (nth l j.toNat, e)))
        else
          bif e3S (nth l j.toNat) (gtS b (nth l j.toNat)) != 0 then some ([], .ret, st50 l (j, (b, e3S (nth l j.toNat) (gtS b (nth l j.toNat))))) else some ([], .normal, st50 l (W (j + 1), (nth l j.toNat, e)))
      else none
    else some ([], .exit 0, st50 l (j, (b, e))) := by kernel_rfl

theorem body50 (l : List (Tup stpK)) (x : X) (p : Int × (Tup stpK × Int)) (hx : x = .ret ∨ x = .normal) : bodyT ((cfg w0).at cs50) 40 [ldP 0 (fnOf Tryz.f50).ntmps rel50 x (st50 l p)] 40 (fnOf Tryz.f50) [.vec stpK l] =
    bif hdE l.length != 0 then some ([], I (hdE l.length)) else
    some ([(ldP 0 (fnOf Tryz.f50).ntmps rel50 x (st50 l p), .loop (lpB 0 (fnOf Tryz.f50).body), st50 l (0, (s2 0 1000, 0)))], onX x (I p.2.2) (I 0)) := by
  rcases hx with rfl | rfl <;> kernel_rfl

noncomputable def f50 (x : Tup stpK) (a : Tup stpK × Int) : X × (Tup stpK × Int) := bif eS a.1 x != 0 then (.ret, (a.1, eS a.1 x)) else (.normal, (x, a.2))

theorem run50 : ∀ (xs : List (Tup stpK)) (b : Tup stpK) (i : Nat), ∃ p, lsRun 0 f50 xs i (b, 0) = (bif tabF b xs != 0 then X.ret else .exit 0, p) ∧ (tabF b xs ≠ 0 → p.2.2 = tabF b xs)
  | [], b, i => ⟨_, rfl, fun h => absurd rfl h⟩
  | x :: xs, b, i => by
    unfold lsRun tabF f50
    simp only
    cases hc : (eS b x != 0) with
    | true => exact ⟨((i : Int), (b, eS b x)), by simp [hc], fun _ => rfl⟩
    | false =>
      simp only [cond_false]
      exact run50 xs x (i + 1)

theorem hd_len {n : Nat} (h : hdE n = 0) : 1 ≤ n ∧ n ≤ 16 := by
  unfold hdE at h
  rw [firstZ_nil] at h
  have h1 := h (whenZ ((n : Int) == 0) 12) (by simp)
  have h2 := h (whenZ (decide ((n : Int) > 16)) 5) (by simp)
  constructor
  · rcases Nat.eq_zero_or_pos n with h | h
    · subst h; cases h1
    · exact h
  · apply Classical.byContradiction
    intro hn
    rw [decide_eq_true (show (n : Int) > 16 by omega)] at h2
    cases h2

theorem fn50 (h0 : Lib0 w0) (l : List (Tup stpK)) : FnD (cfg w0) 50 [.vec stpK l] (I (chkTab l)) := by
  unfold chkTab
  cases hm : (hdE l.length != 0) with
  | true =>
    refine fnD_t (cfg_ok w0) h0 (cs50_gd h0) (fd := fnOf Tryz.f50) rfl (L := [ldP 0 (fnOf Tryz.f50).ntmps rel50 .normal (st50 l (0, (s2 0 0, 0)))]) (o := []) ((body50 l .normal (0, (s2 0 0, 0)) (.inr rfl)).trans ?_) trivial
    rw [hm]; rfl
  | false =>
    have hlen := hd_len (show hdE l.length = 0 by simpa using hm)
    refine fn_ls h0 (cs50_gd h0) (fd := fnOf Tryz.f50) rfl rel50 l (by omega) (st50 l) f50 (fun _ _ => True) (a0 := (s2 0 1000, 0)) trivial
      (fun j a hj _ => .leaf (by
        rw [round50, inb 2 hj, lt_t hj, Int.toNat_natCast]
        unfold f50 eS ordS
        cases leS a.1 (nth l j)
        · simp only [cond_false, cond_true]
          cases (e3S (nth l j) (gtS a.1 (nth l j)) != 0) <;> rfl
        · simp only [cond_true]
          cases (e3S (nth l j) true != 0) <;> rfl)) (fun _ _ _ _ _ _ => trivial)
      (fun a _ => .leaf (by rw [round50, ge_f]; rfl)) fun x p hx => ?_
    obtain ⟨q, hq, hq2⟩ := run50 l (s2 0 1000) 0
    rw [hq] at hx
    simp only [cond_false]
    cases hc : (tabF (s2 0 1000) l != 0) <;> rw [hc] at hx <;> cases hx
    · rw [show tabF (s2 0 1000) l = 0 by simpa using hc]
      exact (body50 l _ _ (.inr rfl)).trans (by rw [hm]; rfl)
    · rw [← hq2 (by simpa using hc)]
      exact (body50 l _ _ (.inl rfl)).trans (by rw [hm]; rfl)
noncomputable def tabC (g : Nat) : Ct := ct g [.v stpK] fun a => .leaf (I (chkTab a.1))
theorem gd50 (h0 : Lib0 w0) : Gd (cfg w0) (tabC 50) := gd_sig fun a d hd => by cases hd; exact fn50 h0 a.1

/-! ## The reference's CheckTable -/

noncomputable def cs45 : List Ct := [⟨32, tG (intsF withinK)⟩, ⟨108, tG firstF⟩]
theorem cs45_gd (h0 : Lib0 w0) : Gds (cfg w0) cs45 := ⟨gd_of (range_good h0), gd_of (rfirst_good h0), trivial⟩
noncomputable def rel45 : List (Nat × Cv) := [(0, .id), (3, .id), (2, .id)]
noncomputable def st45 (l : List (Tup stpK)) (a : Int × Int) : List D := [.vec stpK l, I a.1, I a.2]
noncomputable def inS (l : List (Tup stpK)) (j : Int) : Bool := Nat.beq 2 2 && (decide (0 ≤ j) && decide (j < l.length))
noncomputable def pvS (l : List (Tup stpK)) (j : Int) : Tup stpK := nth l (IntKind.i64.wrap (j - 1)).toNat
noncomputable def inP (l : List (Tup stpK)) (j : Int) : Bool := Nat.beq 2 2 && (decide (0 ≤ IntKind.i64.wrap (j - 1)) && decide (IntKind.i64.wrap (j - 1) < l.length))

theorem round45 (l : List (Tup stpK)) (j e : Int) : rndD ((cfg w0).at cs45) 40 [] 40 (fnOf Tryz.f45).ntmps rel45 (lpB 0 (fnOf Tryz.f45).body) (st45 l (j, e)) =
    bif decide (j < l.length) then
      bif inS l j then bif inS l j then
        bif e2S (nth l j.toNat) != 0 then some ([], .ret, st45 l (j, e2S (nth l j.toNat))) else
        bif decide (j > 0) then
          bif inS l j then bif inP l j then
            bif leS (pvS l j) (nth l j.toNat) then some ([], .ret, st45 l (j, 11)) else
            bif inS l j then bif inP l j then
              bif gtS (pvS l j) (nth l j.toNat) then some ([], .ret, st45 l (j, 11)) else some ([], .normal, st45 l (W (j + 1), e))
            else none else none
          else none else none
        else some ([], .normal, st45 l (W (j + 1), e))
      else none else none
    else some ([], .exit 0, st45 l (j, e)) := by kernel_rfl

noncomputable def is0 (n : Nat) : Bool := (n : Int) == 0
noncomputable def is16 (n : Nat) : Bool := decide ((n : Int) > 16)
theorem body45 (l : List (Tup stpK)) (x : X) (p : Int × Int) (hx : x = .ret ∨ x = .normal) : bodyT ((cfg w0).at cs45) 40 [ldP 0 (fnOf Tryz.f45).ntmps rel45 x (st45 l p)] 40 (fnOf Tryz.f45) [.vec stpK l] =
    bif is0 l.length then some ([], I 12) else bif is16 l.length then some ([], I 5) else
    some ([(ldP 0 (fnOf Tryz.f45).ntmps rel45 x (st45 l p), .loop (lpB 0 (fnOf Tryz.f45).body), st45 l (0, 0))], onX x (I p.2) (I 0)) := by
  rcases hx with rfl | rfl <;> kernel_rfl

noncomputable def prev (l : List (Tup stpK)) (j : Nat) : Tup stpK := bif Nat.beq j 0 then s2 0 1000 else nth l (j - 1)
noncomputable def step45 (l : List (Tup stpK)) (j : Nat) (e : Int) : X × Int := bif eS (prev l j) (nth l j) != 0 then (.ret, eS (prev l j) (nth l j)) else (.normal, e)

theorem hd_eq (n : Nat) : hdE n = bif is0 n then 12 else bif is16 n then 5 else 0 := by
  unfold hdE
  show firstZ [whenZ (is0 n) 12, whenZ (is16 n) 5] = _
  cases is0 n <;> cases is16 n <;> rfl

theorem e3_eq (x : Tup stpK) (o : Bool) : e3S x o = bif e2S x != 0 then e2S x else whenZ o 11 := by
  unfold e3S e2S
  cases h1 : (r1S x != 0) <;> cases h2 : (r2S x != 0) <;> cases o <;> simp only [firstZ, whenZ, h1, h2, cond_true, cond_false, bne_self_eq_false] <;> rfl

theorem rd45 (l : List (Tup stpK)) (hl : l.length ≤ 1000000) (j : Nat) (e : Int) (hj : j < l.length) : RdOK ((cfg w0).at cs45) (fnOf Tryz.f45).ntmps rel45 (lpB 0 (fnOf Tryz.f45).body) (st45 l ((j : Int), e)) (step45 l j e).1 (st45 l (nx j (step45 l j e))) := .leaf (by
  rw [round45, lt_t hj, show inS l j = true from inb 2 hj, Int.toNat_natCast]
  unfold step45 eS
  rw [e3_eq]
  cases h2 : (e2S (nth l j) != 0) with
  | true => simp only [cond_true, h2]; rfl
  | false =>
    have h2' : e2S (nth l j) = 0 := by simpa using h2
    cases j with
    | zero =>
      have hr : ordS (prev l 0) (nth l 0) = false := by
        unfold e2S at h2'
        rw [firstZ_nil] at h2'
        have g1 := withinZ_nil.1 (show withinZ (sF (nth l 0)) 1 1000000 = 0 from h2' (r1S (nth l 0)) (by simp))
        have g2 := withinZ_nil.1 (show withinZ (sC (nth l 0)) 0 1000 = 0 from h2' (r2S (nth l 0)) (by simp))
        have p1 : sF (prev l 0) = 0 := rfl
        have p2 : sC (prev l 0) = 1000 := rfl
        unfold ordS leS gtS
        rw [p1, p2, decide_eq_false (by omega), decide_eq_false (by omega)]; rfl
      rw [hr]
      rfl
    | succ i =>
      have hp : pvS l ((i + 1 : Nat) : Int) = prev l (i + 1) := by
        unfold pvS prev
        rw [show IntKind.i64.wrap (((i + 1 : Nat) : Int) - 1) = ((i + 1 : Nat) : Int) - 1 from W_in (by omega) (by omega), show (((i + 1 : Nat) : Int) - 1).toNat = i by omega]
        rfl
      have hi : inP l ((i + 1 : Nat) : Int) = true := by
        unfold inP
        rw [show IntKind.i64.wrap (((i + 1 : Nat) : Int) - 1) = ((i + 1 : Nat) : Int) - 1 from W_in (by omega) (by omega), decide_eq_true (by omega), decide_eq_true (by omega)]; rfl
      rw [hp, hi, show decide (((i + 1 : Nat) : Int) > 0) = true by simp]
      unfold ordS
      cases leS (prev l (i + 1)) (nth l (i + 1)) <;> cases gtS (prev l (i + 1)) (nth l (i + 1)) <;> rfl)

theorem run45 (l : List (Tup stpK)) : ∀ (ws pre : List (Tup stpK)) (b : Tup stpK) (e : Int), l = pre ++ ws → prev l pre.length = b → ∃ p, rgRun 0 (step45 l) ws.length pre.length e = (bif tabF b ws != 0 then X.ret else .exit 0, p) ∧ (tabF b ws ≠ 0 → p.2 = tabF b ws)
  | [], pre, b, e, _, _ => ⟨_, rfl, fun h => absurd rfl h⟩
  | w :: ws, pre, b, e, h, hb => by
    have h1 : nth l pre.length = w := by subst h; simp [nth, List.getD_eq_getElem?_getD]
    have hs : step45 l pre.length e = bif eS b w != 0 then (.ret, eS b w) else (.normal, e) := by unfold step45; rw [h1, hb]
    rw [List.length_cons]
    unfold rgRun tabF
    rw [hs]
    cases hc : (eS b w != 0) with
    | true => exact ⟨((pre.length : Int), eS b w), by simp [hc], fun _ => rfl⟩
    | false =>
      simp only [cond_false]
      have := run45 l ws (pre ++ [w]) w e (by rw [h]; simp) (by
        unfold prev
        rw [List.length_append, List.length_singleton, Nat.add_sub_cancel, h1]
        rfl)
      simpa using this

theorem fn45 (h0 : Lib0 w0) (l : List (Tup stpK)) : FnD (cfg w0) 45 [.vec stpK l] (I (chkTab l)) := by
  unfold chkTab
  have hd := hd_eq l.length
  cases hm : (hdE l.length != 0) with
  | true =>
    refine fnD_t (cfg_ok w0) h0 (cs45_gd h0) (fd := fnOf Tryz.f45) rfl (L := [ldP 0 (fnOf Tryz.f45).ntmps rel45 .normal (st45 l (0, 0))]) (o := []) ((body45 l .normal (0, 0) (.inr rfl)).trans ?_) trivial
    rw [hd] at hm ⊢
    cases h1 : is0 l.length with
    | true => rfl
    | false =>
      cases h2 : is16 l.length with
      | true => rfl
      | false => rw [h1, h2] at hm; cases hm
  | false =>
    have hz := show hdE l.length = 0 by simpa using hm
    have hlen := hd_len hz
    have h1 : is0 l.length = false := by
      cases h1 : is0 l.length with
      | false => rfl
      | true => rw [h1] at hd; rw [hd] at hz; cases hz
    have h2 : is16 l.length = false := by
      cases h2 : is16 l.length with
      | false => rfl
      | true => rw [h1, h2] at hd; rw [hd] at hz; cases hz
    refine fn_rg h0 (cs45_gd h0) (fd := fnOf Tryz.f45) rfl rel45 l.length (by omega) (st45 l) (step45 l) (fun _ _ => True) (a0 := 0) trivial
      (fun j a hj _ => rd45 l (by omega) j a hj) (fun _ _ _ _ _ _ => trivial)
      (fun a _ => .leaf (by rw [round45, ge_f]; rfl)) fun x p hx => ?_
    obtain ⟨q, hq, hq2⟩ := run45 l l [] (s2 0 1000) 0 rfl rfl
    simp only [List.length_nil] at hq
    rw [hq] at hx
    simp only [cond_false]
    cases hc : (tabF (s2 0 1000) l != 0) <;> rw [hc] at hx <;> cases hx
    · rw [show tabF (s2 0 1000) l = 0 by simpa using hc]
      exact (body45 l _ _ (.inr rfl)).trans (by rw [h1, h2]; rfl)
    · rw [← hq2 (by simpa using hc)]
      exact (body45 l _ _ (.inl rfl)).trans (by rw [h1, h2]; rfl)
theorem gd45 (h0 : Lib0 w0) : Gd (cfg w0) (tabC 45) := gd_sig fun a d hd => by cases hd; exact fn45 h0 a.1
end
end Go.Proofs.YtmlglimahbjgbaaGreatDoor

namespace Go.Proofs.YtmlglimahbjgbaaGreatDoor
open Go Go.Am Go.Town
set_option maxRecDepth 100000
variable {w0 : World}
noncomputable section

/-! # Factors -/

noncomputable def facL (d : Int) : Int → List (Tup stpK) → Int
  | out, [] => out
  | out, x :: xs => bif decide (sF x > d) then out else facL d (sC x) xs
noncomputable def upF47 (d out : Int) (x : Tup stpK) : Int := bif decide (sF x ≤ d) then sC x else out
noncomputable def rfac (d out : Int) (l : List (Tup stpK)) : Int := l.foldl (upF47 d) out

theorem tab_cons {b x : Tup stpK} {xs : List (Tup stpK)} (h : tabF b (x :: xs) = 0) : sF b < sF x ∧ (0 ≤ sC x ∧ sC x ≤ 1000) ∧ tabF x xs = 0 := by
  unfold tabF at h
  cases hc : (eS b x != 0) with
  | true => rw [hc] at h; simp only [cond_true] at h; rw [h] at hc; cases hc
  | false =>
    rw [hc] at h
    have he : eS b x = 0 := by simpa using hc
    unfold eS e3S at he
    rw [firstZ_nil] at he
    have h2 := withinZ_nil.1 (show withinZ (sC x) 0 1000 = 0 from he (r2S x) (by simp))
    have h3 := he (whenZ (ordS b x) 11) (by simp)
    refine ⟨?_, h2, h⟩
    cases ho : ordS b x with
    | true => rw [ho] at h3; cases h3
    | false =>
      unfold ordS at ho
      cases hl : leS b x with
      | true => rw [hl] at ho; cases ho
      | false =>
        unfold leS at hl
        simp only [decide_eq_false_iff_not] at hl
        omega

theorem rfac_past {d : Int} : ∀ (xs : List (Tup stpK)) (b : Tup stpK) (out : Int), tabF b xs = 0 → sF b > d → rfac d out xs = out
  | [], _, _, _, _ => rfl
  | x :: xs, b, out, h, hb => by
    obtain ⟨h1, _, h3⟩ := tab_cons h
    show rfac d (upF47 d out x) xs = out
    have : upF47 d out x = out := by unfold upF47; rw [decide_eq_false (by omega)]; rfl
    rw [this]
    exact rfac_past xs x out h3 (by omega)

theorem fac_eq {d : Int} : ∀ (xs : List (Tup stpK)) (b : Tup stpK) (out : Int), tabF b xs = 0 → rfac d out xs = facL d out xs
  | [], _, _, _ => rfl
  | x :: xs, b, out, h => by
    obtain ⟨_, _, h3⟩ := tab_cons h
    unfold facL
    show rfac d (upF47 d out x) xs = _
    unfold upF47
    by_cases hx : sF x ≤ d
    · rw [decide_eq_true hx, decide_eq_false (by omega)]
      exact fac_eq xs x _ h3
    · rw [decide_eq_false hx, decide_eq_true (by omega)]
      exact rfac_past xs x out h3 (by omega)

theorem fac_rng {d : Int} : ∀ (xs : List (Tup stpK)) (b : Tup stpK) (out : Int), tabF b xs = 0 → 0 ≤ out ∧ out ≤ 1000 → 0 ≤ facL d out xs ∧ facL d out xs ≤ 1000
  | [], _, _, _, ho => ho
  | x :: xs, b, out, h, ho => by
    obtain ⟨_, h2, h3⟩ := tab_cons h
    unfold facL
    cases decide (sF x > d) with
    | true => exact ho
    | false => exact fac_rng xs x _ h3 h2

theorem tab_of {t : List (Tup stpK)} (h : chkTab t = 0) : t.length ≤ 16 ∧ tabF (s2 0 1000) t = 0 := by
  unfold chkTab at h
  cases hc : (hdE t.length != 0) with
  | true => rw [hc] at h; simp only [cond_true] at h; rw [h] at hc; cases hc
  | false =>
    rw [hc] at h
    exact ⟨(hd_len (show hdE t.length = 0 by simpa using hc)).2, h⟩

/-! ## factor -/

noncomputable def rel120 : List (Nat × Cv) := [(8, .id), (9, .id), (10, .id), (1, .id), (5, .id)]
noncomputable def st120 (l : List (Tup stpK)) (d : Int) (a : Int × Int) : List D := [.vec stpK l, I l.length, I a.1, I d, I a.2]
noncomputable def pastS (d : Int) (x : Tup stpK) : Bool := decide (sF x > d)
theorem round120 (l : List (Tup stpK)) (d j e : Int) : rndD ((cfg w0).at []) 40 [] 40 (fnOf Tryz.f120).ntmps rel120 (lpB 0 (fnOf Tryz.f120).body) (st120 l d (j, e)) =
    bif decide (j < l.length) then
      bif (Nat.beq 2 2 && (decide (0 ≤ j) && decide (j < l.length))) then
        bif pastS d (nth l j.toNat) then some ([], .exit 0, st120 l d (j, e)) else some ([], .normal, st120 l d (W (j + 1), sC (nth l j.toNat)))
      else none
    else some ([], .exit 0, st120 l d (j, e)) := by kernel_rfl
theorem body120 (l : List (Tup stpK)) (d : Int) (p : Int × Int) : bodyT ((cfg w0).at []) 40 [ldP 0 (fnOf Tryz.f120).ntmps rel120 .normal (st120 l d p)] 40 (fnOf Tryz.f120) [.vec stpK l, I d] =
    some ([(ldP 0 (fnOf Tryz.f120).ntmps rel120 .normal (st120 l d p), .loop (lpB 0 (fnOf Tryz.f120).body), st120 l d (0, 1000))], I p.2) := by kernel_rfl

theorem run120 (d : Int) : ∀ (xs : List (Tup stpK)) (i : Nat) (out : Int), ∃ q, lsRun 0 (fun x a => bif pastS d x then (X.exit 0, a) else (.normal, sC x)) xs i out = (.exit 0, (q, facL d out xs))
  | [], i, out => ⟨_, rfl⟩
  | x :: xs, i, out => by
    unfold lsRun facL pastS
    cases hc : decide (sF x > d) with
    | true => exact ⟨_, rfl⟩
    | false => exact run120 d xs (i + 1) (sC x)

theorem fn120 (h0 : Lib0 w0) (l : List (Tup stpK)) (d : Int) (hg : l.length ≤ 100000) : FnD (cfg w0) 120 [.vec stpK l, I d] (I (facL d 1000 l)) := by
  refine fn_ls h0 (cs := []) trivial (fd := fnOf Tryz.f120) rfl rel120 l (by omega) (st120 l d) (fun x a => bif pastS d x then (X.exit 0, a) else (.normal, sC x)) (fun _ _ => True) (a0 := 1000) trivial
    (fun j a hj _ => .leaf (by
      rw [round120, inb 2 hj, lt_t hj, Int.toNat_natCast]
      cases pastS d (nth l j) <;> rfl)) (fun _ _ _ _ _ _ => trivial)
    (fun a _ => .leaf (by rw [round120, ge_f]; rfl)) fun x p hx => ?_
  obtain ⟨q, hq⟩ := run120 d l 0 1000
  rw [hq] at hx
  cases hx
  exact body120 l d _
noncomputable def c120 : Ct := ct 120 [.v stpK, .c ik] fun a => .br (Nat.ble (a.1 : List (Tup stpK)).length 100000) (.leaf (I (facL a.2.1 1000 a.1))) .bad
theorem gd120 (h0 : Lib0 w0) : Gd (cfg w0) c120 := gd_sig fun a d hd => by
  obtain ⟨hg, hd⟩ := br_run hd
  cases hd
  exact fn120 h0 a.1 a.2.1 (Nat.le_of_ble_eq_true hg)

/-! ## The reference's Factor -/

noncomputable def rel47 : List (Nat × Cv) := [(0, .id), (6, .id), (1, .id), (5, .id)]
noncomputable def st47 (l : List (Tup stpK)) (d : Int) (a : Int × Int) : List D := [.vec stpK l, I a.1, I d, I a.2]
noncomputable def inD (d : Int) (x : Tup stpK) : Bool := decide (sF x ≤ d)
theorem round47 (l : List (Tup stpK)) (d j e : Int) : rndD ((cfg w0).at []) 40 [] 40 (fnOf Tryz.f47).ntmps rel47 (lpB 0 (fnOf Tryz.f47).body) (st47 l d (j, e)) =
    bif decide (j < l.length) then
      bif (Nat.beq 2 2 && (decide (0 ≤ j) && decide (j < l.length))) then
        bif inD d (nth l j.toNat) then
          bif (Nat.beq 2 2 && (decide (0 ≤ j) && decide (j < l.length))) then some ([], .normal, st47 l d (W (j + 1), sC (nth l j.toNat))) else none
        else some ([], .normal, st47 l d (W (j + 1), e))
      else none
    else some ([], .exit 0, st47 l d (j, e)) := by kernel_rfl
theorem body47 (l : List (Tup stpK)) (d : Int) (p : Int × Int) : bodyT ((cfg w0).at []) 40 [ldP 0 (fnOf Tryz.f47).ntmps rel47 .normal (st47 l d p)] 40 (fnOf Tryz.f47) [.vec stpK l, I d] =
    some ([(ldP 0 (fnOf Tryz.f47).ntmps rel47 .normal (st47 l d p), .loop (lpB 0 (fnOf Tryz.f47).body), st47 l d (0, 1000))], I p.2) := by kernel_rfl
theorem fn47 (h0 : Lib0 w0) (l : List (Tup stpK)) (d : Int) (hg : l.length ≤ 100000) : FnD (cfg w0) 47 [.vec stpK l, I d] (I (rfac d 1000 l)) := by
  refine fn_ls h0 (cs := []) trivial (fd := fnOf Tryz.f47) rfl rel47 l (by omega) (st47 l d) (fun x a => (X.normal, upF47 d a x)) (fun _ _ => True) (a0 := 1000) trivial
    (fun j a hj _ => .leaf (by
      rw [round47, inb 2 hj, lt_t hj, Int.toNat_natCast]
      unfold upF47 inD
      cases decide (sF (nth l j) ≤ d) <;> rfl)) (fun _ _ _ _ _ _ => trivial)
    (fun a _ => .leaf (by rw [round47, ge_f]; rfl)) fun x p hx => ?_
  rw [lsRun_fold (h := fun x b => upF47 d b x) 0 l 0 1000 (fun _ _ _ => rfl)] at hx
  cases hx
  exact body47 l d _
noncomputable def tabB (l : List (Tup stpK)) : Bool := chkTab l == 0
noncomputable def c47 : Ct := ct 47 [.v stpK, .c ik] fun a => .br (tabB a.1) (.leaf (I (facL a.2.1 1000 a.1))) .bad
theorem gd47 (h0 : Lib0 w0) : Gd (cfg w0) c47 := gd_sig fun a d hd => by
  obtain ⟨hg, hd⟩ := br_run hd
  cases hd
  obtain ⟨h1, h2⟩ := tab_of (t := a.1) (by unfold tabB at hg; simpa using hg)
  have := fn47 h0 a.1 a.2.1 (by omega)
  have e : rfac a.2.1 1000 a.1 = facL a.2.1 1000 a.1 := fac_eq a.1 (s2 0 1000) 1000 h2
  exact e ▸ this

/-! ## Factor -/

noncomputable def cs41 : List Ct := [tabC 50, ⟨115, tG (intsF withinK)⟩, ⟨98, tG firstF⟩, c120]
theorem cs41_gd (h0 : Lib0 w0) : Gds (cfg w0) cs41 := ⟨gd50 h0, gd_of (within_good h0), gd_of (first_good h0), gd120 h0, trivial⟩
noncomputable def e41 (t : List (Tup stpK)) (d : Int) : Int := firstZ [chkTab t, withinZ d 0 1000000]
noncomputable def orI (e x : Int) : Int := bif e != 0 then 0 else x
theorem fn41 (h0 : Lib0 w0) (t : List (Tup stpK)) (d : Int) : FnD (cfg w0) 41 [.vec stpK t, I d] (.tup [I (orI (e41 t d) (facL d 1000 t)), I (e41 t d)]) :=
  fnD_k (cfg_ok w0) h0 (cs41_gd h0) (fd := fnOf Tryz.f41) rfl (n := 60) ((show bodyK ((cfg w0).at cs41) 60 (fnOf Tryz.f41) [.vec stpK t, I d] =
    bif e41 t d != 0 then some (.tup [I 0, I (e41 t d)]) else bif Nat.ble t.length 100000 then some (.tup [I (facL d 1000 t), I 0]) else none by kernel_rfl).trans (by
      unfold orI
      cases hc : (e41 t d != 0) with
      | true => rfl
      | false =>
        have hz : e41 t d = 0 := by simpa using hc
        have hz' := hz
        unfold e41 at hz'
        rw [firstZ_nil] at hz'
        have := tab_of (hz' (chkTab t) (by simp))
        rw [Nat.ble_eq_true_of_le (show t.length ≤ 100000 by omega), hz]; rfl))
noncomputable def c41 : Ct := ct 41 [.v stpK, .c ik] fun a => .leaf (.tup [I (orI (e41 a.1 a.2.1) (facL a.2.1 1000 a.1)), I (e41 a.1 a.2.1)])
theorem gd41 (h0 : Lib0 w0) : Gd (cfg w0) c41 := gd_sig fun a d hd => by cases hd; exact fn41 h0 a.1 a.2.1

/-! ## times -/

noncomputable def enB (e f : Int) : Bool := (decide (0 ≤ e) && decide (e ≤ 10000000000000)) && (decide (0 ≤ f) && decide (f ≤ 1000))
theorem enB_iff {e f : Int} : enB e f = true ↔ (0 ≤ e ∧ e ≤ 10000000000000) ∧ (0 ≤ f ∧ f ≤ 1000) := by simp [enB]
noncomputable def tmL (e f : Int) : Int := e * f / 1000
noncomputable def tmH (e f : Int) : Int := ceilZ (e * f) 1000
noncomputable def tm (e f : Int) : Tup iv2 := pr2 (tmL e f) (tmH e f)

theorem ef_in {e f : Int} (h : enB e f = true) : 0 ≤ e * f ∧ e * f ≤ 10000000000000000 ∧ W (e * f) = e * f ∧ quoG (e * f) 1000 = true := by
  obtain ⟨⟨h1, h2⟩, h3, h4⟩ := enB_iff.1 h
  have g1 : 0 ≤ e * f := Int.mul_nonneg h1 h3
  have g2 : e * f ≤ 10000000000000 * 1000 := Int.mul_le_mul h2 h4 h3 (by omega)
  refine ⟨g1, by omega, W_in (by omega) (by omega), ?_⟩
  rw [quoG_iff, rng_iff, rng_iff]
  omega

noncomputable def cs124 : List Ct := [⟨165, tG upF⟩]
theorem fn124 (h0 : Lib0 w0) (e f : Int) (h : enB e f = true) : FnD (cfg w0) 124 [I e, I f] (pair (tm e f)) :=
  fnD_k (cfg_ok w0) h0 (cs := cs124) ⟨gd_of (up_good h0), trivial⟩ (fd := fnOf Tryz.f124) rfl (n := 40) ((show bodyK ((cfg w0).at cs124) 40 (fnOf Tryz.f124) [I e, I f] =
    bif quoG (W (e * f)) 1000 then some (pair (pr2 (W ((W (e * f)).tdiv 1000)) (ceilZ (W (e * f)) 1000))) else none by kernel_rfl).trans (by
      obtain ⟨h1, h2, h3, h4⟩ := ef_in h
      rw [h3, h4, Int.tdiv_eq_ediv_of_nonneg h1, W_in (n := e * f / 1000) (by omega) (by omega)]
      rfl))
noncomputable def tmC (g : Nat) : Ct := ct g [.c ik, .c ik] fun a => .br (enB a.1 a.2.1) (.leaf (pair (tm a.1 a.2.1))) .bad
theorem gd124 (h0 : Lib0 w0) : Gd (cfg w0) (tmC 124) := gd_sig fun a d hd => by
  obtain ⟨hg, hd⟩ := br_run hd
  cases hd
  exact fn124 h0 a.1 a.2.1 hg
noncomputable def cs127 : List Ct := [⟨166, tG (intsF floorK)⟩, ⟨114, tG (intsF ceilK)⟩]
theorem fn127 (h0 : Lib0 w0) (e f : Int) (h : enB e f = true) : FnD (cfg w0) 127 [I e, I f] (pair (tm e f)) :=
  fnD_k (cfg_ok w0) h0 (cs := cs127) ⟨gd_of (floor_good h0), gd_of (ceil_good h0), trivial⟩ (fd := fnOf Tryz.f127) rfl (n := 40) ((show bodyK ((cfg w0).at cs127) 40 (fnOf Tryz.f127) [I e, I f] =
    bif quoG (W (e * f)) 1000 then bif quoG (W (e * f)) 1000 then some (pair (pr2 (W (e * f) / 1000) (ceilZ (W (e * f)) 1000))) else none else none by kernel_rfl).trans (by
      obtain ⟨h1, h2, h3, h4⟩ := ef_in h
      rw [h3, h4]
      rfl))
theorem gd127 (h0 : Lib0 w0) : Gd (cfg w0) (tmC 127) := gd_sig fun a d hd => by
  obtain ⟨hg, hd⟩ := br_run hd
  cases hd
  exact fn127 h0 a.1 a.2.1 hg

/-! ## Screened -/

noncomputable def agP (s r : Tup v3K) : D := .agg [I s.1, I s.2.1, I s.2.2.1, I r.1, I r.2.1, I r.2.2.1]
abbrev p6K : List Kd := [ik, ik, ik, ik, ik, ik]
noncomputable def pa1 (p : Tup p6K) : Tup v3K := (p.1, p.2.1, p.2.2.1, ())
noncomputable def pa2 (p : Tup p6K) : Tup v3K := (p.2.2.2.1, p.2.2.2.2.1, p.2.2.2.2.2.1, ())
noncomputable def eH (l : List (Tup wallK)) (t : List (Tup stpK)) (s r : Tup v3K) (en : Int) : Int := firstZ [chkAllW l, chkTab t, pChk s, pChk r, withinZ en 0 10000000000000]
noncomputable def cs121 : List Ct := [checkC 38, tabC 50, ⟨104, tG checkSpotF⟩, ⟨115, tG (intsF withinK)⟩, ⟨98, tG firstF⟩]
theorem cs121_gd (h0 : Lib0 w0) : Gds (cfg w0) cs121 := ⟨gd38 h0, gd50 h0, gd_of (checkSpot_good h0), gd_of (within_good h0), gd_of (first_good h0), trivial⟩
theorem fn121 (h0 : Lib0 w0) (l : List (Tup wallK)) (t : List (Tup stpK)) (s r : Tup v3K) (en : Int) : FnD (cfg w0) 121 [.vec wallK l, .vec stpK t, agP s r, I en] (I (eH l t s r en)) :=
  fnD_k (cfg_ok w0) h0 (cs121_gd h0) (fd := fnOf Tryz.f121) rfl (n := 60) (show bodyK ((cfg w0).at cs121) 60 (fnOf Tryz.f121) [.vec wallK l, .vec stpK t, agP s r, I en] = some (I (eH l t s r en)) by kernel_rfl)
noncomputable def c121 : Ct := ct 121 [.v wallK, .v stpK, .b p6K, .c ik] fun a => .leaf (I (eH a.1 a.2.1 (pa1 a.2.2.1) (pa2 a.2.2.1) a.2.2.2.1))
theorem gd121 (h0 : Lib0 w0) : Gd (cfg w0) c121 := gd_sig fun a d hd => by cases hd; exact fn121 h0 a.1 a.2.1 (pa1 a.2.2.1) (pa2 a.2.2.1) a.2.2.2.1

noncomputable def sumD (l : List (Tup wallK)) (s r : Tup v3K) : Int := sumT (l.map (depE s r))
noncomputable def scr (l : List (Tup wallK)) (t : List (Tup stpK)) (s r : Tup v3K) (en : Int) : Tup iv2 := tm en (facL (sumD l s r) 1000 t)
noncomputable def vH (l : List (Tup wallK)) (t : List (Tup stpK)) (s r : Tup v3K) (en : Int) : Bool := eH l t s r en == 0
noncomputable def allW (l : List (Tup wallK)) (s r : Tup v3K) : Bool := Nat.ble l.length 100000 && l.all (okW s r)

structure OkH (l : List (Tup wallK)) (t : List (Tup stpK)) (s r : Tup v3K) (en : Int) : Prop where
  cl : chkAllW l = 0
  ct : chkTab t = 0
  hs : pChk s = 0
  hr : pChk r = 0
  he : 0 ≤ en ∧ en ≤ 10000000000000
  all : allW l s r = true
  tl : t.length ≤ 16
  ll : l.length ≤ 32
  fc : ∀ d, enB en (facL d 1000 t) = true

theorem vH_ok {l : List (Tup wallK)} {t : List (Tup stpK)} {s r : Tup v3K} {en : Int} (h : vH l t s r en = true) : OkH l t s r en := by
  have hz : eH l t s r en = 0 := by simpa [vH] using h
  unfold eH at hz
  rw [firstZ_nil] at hz
  have cl := hz (chkAllW l) (by simp)
  have ct := hz (chkTab t) (by simp)
  have hs := hz (pChk s) (by simp)
  have hr := hz (pChk r) (by simp)
  have he := withinZ_nil.1 (hz (withinZ en 0 10000000000000) (by simp))
  have hall := ok_all (l := l) (s := s) (r := r) (by unfold e30; rw [cl, hs, hr]; rfl)
  obtain ⟨tl, tt⟩ := tab_of ct
  refine ⟨cl, ct, hs, hr, he, ?_, tl, hall.1, fun d => ?_⟩
  · unfold allW
    rw [Nat.ble_eq_true_of_le (show l.length ≤ 100000 by omega), hall.2]; rfl
  · rw [enB_iff]
    exact ⟨he, fac_rng t (s2 0 1000) 1000 tt (by omega)⟩

noncomputable def cs122 : List Ct := [c118, c120, tmC 124]
theorem cs122_gd (h0 : Lib0 w0) : Gds (cfg w0) cs122 := ⟨gd118 h0, gd120 h0, gd124 h0, trivial⟩
theorem fn122 (h0 : Lib0 w0) (l : List (Tup wallK)) (t : List (Tup stpK)) (s r : Tup v3K) (en : Int) (h : vH l t s r en = true) : FnD (cfg w0) 122 [.vec wallK l, .vec stpK t, agP s r, I en] (pair (scr l t s r en)) :=
  fnD_k (cfg_ok w0) h0 (cs122_gd h0) (fd := fnOf Tryz.f122) rfl (n := 60) ((show bodyK ((cfg w0).at cs122) 60 (fnOf Tryz.f122) [.vec wallK l, .vec stpK t, agP s r, I en] =
    bif allW l s r then bif Nat.ble t.length 100000 then bif enB en (facL (sumD l s r) 1000 t) then some (pair (scr l t s r en)) else none else none else none by kernel_rfl).trans (by
      have O := vH_ok h
      rw [O.all, Nat.ble_eq_true_of_le (show t.length ≤ 100000 by have := O.tl; omega), O.fc]; rfl))
noncomputable def c122 : Ct := ct 122 [.v wallK, .v stpK, .b p6K, .c ik] fun a => .br (vH a.1 a.2.1 (pa1 a.2.2.1) (pa2 a.2.2.1) a.2.2.2.1) (.leaf (pair (scr a.1 a.2.1 (pa1 a.2.2.1) (pa2 a.2.2.1) a.2.2.2.1))) .bad
theorem gd122 (h0 : Lib0 w0) : Gd (cfg w0) c122 := gd_sig fun a d hd => by
  obtain ⟨hg, hd⟩ := br_run hd
  cases hd
  exact fn122 h0 a.1 a.2.1 (pa1 a.2.2.1) (pa2 a.2.2.1) a.2.2.2.1 hg

noncomputable def or2e (e : Int) (x : Tup iv2) : Tup iv2 := pr2 (orI e x.1) (orI e x.2.1)
noncomputable def cs43 : List Ct := [c121, c122]
theorem fn43 (h0 : Lib0 w0) (l : List (Tup wallK)) (t : List (Tup stpK)) (s r : Tup v3K) (en : Int) : FnD (cfg w0) 43 [.vec wallK l, .vec stpK t, agP s r, I en] (.tup [pair (or2e (eH l t s r en) (scr l t s r en)), I (eH l t s r en)]) :=
  fnD_k (cfg_ok w0) h0 (cs := cs43) ⟨gd121 h0, gd122 h0, trivial⟩ (fd := fnOf Tryz.f43) rfl (n := 60) ((show bodyK ((cfg w0).at cs43) 60 (fnOf Tryz.f43) [.vec wallK l, .vec stpK t, agP s r, I en] =
    bif eH l t s r en != 0 then some (.tup [pair z2, I (eH l t s r en)]) else bif vH l t s r en then some (.tup [pair (scr l t s r en), I 0]) else none by kernel_rfl).trans (by
      unfold or2e orI
      cases hc : (eH l t s r en != 0) with
      | true => rfl
      | false =>
        have hz : eH l t s r en = 0 := by simpa using hc
        have hv : vH l t s r en = true := by unfold vH; rw [hz]; rfl
        rw [hv, hz]; rfl))
noncomputable def c43 : Ct := ct 43 [.v wallK, .v stpK, .b p6K, .c ik] fun a => .leaf (.tup [pair (or2e (eH a.1 a.2.1 (pa1 a.2.2.1) (pa2 a.2.2.1) a.2.2.2.1) (scr a.1 a.2.1 (pa1 a.2.2.1) (pa2 a.2.2.1) a.2.2.2.1)), I (eH a.1 a.2.1 (pa1 a.2.2.1) (pa2 a.2.2.1) a.2.2.2.1)])
theorem gd43 (h0 : Lib0 w0) : Gd (cfg w0) c43 := gd_sig fun a d hd => by cases hd; exact fn43 h0 a.1 a.2.1 (pa1 a.2.2.1) (pa2 a.2.2.1) a.2.2.2.1

/-! ## The reference's Screened -/

noncomputable def cs48 : List Ct := [c37, c47, tmC 127]
theorem cs48_gd (h0 : Lib0 w0) : Gds (cfg w0) cs48 := ⟨gd37 h0, gd47 h0, gd127 h0, trivial⟩
theorem fn48 (h0 : Lib0 w0) (l : List (Tup wallK)) (t : List (Tup stpK)) (s r : Tup v3K) (en : Int) (h : vH l t s r en = true) : FnD (cfg w0) 48 [.vec wallK l, .vec stpK t, vec3 s, vec3 r, I en] (pair (scr l t s r en)) :=
  fnD_k (cfg_ok w0) h0 (cs48_gd h0) (fd := fnOf Tryz.f48) rfl (n := 60) ((show bodyK ((cfg w0).at cs48) 60 (fnOf Tryz.f48) [.vec wallK l, .vec stpK t, vec3 s, vec3 r, I en] =
    bif allW l s r then bif tabB t then bif enB en (facL (sumD l s r) 1000 t) then some (pair (scr l t s r en)) else none else none else none by kernel_rfl).trans (by
      have O := vH_ok h
      have : tabB t = true := by unfold tabB; rw [O.ct]; rfl
      rw [O.all, this, O.fc]; rfl))
noncomputable def c48 : Ct := ct 48 [.v wallK, .v stpK, .b v3K, .b v3K, .c ik] fun a => .br (vH a.1 a.2.1 a.2.2.1 a.2.2.2.1 a.2.2.2.2.1) (.leaf (pair (scr a.1 a.2.1 a.2.2.1 a.2.2.2.1 a.2.2.2.2.1))) .bad
theorem gd48 (h0 : Lib0 w0) : Gd (cfg w0) c48 := gd_sig fun a d hd => by
  obtain ⟨hg, hd⟩ := br_run hd
  cases hd
  exact fn48 h0 a.1 a.2.1 a.2.2.1 a.2.2.2.1 a.2.2.2.2.1 hg
end
end Go.Proofs.YtmlglimahbjgbaaGreatDoor
