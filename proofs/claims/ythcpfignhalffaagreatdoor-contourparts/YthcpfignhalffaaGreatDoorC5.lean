/-
 A part of the proof of the statement that the claim names: see the last file.
-/
import Derived.Test.YthcpfignhalffaaGreatDoorC4
namespace Go.Proofs.YthcpfignhalffaaGreatDoor
open Go Go.Am Go.RowKit
set_option maxRecDepth 100000
theorem digs_eq : ∀ (f n : Nat) (acc : List UInt8), n < 10 ^ (f + 1) → digs (f + 1) n acc = Lib.decDigits n ++ acc
 | 0, n, acc, h => by
   unfold digs
   rw [Lib.decDigits]
   have hn : n < 10 := by simpa using h
   have hb : Nat.blt n 10 = true := by rw [Nat.blt_eq]; exact hn
   rw [hb, dif_pos hn]; rfl
 | f + 1, n, acc, h => by
   unfold digs
   rw [Lib.decDigits]
   split
   ·rename_i hb
    rw [Nat.blt_eq] at hb
    rw [dif_pos hb]; rfl
   ·rename_i hb
    have hb' : ¬ n < 10 := fun h => by rw [← Nat.blt_eq] at h; rw [hb] at h; cases h
    rw [dif_neg hb', digs_eq f (n / 10) _ (by rw [Nat.pow_succ] at h; omega)]
    simp
theorem itoaL_eq {n : Int} (h1 : -9223372036854775808 ≤ n) (h2 : n ≤ 9223372036854775807) : itoaL n = Lib.itoa n := by
 unfold Lib.itoa
 have e20 : (10 : Nat) ^ 20 = 100000000000000000000 := by decide
 cases n with
 | ofNat m =>
   have hm : ¬ ((Int.ofNat m : Int) < 0) := by simp
   rw [if_neg hm]
   show digs 20 m [] = _
   rw [digs_eq 19 m [] (by rw [e20]; have : (m : Int) ≤ 9223372036854775807 := h2; omega)]
   simp
 | negSucc m =>
   have hm : (Int.negSucc m : Int) < 0 := Int.negSucc_lt_zero m
   rw [if_pos hm]
   show 45 :: digs 20 (m + 1) [] = _
   rw [digs_eq 19 (m + 1) [] (by rw [e20]; have : -9223372036854775808 ≤ Int.negSucc m := h1; omega)]
   simp
theorem below_grow (w : World) (k : Nat) (os : Array Obj) : Below w.heap.size w (Go.Sort.grow (w.drewN k) os) :=
 ⟨rfl, rfl, rfl, by simp [Go.Sort.grow], fun i hi => by simp [Go.Sort.grow, Array.getElem?_append, hi]⟩
theorem itoa_fn {w0 : World} (hT : ∀ w : World, (∀ k, k < 8 → w.heap[k]? = w0.heap[k]?) → ∀ n : Int, -9223372036854775808 ≤ n → n ≤ 9223372036854775807 →
  Calls Tryz.prog 189 #[.int .i64 n] w fun e w' => e = .returned (.string ⟨(Lib.itoa n).toArray⟩) ∧ ∃ k os, w' = Go.Sort.grow (w.drewN k) os) (ds : List D) (d : D) (h : itoaF ds = some d) : FnD (cfg w0) 189 ds d := by
 unfold itoaF at h
 split at h
 ·rename_i n
  split at h
  ·rename_i hb
   simp only [Bool.and_eq_true, decide_eq_true_eq] at hb
   cases h
   refine FnD.scal (vs := [.int .i64 n]) (by simp [scal]) rfl fun w hw => ?_
   refine (hT w (fun k hk => hw.1.2 k hk) n hb.1 hb.2).mono fun e w' ⟨h1, k, os, h2⟩ => ⟨?_, ?_⟩
   ·rw [itoaL_eq hb.1 hb.2]; exact h1
   ·rw [h2]; exact below_grow w k os
  ·cases h
 ·cases h
theorem strsOf_inv : ∀ {ds : List D} {ss : List ByteArray}, strsOf ds = some ss → ds = ss.map fun x => .val (.string x)
 | [], ss, h => by simp [strsOf] at h; subst h; rfl
 | d :: ds, ss, h => by
   unfold strsOf at h
   split at h
   ·rename_i e; cases e
   ·rename_i s ds' e
    cases e
    cases hr : strsOf ds with
    | none => simp [hr] at h
    | some ts =>
      simp [hr] at h
      subst h
      rw [strsOf_inv hr]; rfl
   ·cases h
theorem joinB_eq (sep : List UInt8) : ∀ (xs : List (List UInt8)), joinB sep xs = Lib.join xs sep
 | [] => rfl
 | [x] => by rw [Lib.join_one]; rfl
 | x :: y :: r => by
   rw [Lib.join_cons]
   show x ++ (sep ++ joinB sep (y :: r)) = _
   rw [joinB_eq sep (y :: r), Lib.join_cons]
   simp [Lib.joinTail]
theorem join_fn {w0 : World} (ds : List D) (d : D) (h : joinF ds = some d) : FnD (cfg w0) 187 ds d := by
 unfold joinF at h
 split at h
 ·rename_i n sz cs sep
  cases hs : strsOf cs with
  | none => simp [hs] at h
  | some ss =>
    simp only [hs] at h
    split at h
    ·rename_i hb
     simp only [Bool.and_eq_true, Nat.beq_eq, Nat.ble_eq] at hb
     obtain ⟨⟨⟨e1, e2⟩, e3⟩, e4⟩ := hb
     cases h
     rw [strsOf_inv hs, e1, e2]
     intro w args hw himp
     obtain ⟨bk, o, cap, ea, hbk, hcap, hcells⟩ := imps_strs hw (sep := .string sep) rfl himp
     have ea : args = #[.slice (some ⟨bk, o, none⟩) ss.length cap, .string sep] := by rw [← Array.toArray_toList (xs := args), ea]
     rw [ea]
     have hj : joinL sep ss = Lib.join (ss.map (·.data.toList)) sep.data.toList := joinB_eq _ _
     rw [hj] at e4 ⊢
     exact (Tryz.strings_Join bk o cap ss sep w hcells hbk (by omega) hcap (by omega)).mono fun e w' ⟨h1, h2⟩ => ⟨_, h1, give_below h2 rfl⟩
    ·cases h
 ·cases h
theorem lib0 {w0 : World} (hT : ∀ w : World, (∀ k, k < 8 → w.heap[k]? = w0.heap[k]?) → ∀ n : Int, -9223372036854775808 ≤ n → n ≤ 9223372036854775807 →
  Calls Tryz.prog 189 #[.int .i64 n] w fun e w' => e = .returned (.string ⟨(Lib.itoa n).toArray⟩) ∧ ∃ k os, w' = Go.Sort.grow (w.drewN k) os) : Lib0 w0 := by
 refine ⟨fun g Fn hm ds d hd => ?_, fun g Fn hm => ?_, fun g Fn hm => ?_, fun g Fn hm => ?_⟩
 ·have hm : modeF g = .spec Fn := hm
  unfold modeF at hm
  split at hm
  ·rename_i e; rw [Nat.beq_eq] at e; cases hm; rw [e]; exact join_fn ds d hd
  ·split at hm
   ·rename_i e; rw [Nat.beq_eq] at e; cases hm; rw [e]; exact itoa_fn hT ds d hd
   ·split at hm <;> cases hm
 ·have hm : modeF g = .specG Fn := hm
  unfold modeF at hm
  split at hm
  ·cases hm
  ·split at hm
   ·cases hm
   ·split at hm <;> cases hm
 ·have hm : modeF g = .specT Fn := hm
  unfold modeF at hm
  split at hm
  ·cases hm
  ·split at hm
   ·cases hm
   ·split at hm <;> cases hm
 ·have hm : modeF g = .specH Fn := hm
  unfold modeF at hm
  split at hm
  ·cases hm
  ·split at hm
   ·cases hm
   ·split at hm <;> cases hm
end Go.Proofs.YthcpfignhalffaaGreatDoor
namespace Go.Proofs.YthcpfignhalffaaGreatDoor
open Go Go.Am
set_option maxRecDepth 100000
variable {w0 : World}
noncomputable section
theorem gd_k (h0 : Lib0 w0) {cs : List Ct} (hcs : Gds (cfg w0) cs) {g : Nat} {ss : List Sh} {F : ArgT ss → FT D} {fd : AFn} (hfd : fnTr.get g = some fd) {n : Nat} (h : ∀ a d, (F a).run = some d → bodyK ((cfg w0).at cs) n fd (toShs ss a) = some d) : Gd (cfg w0) (ct g ss F) :=
 gd_body (cfg_ok w0) h0 hcs hfd h
abbrev W (n : Int) : Int := IntKind.i64.wrap n
def whenZ (b : Bool) (e : Int) : Int := bif b then e else 0
def withinZ (n lo hi : Int) : Int := whenZ (decide (n < lo) || decide (n > hi)) 3
def cmpZ (p q : Int) : Int := bif decide (p < q) then -1 else bif decide (q < p) then 1 else 0
abbrev boK : Kd := .bool
def whenC (g : Nat) : Ct := ct g [.c boK, .c ik] fun a => .leaf (I (whenZ a.1 a.2.1))
def withinC (g : Nat) : Ct := ct g [.c ik, .c ik, .c ik] fun a => .leaf (I (withinZ a.1 a.2.1 a.2.2.1))
def rangeC (g : Nat) (lo hi : Int) : Ct := ct g [.c ik] fun a => .leaf (I (withinZ a.1 lo hi))
theorem when_t {b : Bool} {e : Int} : (bif b then some (I e) else some (I 0)) = some (I (whenZ b e)) := by cases b <;> rfl
theorem within_t {n lo hi : Int} : (bif decide (n < lo) then some (I 3) else bif decide (n > hi) then some (I 3) else some (I 0)) = some (I (withinZ n lo hi)) := by
 unfold withinZ whenZ
 cases decide (n < lo) <;> cases decide (n > hi) <;> rfl
theorem gd132 (h0 : Lib0 w0) : Gd (cfg w0) (whenC 132) := gd_k h0 (cs := []) trivial (fd := fnOf Tryz.f132) rfl (n := 40) fun a d hd => by
 obtain ⟨b, e, u⟩ := a; cases hd
 have : bodyK ((cfg w0).at []) 40 (fnOf Tryz.f132) [Bo b, I e] = bif b then some (I e) else some (I 0) := by kernel_rfl
 exact this.trans when_t
theorem gd49 (h0 : Lib0 w0) : Gd (cfg w0) (whenC 49) := gd_k h0 (cs := []) trivial (fd := fnOf Tryz.f49) rfl (n := 40) fun a d hd => by
 obtain ⟨b, e, u⟩ := a; cases hd
 have : bodyK ((cfg w0).at []) 40 (fnOf Tryz.f49) [Bo b, I e] = bif b then some (I e) else some (I 0) := by kernel_rfl
 exact this.trans when_t
theorem gd219 (h0 : Lib0 w0) : Gd (cfg w0) (whenC 219) := gd_k h0 (cs := []) trivial (fd := fnOf Tryz.f219) rfl (n := 40) fun a d hd => by
 obtain ⟨b, e, u⟩ := a; cases hd
 have : bodyK ((cfg w0).at []) 40 (fnOf Tryz.f219) [Bo b, I e] = bif b then some (I e) else some (I 0) := by kernel_rfl
 exact this.trans when_t
theorem gd107 (h0 : Lib0 w0) : Gd (cfg w0) (withinC 107) := gd_k h0 (cs := []) trivial (fd := fnOf Tryz.f107) rfl (n := 40) fun a d hd => by
 obtain ⟨n, lo, hi, u⟩ := a; cases hd
 have key : ∀ n lo hi : Int, bodyK ((cfg w0).at []) 40 (fnOf Tryz.f107) [I n, I lo, I hi] = bif decide (n < lo) then some (I 3) else bif decide (n > hi) then some (I 3) else some (I 0) := fun n lo hi => by kernel_rfl
 exact (key n lo hi).trans within_t
theorem gd186 (h0 : Lib0 w0) : Gd (cfg w0) (withinC 186) := gd_k h0 (cs := []) trivial (fd := fnOf Tryz.f186) rfl (n := 40) fun a d hd => by
 obtain ⟨n, lo, hi, u⟩ := a; cases hd
 have key : ∀ n lo hi : Int, bodyK ((cfg w0).at []) 40 (fnOf Tryz.f186) [I n, I lo, I hi] = bif decide (n < lo) then some (I 3) else bif decide (n > hi) then some (I 3) else some (I 0) := fun n lo hi => by kernel_rfl
 exact (key n lo hi).trans within_t
theorem gd68 (h0 : Lib0 w0) : Gd (cfg w0) (withinC 68) := gd_k h0 (cs := []) trivial (fd := fnOf Tryz.f68) rfl (n := 40) fun a d hd => by
 obtain ⟨n, lo, hi, u⟩ := a; cases hd
 have key : ∀ n lo hi : Int, bodyK ((cfg w0).at []) 40 (fnOf Tryz.f68) [I n, I lo, I hi] = bif decide (n < lo) then some (I 3) else bif decide (n > hi) then some (I 3) else some (I 0) := fun n lo hi => by kernel_rfl
 exact (key n lo hi).trans within_t
abbrev maxE : Int := 10000000000000
abbrev maxL : Int := 120
theorem gd148 (h0 : Lib0 w0) : Gd (cfg w0) (rangeC 148 0 maxE) := gd_k h0 (cs := []) trivial (fd := fnOf Tryz.f148) rfl (n := 40) fun a d hd => by
 obtain ⟨n, u⟩ := a; cases hd
 have key : ∀ n : Int, bodyK ((cfg w0).at []) 40 (fnOf Tryz.f148) [I n] = bif decide (n < 0) then some (I 3) else bif decide (n > maxE) then some (I 3) else some (I 0) := fun n => by kernel_rfl
 exact (key n).trans within_t
theorem gd110 (h0 : Lib0 w0) : Gd (cfg w0) (rangeC 110 0 maxE) := gd_k h0 (cs := []) trivial (fd := fnOf Tryz.f110) rfl (n := 40) fun a d hd => by
 obtain ⟨n, u⟩ := a; cases hd
 have key : ∀ n : Int, bodyK ((cfg w0).at []) 40 (fnOf Tryz.f110) [I n] = bif decide (n < 0) then some (I 3) else bif decide (n > maxE) then some (I 3) else some (I 0) := fun n => by kernel_rfl
 exact (key n).trans within_t
theorem gd100 (h0 : Lib0 w0) : Gd (cfg w0) (rangeC 100 0 maxL) := gd_k h0 (cs := []) trivial (fd := fnOf Tryz.f100) rfl (n := 40) fun a d hd => by
 obtain ⟨n, u⟩ := a; cases hd
 have key : ∀ n : Int, bodyK ((cfg w0).at []) 40 (fnOf Tryz.f100) [I n] = bif decide (n < 0) then some (I 3) else bif decide (n > maxL) then some (I 3) else some (I 0) := fun n => by kernel_rfl
 exact (key n).trans within_t
theorem gd21 (h0 : Lib0 w0) : Gd (cfg w0) (rangeC 21 0 maxL) := gd_k h0 (cs := []) trivial (fd := fnOf Tryz.f21) rfl (n := 40) fun a d hd => by
 obtain ⟨n, u⟩ := a; cases hd
 have key : ∀ n : Int, bodyK ((cfg w0).at []) 40 (fnOf Tryz.f21) [I n] = bif decide (n < 0) then some (I 3) else bif decide (n > maxL) then some (I 3) else some (I 0) := fun n => by kernel_rfl
 exact (key n).trans within_t
def c184 : Ct := ct 184 [.c ik, .c ik] fun a => .leaf (I (cmpZ a.1 a.2.1))
theorem run184 (p q : Int) : bodyK ((cfg w0).at []) 40 (fnOf Tryz.f184) [I p, I q] = some (I (cmpZ p q)) := by
 have : bodyK ((cfg w0).at []) 40 (fnOf Tryz.f184) [I p, I q] =
  bif (p != p) then bif (q != q) then some (I 0) else some (I (-1)) else bif (q != q) then some (I 1) else bif decide (p < q) then some (I (-1)) else bif decide (p > q) then some (I 1) else some (I 0) := by kernel_rfl
 refine this.trans ?_
 unfold cmpZ
 simp only [bne_self_eq_false, cond_false]
 cases decide (p < q)
 ·simp only [cond_false, gt_iff_lt]
  cases decide (q < p) <;> rfl
 ·rfl
theorem gd184 (h0 : Lib0 w0) : Gd (cfg w0) c184 := gd_k h0 (cs := []) trivial (fd := fnOf Tryz.f184) rfl (n := 40) fun a d hd => by
 obtain ⟨p, q, u⟩ := a; cases hd
 exact run184 p q
abbrev ptK : List Kd := [ik, ik]
def mv2 (a b c e : Int) : D := .agg [I (W (a + c)), I (W (b + e))]
def c150 : Ct := ct 150 [.b ptK, .b ptK] fun a => .leaf (mv2 a.1.1 a.1.2.1 a.2.1.1 a.2.1.2.1)
theorem gd150 (h0 : Lib0 w0) : Gd (cfg w0) c150 := gd_k h0 (cs := []) trivial (fd := fnOf Tryz.f150) rfl (n := 40) fun a d hd => by
 obtain ⟨⟨a, b, _⟩, ⟨c, e, _⟩, u⟩ := a; cases hd
 have key : ∀ a b c e : Int, bodyK ((cfg w0).at []) 40 (fnOf Tryz.f150) [.agg [I a, I b], .agg [I c, I e]] = some (.agg [I (W (a + c)), I (W (b + e))]) := fun a b c e => by kernel_rfl
 exact key a b c e
def c169 : Ct := ct 169 [.b ptK, .b ptK] fun a => .leaf (I (bif cmpZ a.1.2.1 a.2.1.2.1 != 0 then cmpZ a.1.2.1 a.2.1.2.1 else cmpZ a.1.1 a.2.1.1))
theorem run169 (a b c e : Int) : bodyK ((cfg w0).at [c184]) 40 (fnOf Tryz.f169) [.agg [I a, I b], .agg [I c, I e]] = some (I (bif cmpZ b e != 0 then cmpZ b e else cmpZ a c)) := by
 have : bodyK ((cfg w0).at [c184]) 40 (fnOf Tryz.f169) [.agg [I a, I b], .agg [I c, I e]] = bif cmpZ b e != 0 then some (I (cmpZ b e)) else bif cmpZ a c != 0 then some (I (cmpZ a c)) else some (I 0) := by kernel_rfl
 refine this.trans ?_
 cases hb : (cmpZ b e != 0)
 ·cases ha : (cmpZ a c != 0)
  ·rw [show cmpZ a c = 0 by simpa using ha]; rfl
  ·rfl
 ·rfl
theorem gd169 (h0 : Lib0 w0) : Gd (cfg w0) c169 := gd_k h0 (cs := [c184]) ⟨gd184 h0, trivial⟩ (fd := fnOf Tryz.f169) rfl (n := 40) fun a d hd => by
 obtain ⟨⟨a, b, _⟩, ⟨c, e, _⟩, u⟩ := a; cases hd
 exact run169 a b c e
def cfgX (w0 : World) (cs : List Ct) : Cfg := { (cfg w0).on cs with crisp := true }
theorem cfgX_ok (w0 : World) (cs : List Ct) : CfgOk (cfgX w0 cs) := ⟨(cfg_ok w0).1, (cfg_ok w0).2, (cfg_ok w0).3⟩
def eqV : Value → Value → Bool
 | .int k a, .int k' b => decide (k = k') && decide (a = b)
 | .string a, .string b => a.data.toList == b.data.toList
 | .bool a, .bool b => a == b
 | .slice none 0 0, .slice none 0 0 => true
 | _, _ => false
theorem eqV_eq {a b : Value} (h : eqV a b = true) : a = b := by
 unfold eqV at h
 split at h
 ·simp only [Bool.and_eq_true, decide_eq_true_eq] at h; rw [h.1, h.2]
 ·rename_i a b
  obtain ⟨⟨a⟩⟩ := a
  obtain ⟨⟨b⟩⟩ := b
  simp only [beq_iff_eq] at h
  rw [h]
 ·rw [beq_iff_eq] at h; rw [h]
 ·rfl
 ·cases h
def eqL (E : D → D → Bool) : List D → List D → Bool
 | [], [] => true
 | a :: xs, b :: ys => E a b && eqL E xs ys
 | _, _ => false
def eqD : Nat → D → D → Bool
 | 0, _, _ => false
 | n + 1, a, b => match a, b with
   | .val x, .val y => eqV x y
   | .agg xs, .agg ys => eqL (eqD n) xs ys
   | .sl k z xs, .sl k' z' ys => Nat.beq k k' && Nat.beq z z' && eqL (eqD n) xs ys
   | _, _ => false
theorem eqL_eq {E : D → D → Bool} (hE : ∀ a b, E a b = true → a = b) : ∀ {xs ys : List D}, eqL E xs ys = true → xs = ys
 | [], [], _ => rfl
 | a :: xs, b :: ys, h => by
   simp only [eqL, Bool.and_eq_true] at h
   rw [hE a b h.1, eqL_eq hE h.2]
 | [], _ :: _, h => by cases h
 | _ :: _, [], h => by cases h
theorem eqD_eq : ∀ (n : Nat) (a b : D), eqD n a b = true → a = b
 | 0, _, _, h => by cases h
 | n + 1, a, b, h => by
   unfold eqD at h
   split at h
   ·rw [eqV_eq h]
   ·rw [eqL_eq (eqD_eq n) h]
   ·simp only [Bool.and_eq_true, Nat.beq_eq] at h
    rw [h.1.1, h.1.2, eqL_eq (eqD_eq n) h.2]
   ·cases h
def atT : List (List D × D) → List D → FT D
 | [], _ => .bad
 | (ds, d) :: r, xs => match eqL (eqD 8) xs ds with
   | true => .leaf d
   | false => atT r xs
def atC (g : Nat) (l : List (List D × D)) : Ct := ⟨g, atT l⟩
def RunAt (w0 : World) (g : Nat) (p : List D × D) : Prop := FnD (cfg w0) g p.1 p.2
def RunsAt (w0 : World) (g : Nat) : List (List D × D) → Prop
 | [] => True
 | p :: r => RunAt w0 g p ∧ RunsAt w0 g r
theorem gd_at {g : Nat} : ∀ {l : List (List D × D)}, RunsAt w0 g l → Gd (cfg w0) (atC g l)
 | [], _ => fun ds d hd => by cases hd
 | (ds', d') :: r, h => fun ds d hd => by
   simp only [atC, atT] at hd
   split at hd
   ·rename_i e
    cases eqL_eq (eqD_eq 8) e
    cases hd
    exact h.1
   ·exact gd_at h.2 ds d hd
theorem run_at (h0 : Lib0 w0) {cs : List Ct} (hcs : Gds (cfg w0) cs) {g : Nat} {fd : AFn} (hfd : fnTr.get g = some fd) {ds : List D} {d : D} {n : Nat} (h : bodyD (cfgX w0 cs) (ev (cfgX w0 cs) n) fd ds = some d) : RunAt w0 g (ds, d) :=
 bodyD_sound (C := cfgX w0 cs) (cfgX_ok w0 cs) (ev_sound (cfgX_ok w0 cs) (specs_on h0 hcs) n) hfd h
def awA : List Ct := [whenC 132, whenC 49, whenC 219, withinC 107, withinC 186, withinC 68, rangeC 148 0 maxE, rangeC 110 0 maxE, rangeC 100 0 maxL, rangeC 21 0 maxL, c184, c150, c169]
theorem awA_gd (h0 : Lib0 w0) : Gds (cfg w0) awA := ⟨gd132 h0, gd49 h0, gd219 h0, gd107 h0, gd186 h0, gd68 h0, gd148 h0, gd110 h0, gd100 h0, gd21 h0, gd184 h0, gd150 h0, gd169 h0, trivial⟩
end
end Go.Proofs.YthcpfignhalffaaGreatDoor
namespace Go.Proofs.YthcpfignhalffaaGreatDoor
open Go Go.Am
set_option maxRecDepth 100000
variable {w0 : World}
noncomputable section
def thrN (k : Nat) : Nat := [10, 13, 16, 20, 25, 32, 40, 50, 63, 79].getD (k % 10) 0 * 10 ^ (k / 10)
def okThr (o : Option D) (k : Nat) : Bool :=
 match o with
 | some (.val (.int .i64 n)) => decide (n = (thrN k : Int))
 | _ => false
theorem okThr_eq {o : Option D} {k : Nat} (h : okThr o k = true) : o = some (I (thrN k : Int)) := by
 unfold okThr at h
 split at h
 ·rw [decide_eq_true_eq] at h; rw [h]; rfl
 ·cases h
theorem thr_runs234 : ((List.range 121).all fun k => okThr (bodyD (cfgX w0 awA) (ev (cfgX w0 awA) 400) (fnOf Tryz.f234) [I k]) k) = true := by kernel_rfl
end
end Go.Proofs.YthcpfignhalffaaGreatDoor
namespace Go.Proofs.YthcpfignhalffaaGreatDoor
open Go Go.Am
set_option maxRecDepth 100000
variable {w0 : World}
noncomputable section
def lv (n : Int) : Bool := decide (0 ≤ n) && decide (n ≤ 120)
def thr (n : Int) : Int := (thrN n.toNat : Int)
def thrC (g : Nat) : Ct := ct g [.c ik] fun a => .br (lv a.1) (.leaf (I (thr a.1))) .bad
theorem lv_nat {n : Int} (h : lv n = true) : ∃ k : Nat, n = (k : Int) ∧ k < 121 := by
 unfold lv at h
 simp only [Bool.and_eq_true, decide_eq_true_eq] at h
 exact ⟨n.toNat, by omega, by omega⟩
theorem gd234 (h0 : Lib0 w0) : Gd (cfg w0) (thrC 234) := gd_sig fun a d hd => by
 obtain ⟨hg, hd⟩ := br_run hd
 cases hd
 obtain ⟨n, u⟩ := a
 obtain ⟨k, rfl, hk⟩ := lv_nat hg
 have := List.all_eq_true.1 (thr_runs234 (w0 := w0)) k (by simpa using hk)
 exact run_at h0 (awA_gd h0) (g := 234) (fd := fnOf Tryz.f234) rfl (okThr_eq this)
def levF : Nat → Int → Int → Int
 | 0, _, k => k
 | f + 1, e, k => bif decide (k < 120) && decide (thr (k + 1) ≤ e) then levF f e (k + 1) else k
def lev (e : Int) : Int := levF 122 e (-1)
def next209 (e : Int) (k : Int) : X × Int := bif decide (k < 120) && decide (thr (k + 1) ≤ e) then (.normal, k + 1) else (.exit 0, k)
theorem iter209 (e : Int) : ∀ (f : Nat) (k : Int), -1 ≤ k → k ≤ 120 → 120 < k + f → iterN (next209 e) f k = some (.exit 0, levF f e k)
 | 0, k, _, h1, h2 => by omega
 | f + 1, k, h0, h1, h2 => by
   unfold iterN levF
   cases hc : (decide (k < 120) && decide (thr (k + 1) ≤ e)) with
   | false => simp only [next209, hc, cond_false]
   | true =>
     simp only [next209, hc, cond_true]
     have hk : k < 120 := by simp only [Bool.and_eq_true, decide_eq_true_eq] at hc; exact hc.1
     exact iter209 e f (k + 1) (by omega) (by omega) (by omega)
def cs209 : List Ct := [thrC 234]
def rel209 : List (Nat × Cv) := [(0, .id), (3, .id)]
def st209 (e k : Int) : List D := [I e, I k]
theorem round209 (e k : Int) : rndD ((cfg w0).at cs209) 40 [] 40 (fnOf Tryz.f209).ntmps rel209 (lpB 0 (fnOf Tryz.f209).body) (st209 e k) =
  bif decide (k < 120) then
   bif lv (W (k + 1)) then
    bif decide (thr (W (k + 1)) ≤ e) then some ([], .normal, st209 e (W (k + 1))) else some ([], .exit 0, st209 e k)
   else none
  else some ([], .exit 0, st209 e k) := by kernel_rfl
theorem body209 (e k : Int) : bodyT ((cfg w0).at cs209) 40 [ldP 0 (fnOf Tryz.f209).ntmps rel209 .normal (st209 e k)] 40 (fnOf Tryz.f209) [I e] =
  some ([(ldP 0 (fnOf Tryz.f209).ntmps rel209 .normal (st209 e k), .loop (lpB 0 (fnOf Tryz.f209).body), st209 e (-1))], I k) := by kernel_rfl
theorem W_in {n : Int} (h : -1000000 ≤ n ∧ n ≤ 1000000) : W n = n := IntWalk.i64_in _ ⟨by omega, by omega⟩
theorem fn209 (h0 : Lib0 w0) (e : Int) : FnD (cfg w0) 209 [I e] (I (lev e)) := by
 have hcs : Gds (cfg w0) cs209 := ⟨gd234 h0, trivial⟩
 have hld := ldT_iter (at_ok (cfg_ok w0) cs209) (at_sp h0 hcs) (N := (fnOf Tryz.f209).ntmps) (rel := rel209) (B := lpB 0 (fnOf Tryz.f209).body) (id := 0) (st209 e) (next209 e) (fun k => -1 ≤ k ∧ k ≤ 120)
  (fun k ⟨h1, h2⟩ => .leaf (by
   rw [round209, W_in (by omega)]
   unfold next209
   cases hk : decide (k < 120) with
   | false => rfl
   | true =>
     rw [decide_eq_true_eq] at hk
     have : lv (k + 1) = true := by unfold lv; simp only [Bool.and_eq_true, decide_eq_true_eq]; omega
     rw [this]
     simp only [cond_true, Bool.true_and]
     cases decide (thr (k + 1) ≤ e) <;> rfl)) (fun k b ⟨h1, h2⟩ hb => by
   unfold next209 at hb
   cases hc : (decide (k < 120) && decide (thr (k + 1) ≤ e)) with
   | false => simp [hc] at hb
   | true =>
     simp only [hc, cond_true, Prod.mk.injEq, true_and] at hb
     simp only [Bool.and_eq_true, decide_eq_true_eq] at hc
     subst hb
     omega) (a0 := -1) (x := .exit 0) (b := lev e) (f := 122) ⟨by omega, by omega⟩ (iter209 e 122 (-1) (by decide) (by decide) (by decide))
 exact fnD_lp (cfg_ok w0) h0 hcs (fd := fnOf Tryz.f209) rfl (body209 e (lev e)) hld
def c209 : Ct := ct 209 [.c ik] fun a => .leaf (I (lev a.1))
theorem gd209 (h0 : Lib0 w0) : Gd (cfg w0) c209 := gd_sig fun a d hd => by cases hd; exact fn209 h0 a.1
def levR (e : Int) : Int := bif withinZ e 0 maxE != 0 then 0 else lev e
def c124 : Ct := ct 124 [.c ik] fun a => .leaf (I (levR a.1))
def cs124 : List Ct := [rangeC 148 0 maxE, c209]
theorem run124 (e : Int) : bodyK ((cfg w0).at cs124) 40 (fnOf Tryz.f124) [I e] = bif withinZ e 0 maxE != 0 then some (I 0) else some (I (lev e)) := by kernel_rfl
theorem gd124 (h0 : Lib0 w0) : Gd (cfg w0) c124 := gd_k h0 (cs := cs124) ⟨gd148 h0, gd209 h0, trivial⟩ (fd := fnOf Tryz.f124) rfl (n := 40) fun a d hd => by
 obtain ⟨e, u⟩ := a; cases hd
 refine (run124 e).trans ?_
 show _ = some (I (levR e))
 unfold levR
 cases (withinZ e 0 maxE != 0) <;> rfl
def stepB (e k b : Int) : Int := bif decide (thr k ≤ e) then k else b
def levB (e : Int) : Int := (List.range 121).foldl (fun b (k : Nat) => stepB e (k : Int) b) (-1)
end
end Go.Proofs.YthcpfignhalffaaGreatDoor
namespace Go.Proofs.YthcpfignhalffaaGreatDoor
open Go Go.Am
set_option maxRecDepth 100000
variable {w0 : World}
noncomputable section
def i1 (x : Tup intK) : Int := x.1
def firstZ : List Int → Int
 | [] => 0
 | e :: es => bif e != 0 then e else firstZ es
theorem lsRun_first (p : Tup intK → Int) : ∀ (l : List (Tup intK)) (i : Nat) (a : Int), ∃ q : Nat, lsRun 0 (fun x a => bif p x != 0 then (X.ret, p x) else (.normal, a)) l i a = bif firstZ (l.map p) != 0 then (.ret, ((q : Int), firstZ (l.map p))) else (.exit 0, (((i + l.length : Nat) : Int), a))
 | [], i, a => ⟨0, rfl⟩
 | x :: xs, i, a => by
   obtain ⟨q, hq⟩ := lsRun_first p xs (i + 1) a
   unfold lsRun
   rw [List.map_cons]
   unfold firstZ
   cases hx : (p x != 0) with
   | true => exact ⟨i, by simp only [hx, cond_true]⟩
   | false =>
     refine ⟨q, ?_⟩
     simp only [cond_false]
     rw [hq]
     simp only [List.length_cons, show i + 1 + xs.length = i + (xs.length + 1) by omega]
def rel99 : List (Nat × Cv) := [(5, .id), (6, .id), (7, .id), (2, .id)]
def st99 (l : List (Tup intK)) (a : Int × Int) : List D := [.vec intK l, I l.length, I a.1, I a.2]
theorem round99 (l : List (Tup intK)) (j b : Int) : rndD ((cfg w0).at []) 40 [] 40 (fnOf Tryz.f99).ntmps rel99 (lpB 0 (fnOf Tryz.f99).body) (st99 l (j, b)) =
  bif decide (j < l.length) then
   bif (Nat.beq 1 1 && (decide (0 ≤ j) && decide (j < l.length))) then
    bif i1 (nth l j.toNat) != 0 then some ([], .ret, st99 l (j, i1 (nth l j.toNat))) else some ([], .normal, st99 l (W (j + 1), b))
   else none
  else some ([], .exit 0, st99 l (j, b)) := by kernel_rfl
theorem body99 (l : List (Tup intK)) (x : X) (p : Int × Int) (hx : x = .ret ∨ x = .normal) : bodyT ((cfg w0).at []) 40 [ldP 0 (fnOf Tryz.f99).ntmps rel99 x (st99 l p)] 40 (fnOf Tryz.f99) [.vec intK l] =
  some ([(ldP 0 (fnOf Tryz.f99).ntmps rel99 x (st99 l p), .loop (lpB 0 (fnOf Tryz.f99).body), st99 l (0, 0))], onX x (I p.2) (I 0)) := by
 rcases hx with rfl | rfl <;> kernel_rfl
theorem fn99 (h0 : Lib0 w0) (l : List (Tup intK)) (hl : l.length ≤ 100000) : FnD (cfg w0) 99 [.vec intK l] (I (firstZ (l.map i1))) := by
 refine fn_ls h0 (cs := []) trivial (fd := fnOf Tryz.f99) rfl rel99 l (by omega) (st99 l) (fun x a => bif i1 x != 0 then (X.ret, i1 x) else (.normal, a)) (fun _ _ => True) (a0 := 0) trivial
  (fun j a hj _ => .leaf (by
   rw [round99, inb 1 hj, lt_t hj, Int.toNat_natCast]
   cases (i1 (nth l j) != 0) <;> rfl)) (fun _ _ _ _ _ _ => trivial)
  (fun a _ => .leaf (by rw [round99, ge_f]; rfl)) fun x p hx => ?_
 obtain ⟨q, hq⟩ := lsRun_first i1 l 0 0
 rw [hq] at hx
 cases hf : (firstZ (l.map i1) != 0) <;> rw [hf] at hx <;> cases hx
 ·rw [show firstZ (l.map i1) = 0 by simpa using hf]
  exact body99 l _ _ (.inr rfl)
 ·exact body99 l _ _ (.inl rfl)
def firstC (g : Nat) : Ct := ct g [.v intK] fun a => .br (Nat.ble (a.1 : List (Tup intK)).length 100000) (.leaf (I (firstZ ((a.1 : List (Tup intK)).map i1)))) .bad
theorem gd99 (h0 : Lib0 w0) : Gd (cfg w0) (firstC 99) := gd_sig fun a d hd => by
 obtain ⟨hg, hd⟩ := br_run hd
 cases hd
 exact fn99 h0 a.1 (Nat.le_of_ble_eq_true hg)
def rel109 : List (Nat × Cv) := [(0, .id), (3, .id), (2, .id)]
def st109 (l : List (Tup intK)) (a : Int × Int) : List D := [.vec intK l, I a.1, I a.2]
theorem round109 (l : List (Tup intK)) (j b : Int) : rndD ((cfg w0).at []) 40 [] 40 (fnOf Tryz.f109).ntmps rel109 (lpB 0 (fnOf Tryz.f109).body) (st109 l (j, b)) =
  bif decide (j < l.length) then
   bif (Nat.beq 1 1 && (decide (0 ≤ j) && decide (j < l.length))) then
    bif i1 (nth l j.toNat) != 0 then bif (Nat.beq 1 1 && (decide (0 ≤ j) && decide (j < l.length))) then some ([], .ret, st109 l (j, i1 (nth l j.toNat))) else none else some ([], .normal, st109 l (W (j + 1), b))
   else none
  else some ([], .exit 0, st109 l (j, b)) := by kernel_rfl
theorem body109 (l : List (Tup intK)) (x : X) (p : Int × Int) (hx : x = .ret ∨ x = .normal) : bodyT ((cfg w0).at []) 40 [ldP 0 (fnOf Tryz.f109).ntmps rel109 x (st109 l p)] 40 (fnOf Tryz.f109) [.vec intK l] =
  some ([(ldP 0 (fnOf Tryz.f109).ntmps rel109 x (st109 l p), .loop (lpB 0 (fnOf Tryz.f109).body), st109 l (0, 0))], onX x (I p.2) (I 0)) := by
 rcases hx with rfl | rfl <;> kernel_rfl
theorem fn109 (h0 : Lib0 w0) (l : List (Tup intK)) (hl : l.length ≤ 100000) : FnD (cfg w0) 109 [.vec intK l] (I (firstZ (l.map i1))) := by
 refine fn_ls h0 (cs := []) trivial (fd := fnOf Tryz.f109) rfl rel109 l (by omega) (st109 l) (fun x a => bif i1 x != 0 then (X.ret, i1 x) else (.normal, a)) (fun _ _ => True) (a0 := 0) trivial
  (fun j a hj _ => .leaf (by
   rw [round109, inb 1 hj, lt_t hj, Int.toNat_natCast]
   cases (i1 (nth l j) != 0) <;> rfl)) (fun _ _ _ _ _ _ => trivial)
  (fun a _ => .leaf (by rw [round109, ge_f]; rfl)) fun x p hx => ?_
 obtain ⟨q, hq⟩ := lsRun_first i1 l 0 0
 rw [hq] at hx
 cases hf : (firstZ (l.map i1) != 0) <;> rw [hf] at hx <;> cases hx
 ·rw [show firstZ (l.map i1) = 0 by simpa using hf]
  exact body109 l _ _ (.inr rfl)
 ·exact body109 l _ _ (.inl rfl)
theorem gd109 (h0 : Lib0 w0) : Gd (cfg w0) (firstC 109) := gd_sig fun a d hd => by
 obtain ⟨hg, hd⟩ := br_run hd
 cases hd
 exact fn109 h0 a.1 (Nat.le_of_ble_eq_true hg)
def enE (x : Tup intK) : Tup intK := t1 (withinZ (i1 x) 0 maxE)
def leE (x : Tup intK) : Tup intK := t1 (levR (i1 x))
def relMp : List (Nat × Cv) := [(8, .id), (9, .id), (10, .id), (5, .ov intK), (1, .id)]
def stMp (f : Nat) (l : List (Tup intK)) (a : Int × List (Tup intK)) : List D := [.vec intK l, I l.length, I a.1, .ovec intK a.2, .fn f [] []]
theorem round147 (l : List (Tup intK)) (j : Int) (out : List (Tup intK)) : rndD ((cfg w0).at [rangeC 148 0 maxE]) 40 [] 40 (fnOf Tryz.f147).ntmps relMp (lpB 0 (fnOf Tryz.f147).body) (stMp 148 l (j, out)) =
  bif decide (j < l.length) then
   bif (Nat.beq 1 1 && (decide (0 ≤ j) && decide (j < l.length))) then
    bif (Nat.ble ((out ++ [enE (nth l j.toNat)]).length * 8) 1000000000000 && Nat.ble (out ++ [enE (nth l j.toNat)]).length 1000000000000) then some ([], .normal, stMp 148 l (W (j + 1), out ++ [enE (nth l j.toNat)])) else none
   else none
  else some ([], .exit 0, stMp 148 l (j, out)) := by kernel_rfl
theorem body147 (l : List (Tup intK)) (j : Int) (ys : List (Tup intK)) : bodyT ((cfg w0).at [rangeC 148 0 maxE]) 40 [ldP 0 (fnOf Tryz.f147).ntmps relMp .normal (stMp 148 l (j, ys))] 40 (fnOf Tryz.f147) [.vec intK l, .fn 148 [] []] =
  some ([(ldP 0 (fnOf Tryz.f147).ntmps relMp .normal (stMp 148 l (j, ys)), .loop (lpB 0 (fnOf Tryz.f147).body), stMp 148 l (0, []))], .vec intK ys) := by kernel_rfl
theorem fn147 (h0 : Lib0 w0) (l : List (Tup intK)) (hg : l.length ≤ 100000) : FnD (cfg w0) 147 [.vec intK l, .fn 148 [] []] (.vec intK (l.map enE)) := by
 refine fn_ls h0 (cs := [rangeC 148 0 maxE]) ⟨gd148 h0, trivial⟩ (fd := fnOf Tryz.f147) rfl relMp l (by omega) (stMp 148 l) (fun w a => (X.normal, a ++ [enE w])) (fun j a => a.length = j) (a0 := []) rfl
  (fun j a hj hi => .leaf (by
   have hi : a.length = j := hi
   rw [round147, inb 1 hj, lt_t hj, Int.toNat_natCast, room (by omega) (by omega)]
   rfl)) (fun j a a' _ hi h => by cases h; simp [hi])
  (fun a _ => .leaf (by rw [round147, ge_f]; rfl)) fun x p hx => ?_
 rw [lsRun_fold (h := fun w b => b ++ [enE w]) 0 l 0 [] (fun _ _ _ => rfl), foldl_snoc enE] at hx
 cases hx
 exact body147 l _ _
theorem round141 (l : List (Tup intK)) (j : Int) (out : List (Tup intK)) : rndD ((cfg w0).at [c124]) 40 [] 40 (fnOf Tryz.f141).ntmps relMp (lpB 0 (fnOf Tryz.f141).body) (stMp 124 l (j, out)) =
  bif decide (j < l.length) then
   bif (Nat.beq 1 1 && (decide (0 ≤ j) && decide (j < l.length))) then
    bif (Nat.ble ((out ++ [leE (nth l j.toNat)]).length * 8) 1000000000000 && Nat.ble (out ++ [leE (nth l j.toNat)]).length 1000000000000) then some ([], .normal, stMp 124 l (W (j + 1), out ++ [leE (nth l j.toNat)])) else none
   else none
  else some ([], .exit 0, stMp 124 l (j, out)) := by kernel_rfl
theorem body141 (l : List (Tup intK)) (j : Int) (ys : List (Tup intK)) : bodyT ((cfg w0).at [c124]) 40 [ldP 0 (fnOf Tryz.f141).ntmps relMp .normal (stMp 124 l (j, ys))] 40 (fnOf Tryz.f141) [.vec intK l, .fn 124 [] []] =
  some ([(ldP 0 (fnOf Tryz.f141).ntmps relMp .normal (stMp 124 l (j, ys)), .loop (lpB 0 (fnOf Tryz.f141).body), stMp 124 l (0, []))], .vec intK ys) := by kernel_rfl
theorem fn141 (h0 : Lib0 w0) (l : List (Tup intK)) (hg : l.length ≤ 100000) : FnD (cfg w0) 141 [.vec intK l, .fn 124 [] []] (.vec intK (l.map leE)) := by
 refine fn_ls h0 (cs := [c124]) ⟨gd124 h0, trivial⟩ (fd := fnOf Tryz.f141) rfl relMp l (by omega) (stMp 124 l) (fun w a => (X.normal, a ++ [leE w])) (fun j a => a.length = j) (a0 := []) rfl
  (fun j a hj hi => .leaf (by
   have hi : a.length = j := hi
   rw [round141, inb 1 hj, lt_t hj, Int.toNat_natCast, room (by omega) (by omega)]
   rfl)) (fun j a a' _ hi h => by cases h; simp [hi])
  (fun a _ => .leaf (by rw [round141, ge_f]; rfl)) fun x p hx => ?_
 rw [lsRun_fold (h := fun w b => b ++ [leE w]) 0 l 0 [] (fun _ _ _ => rfl), foldl_snoc leE] at hx
 cases hx
 exact body141 l _ _
def isFn (f : Nat) (d : D) : Bool :=
 match d with
 | .fn g [] [] => Nat.beq g f
 | _ => false
theorem isFn_eq {f : Nat} {d : D} (h : isFn f d = true) : d = .fn f [] [] := by
 unfold isFn at h
 split at h
 ·rw [Nat.beq_eq] at h; rw [h]
 ·cases h
def mapC (g f : Nat) (k : Tup intK → Tup intK) : Ct := ct g [.v intK, .x] fun a => match isFn f a.2.1 with
 | true => .br (Nat.ble (a.1 : List (Tup intK)).length 100000) (.leaf (.vec intK ((a.1 : List (Tup intK)).map k))) .bad
 | false => .bad
theorem gd147 (h0 : Lib0 w0) : Gd (cfg w0) (mapC 147 148 enE) := gd_sig fun a d hd => by
 obtain ⟨l, f, u⟩ := a
 simp only at hd
 cases hb : isFn 148 f with
 | false => rw [hb] at hd; cases hd
 | true =>
   rw [hb] at hd
   obtain ⟨hg, hd⟩ := br_run hd
   cases hd
   cases isFn_eq hb
   exact fn147 h0 l (Nat.le_of_ble_eq_true hg)
theorem gd141 (h0 : Lib0 w0) : Gd (cfg w0) (mapC 141 124 leE) := gd_sig fun a d hd => by
 obtain ⟨l, f, u⟩ := a
 simp only at hd
 cases hb : isFn 124 f with
 | false => rw [hb] at hd; cases hd
 | true =>
   rw [hb] at hd
   obtain ⟨hg, hd⟩ := br_run hd
   cases hd
   cases isFn_eq hb
   exact fn141 h0 l (Nat.le_of_ble_eq_true hg)
theorem rgRun_any {β : Type} {id : Nat} {p : Nat → Bool} {c : β} : ∀ (f i : Nat) (a : β), ∃ q : Nat, rgRun id (fun j a => bif p j then (X.ret, c) else (.normal, a)) f i a = bif (List.range' i f).any p then (.ret, ((q : Int), c)) else (.exit id, (((i + f : Nat) : Int), a))
 | 0, i, a => ⟨0, rfl⟩
 | f + 1, i, a => by
   obtain ⟨q, hq⟩ := rgRun_any (id := id) (p := p) (c := c) f (i + 1) a
   unfold rgRun
   rw [List.range'_succ, List.any_cons]
   cases hp : p i with
   | true => exact ⟨i, by simp⟩
   | false =>
     refine ⟨q, ?_⟩
     simp only [cond_false, Bool.false_or]
     rw [hq, show i + 1 + f = i + (f + 1) by omega]
def sameI (a b : List (Tup intK)) : Bool := decide (a.map i1 = b.map i1)
theorem sameI_any {a b : List (Tup intK)} (h : a.length = b.length) : (List.range' 0 a.length).any (fun j => i1 (nth a j) != i1 (nth b j)) = !sameI a b := by
 unfold sameI
 rw [Bool.eq_iff_iff, List.any_eq_true]
 simp only [List.mem_range'_1, bne_iff_ne, Bool.not_eq_true', decide_eq_false_iff_not]
 constructor
 ·rintro ⟨j, ⟨_, hj⟩, hne⟩ he
  have := congrArg (fun l => l[j]?) he
  simp only [List.getElem?_map] at this
  rw [List.getElem?_eq_getElem (by omega), List.getElem?_eq_getElem (by omega)] at this
  simp only [Option.map_some, Option.some.injEq] at this
  apply hne
  simp only [nth, List.getD_eq_getElem?_getD, List.getElem?_eq_getElem (show j < a.length by omega), List.getElem?_eq_getElem (show j < b.length by omega), Option.getD_some]
  exact this
 ·intro hne
  apply Classical.byContradiction
  intro hno
  apply hne
  apply List.ext_getElem?
  intro j
  simp only [List.getElem?_map]
  rcases Nat.lt_or_ge j a.length with hj | hj
  ·rw [List.getElem?_eq_getElem hj, List.getElem?_eq_getElem (by omega)]
   simp only [Option.map_some, Option.some.injEq]
   apply Classical.byContradiction
   intro hx
   refine hno ⟨j, ⟨by omega, by omega⟩, fun hy => hx ?_⟩
   simpa only [nth, List.getD_eq_getElem?_getD, List.getElem?_eq_getElem (show j < a.length by omega), List.getElem?_eq_getElem (show j < b.length by omega), Option.getD_some] using hy
  ·rw [List.getElem?_eq_none hj, List.getElem?_eq_none (by omega)]
def rel97 : List (Nat × Cv) := [(0, .id), (1, .id), (5, .id), (4, .id)]
def st97 (a b : List (Tup intK)) (s : Int × Bool) : List D := [.vec intK a, .vec intK b, I s.1, Bo s.2]
theorem round97 (a b : List (Tup intK)) (j : Int) (r : Bool) : rndD ((cfg w0).at []) 40 [] 40 (fnOf Tryz.f97).ntmps rel97 (lpB 0 (fnOf Tryz.f97).body) (st97 a b (j, r)) =
  bif decide (j < a.length) then
   bif (Nat.beq 1 1 && (decide (0 ≤ j) && decide (j < a.length))) then
    bif (Nat.beq 1 1 && (decide (0 ≤ j) && decide (j < b.length))) then
     bif i1 (nth a j.toNat) != i1 (nth b j.toNat) then some ([], .ret, st97 a b (j, false)) else some ([], .normal, st97 a b (W (j + 1), r))
    else none
   else none
  else some ([], .exit 0, st97 a b (j, r)) := by kernel_rfl
theorem body97 (a b : List (Tup intK)) (x : X) (p : Int × Bool) (hx : x = .ret ∨ x = .normal) : bodyT ((cfg w0).at []) 40 [ldP 0 (fnOf Tryz.f97).ntmps rel97 x (st97 a b p)] 40 (fnOf Tryz.f97) [.vec intK a, .vec intK b] =
  bif (a.length : Int) != b.length then some ([], Bo false) else
  some ([(ldP 0 (fnOf Tryz.f97).ntmps rel97 x (st97 a b p), .loop (lpB 0 (fnOf Tryz.f97).body), st97 a b (0, false))], onX x (Bo p.2) (Bo true)) := by
 rcases hx with rfl | rfl <;> kernel_rfl
theorem fn97 (h0 : Lib0 w0) (a b : List (Tup intK)) (hl : a.length ≤ 100000) : FnD (cfg w0) 97 [.vec intK a, .vec intK b] (Bo (sameI a b)) := by
 cases hne : ((a.length : Int) != b.length) with
 | true =>
   have : sameI a b = false := by
    unfold sameI
    rw [decide_eq_false_iff_not]
    intro h
    have := congrArg List.length h
    simp only [List.length_map] at this
    rw [this] at hne
    simp at hne
   rw [this]
   refine fnD_t (cfg_ok w0) h0 (cs := []) trivial (fd := fnOf Tryz.f97) rfl (L := [ldP 0 (fnOf Tryz.f97).ntmps rel97 .normal (st97 a b (0, true))]) (o := []) ((body97 a b .normal (0, true) (.inr rfl)).trans ?_) trivial
   rw [hne]; rfl
 | false =>
   have hab : a.length = b.length := Int.ofNat.inj (by simpa using hne)
   refine fn_rg h0 (cs := []) trivial (fd := fnOf Tryz.f97) rfl rel97 a.length (by omega) (st97 a b) (fun j r => bif i1 (nth a j) != i1 (nth b j) then (X.ret, false) else (.normal, r)) (fun _ _ => True) (a0 := false) trivial
    (fun j r hj _ => .leaf (by
     rw [round97, inb 1 hj, ← hab, inb 1 hj, lt_t hj, Int.toNat_natCast]
     cases (i1 (nth a j) != i1 (nth b j)) <;> rfl)) (fun _ _ _ _ _ _ => trivial)
    (fun r _ => .leaf (by rw [round97, ge_f]; rfl)) fun x p hx => ?_
   obtain ⟨q, hq⟩ := rgRun_any (id := 0) (p := fun j => i1 (nth a j) != i1 (nth b j)) (c := false) a.length 0 false
   rw [hq, sameI_any hab] at hx
   cases hs : sameI a b <;> rw [hs] at hx <;> cases hx
   ·exact (body97 a b _ _ (.inl rfl)).trans (by rw [hne]; rfl)
   ·exact (body97 a b _ _ (.inr rfl)).trans (by rw [hne]; rfl)
def c97 : Ct := ct 97 [.v intK, .v intK] fun a => .br (Nat.ble (a.1 : List (Tup intK)).length 100000) (.leaf (Bo (sameI a.1 a.2.1))) .bad
theorem gd97 (h0 : Lib0 w0) : Gd (cfg w0) c97 := gd_sig fun a d hd => by
 obtain ⟨hg, hd⟩ := br_run hd
 cases hd
 exact fn97 h0 a.1 a.2.1 (Nat.le_of_ble_eq_true hg)
end
end Go.Proofs.YthcpfignhalffaaGreatDoor
namespace Go.Proofs.YthcpfignhalffaaGreatDoor
open Go Go.Am
set_option maxRecDepth 100000
variable {w0 : World}
noncomputable section
structure Gr where
 w : Int
 h : Int
 l : List (Tup intK)
def gcs (g : Gr) : List D := [I g.w, I g.h, .vec intK g.l]
def gD (g : Gr) : D := .agg (gcs g)
def asG (d : D) : Option Gr :=
 match d with
 | .agg [.val (.int .i64 w), .val (.int .i64 h), .vec ks l] => match recast ks intK l with
   | some l => some ⟨w, h, l⟩
   | none => none
 | _ => none
theorem asG_eq {d : D} {g : Gr} (h : asG d = some g) : d = gD g := by
 unfold asG at h
 split at h
 ·split at h
  ·rename_i hr
   cases h
   obtain ⟨e, rfl⟩ := recast_eq hr
   subst e
   rfl
  ·cases h
 ·cases h
def gC (g : Nat) (ss : List Sh) (F : Gr → ArgT ss → FT D) : Ct := ct g (.x :: ss) fun a => match asG a.1 with
 | some b => F b a.2
 | none => .bad
theorem gd_g {g : Nat} {ss : List Sh} {F : Gr → ArgT ss → FT D} (h : ∀ b a d, (F b a).run = some d → FnD (cfg w0) g (gD b :: toShs ss a) d) : Gd (cfg w0) (gC g ss F) := gd_sig fun a d hd => by
 obtain ⟨x, a⟩ := a
 simp only at hd
 cases hb : asG x with
 | none => rw [hb] at hd; cases hd
 | some b =>
   rw [hb] at hd
   cases asG_eq hb
   exact h b a d hd
def smG (g : Gr) : Bool := Nat.ble g.l.length 100000
def e1G (g : Gr) : Int := firstZ [withinZ g.w 1 16, withinZ g.h 1 16, whenZ ((g.l.length : Int) != W (g.w * g.h)) 2]
def e2G (g : Gr) : Int := firstZ ((g.l.map enE).map i1)
def chkG (g : Gr) : Int := bif e1G g != 0 then e1G g else e2G g
end
end Go.Proofs.YthcpfignhalffaaGreatDoor
namespace Go.Proofs.YthcpfignhalffaaGreatDoor
open Go Go.Am
set_option maxRecDepth 100000
variable {w0 : World}
noncomputable section
def cs73 : List Ct := [withinC 107, whenC 132, firstC 99, mapC 147 148 enE]
theorem cs73_gd (h0 : Lib0 w0) : Gds (cfg w0) cs73 := ⟨gd107 h0, gd132 h0, gd99 h0, gd147 h0, trivial⟩
theorem run73 (g : Gr) : bodyK ((cfg w0).at cs73) 40 (fnOf Tryz.f73) [gD g] =
  bif e1G g != 0 then some (I (e1G g)) else bif Nat.ble g.l.length 100000 then bif Nat.ble (g.l.map enE).length 100000 then some (I (e2G g)) else none else none := by cases g; kernel_rfl
def chkC (g : Nat) : Ct := gC g [] fun b _ => .br (smG b) (.leaf (I (chkG b))) .bad
theorem gd73 (h0 : Lib0 w0) : Gd (cfg w0) (chkC 73) := gd_g fun b a d hd => by
 obtain ⟨hg, hd⟩ := br_run hd
 cases hd
 refine fnD_k (cfg_ok w0) h0 (cs73_gd h0) (fd := fnOf Tryz.f73) rfl (n := 40) ((run73 b).trans ?_)
 unfold smG at hg
 unfold chkG
 rw [List.length_map, hg]
 cases (e1G b != 0) <;> rfl
def cs20 : List Ct := [withinC 68, firstC 109, rangeC 110 0 maxE]
theorem cs20_gd (h0 : Lib0 w0) : Gds (cfg w0) cs20 := ⟨gd68 h0, gd109 h0, gd110 h0, trivial⟩
def rel20 : List (Nat × Cv) := [(1, .id), (4, .id), (2, .id)]
def st20 (g : Gr) (a : Int × Int) : List D := [.obox (gcs g), I a.1, I a.2]
def enZ (x : Tup intK) : Int := withinZ (i1 x) 0 maxE
theorem round20 (g : Gr) (j b : Int) : rndD ((cfg w0).at cs20) 40 [] 40 (fnOf Tryz.f20).ntmps rel20 (lpB 0 (fnOf Tryz.f20).body) (st20 g (j, b)) =
  bif decide (j < g.l.length) then
   bif (Nat.beq 1 1 && (decide (0 ≤ j) && decide (j < g.l.length))) then
    bif enZ (nth g.l j.toNat) != 0 then some ([], .ret, st20 g (j, enZ (nth g.l j.toNat))) else some ([], .normal, st20 g (W (j + 1), b))
   else none
  else some ([], .exit 0, st20 g (j, b)) := by cases g; kernel_rfl
def e0G (g : Gr) : Int := firstZ [withinZ g.w 1 16, withinZ g.h 1 16]
theorem body20 (g : Gr) (x : X) (p : Int × Int) (hx : x = .ret ∨ x = .normal) : bodyT ((cfg w0).at cs20) 40 [ldP 0 (fnOf Tryz.f20).ntmps rel20 x (st20 g p)] 40 (fnOf Tryz.f20) [gD g] =
  bif e0G g != 0 then some ([], I (e0G g)) else bif (g.l.length : Int) != W (g.w * g.h) then some ([], I 2) else
  some ([(ldP 0 (fnOf Tryz.f20).ntmps rel20 x (st20 g p), .loop (lpB 0 (fnOf Tryz.f20).body), st20 g (0, 0))], onX x (I p.2) (I 0)) := by
 cases g; rcases hx with rfl | rfl <;> kernel_rfl
theorem chk_alt (g : Gr) : chkG g = bif e0G g != 0 then e0G g else bif (g.l.length : Int) != W (g.w * g.h) then 2 else firstZ (g.l.map enZ) := by
 have he : e2G g = firstZ (g.l.map enZ) := by unfold e2G; rw [List.map_map]; rfl
 unfold chkG e1G e0G
 rw [he]
 simp only [firstZ]
 generalize withinZ g.w 1 16 = A
 generalize withinZ g.h 1 16 = B
 cases hA : (A != 0)
 ·simp only [cond_false]
  cases hB : (B != 0)
  ·simp only [cond_false]
   cases ((g.l.length : Int) != W (g.w * g.h)) <;> rfl
  ·simp only [cond_true, hB]
 ·simp only [cond_true, hA]
theorem fn20 (h0 : Lib0 w0) (g : Gr) (hl : g.l.length ≤ 100000) : FnD (cfg w0) 20 [gD g] (I (chkG g)) := by
 rw [chk_alt]
 cases he : (e0G g != 0) with
 | true =>
   refine fnD_t (cfg_ok w0) h0 (cs20_gd h0) (fd := fnOf Tryz.f20) rfl (L := [ldP 0 (fnOf Tryz.f20).ntmps rel20 .normal (st20 g (0, 0))]) (o := []) ((body20 g .normal (0, 0) (.inr rfl)).trans ?_) trivial
   rw [he]; rfl
 | false =>
   cases hs : ((g.l.length : Int) != W (g.w * g.h)) with
   | true =>
     refine fnD_t (cfg_ok w0) h0 (cs20_gd h0) (fd := fnOf Tryz.f20) rfl (L := [ldP 0 (fnOf Tryz.f20).ntmps rel20 .normal (st20 g (0, 0))]) (o := []) ((body20 g .normal (0, 0) (.inr rfl)).trans ?_) trivial
     rw [he, hs]; rfl
   | false =>
     refine fn_ls h0 (cs20_gd h0) (fd := fnOf Tryz.f20) rfl rel20 g.l (by omega) (st20 g) (fun x a => bif enZ x != 0 then (X.ret, enZ x) else (.normal, a)) (fun _ _ => True) (a0 := 0) trivial
      (fun j a hj _ => .leaf (by
       rw [round20, inb 1 hj, lt_t hj, Int.toNat_natCast]
       cases (enZ (nth g.l j) != 0) <;> rfl)) (fun _ _ _ _ _ _ => trivial)
      (fun a _ => .leaf (by rw [round20, ge_f]; rfl)) fun x p hx => ?_
     obtain ⟨q, hq⟩ := lsRun_first enZ g.l 0 0
     rw [hq] at hx
     simp only [cond_false]
     cases hf : (firstZ (g.l.map enZ) != 0) <;> rw [hf] at hx <;> cases hx
     ·rw [show firstZ (g.l.map enZ) = 0 by simpa using hf]
      exact (body20 g _ _ (.inr rfl)).trans (by rw [he, hs]; rfl)
     ·exact (body20 g _ _ (.inl rfl)).trans (by rw [he, hs]; rfl)
theorem gd20 (h0 : Lib0 w0) : Gd (cfg w0) (chkC 20) := gd_g fun b a d hd => by
 obtain ⟨hg, hd⟩ := br_run hd
 cases hd
 exact fn20 h0 b (Nat.le_of_ble_eq_true hg)
def lbE (x : Tup intK) : Tup intK := t1 (levB (i1 x))
end
end Go.Proofs.YthcpfignhalffaaGreatDoor
