/-
 A part of the proof of the statement that the claim names: see the last file.
-/
import Derived.Test.YtmlglimahbjgbaaGreatDoorD2
import Derived.Test.YtmlglimahbjgbaaGreatDoorAm5
namespace Go.Proofs.YtmlglimahbjgbaaGreatDoor
open Go Go.Am Go.Town
set_option maxRecDepth 100000
variable {w0 : World}
noncomputable section
abbrev ptK : List Kd := [ik, ik]
structure Bd where
 nm : ByteArray
 cs : List (Tup ptK)
 h : Int
 e : Int
def bcs (b : Bd) : List D := [Str b.nm, .vec ptK b.cs, I b.h, I b.e]
def bD (b : Bd) : D := .agg (bcs b)
def inW (n : Int) : Bool := decide (-9223372036854775808 ≤ n) && decide (n ≤ 9223372036854775807)
def txt (n : Int) : ByteArray := ⟨(itoaL n).toArray⟩
def c150 : Ct := ct 150 [.c ik] fun a => .br (inW a.1) (.leaf (Str (txt a.1))) .bad
def csW : List Ct := [c150]
def rel136 : List (Nat × Cv) := [(1, .id), (7, .id), (8, .id), (9, .id), (3, .ov wallK)]
def st136 (b : Bd) (a : Int × List (Tup wallK)) : List D := [.obox (bcs b), .vec ptK b.cs, I b.cs.length, I a.1, .ovec wallK a.2]
def us : ByteArray := ⟨#[95]⟩
def edgeI (b : Bd) (j : Int) : Tup wallK :=
 (b.nm ++ us ++ txt j, (nth b.cs (j.toNat + 0)).1, (nth b.cs (j.toNat + 0)).2.1, (nth b.cs (((W (j + 1)).tmod (b.cs.length : Int)).toNat + 0)).1, (nth b.cs (((W (j + 1)).tmod (b.cs.length : Int)).toNat + 0)).2.1, b.h, b.e, ())
def edgeT (b : Bd) (j : Nat) : Tup wallK :=
 (b.nm ++ us ++ txt j, (nth b.cs j).1, (nth b.cs j).2.1, (nth b.cs ((j + 1) % b.cs.length)).1, (nth b.cs ((j + 1) % b.cs.length)).2.1, b.h, b.e, ())
def edges (b : Bd) : List (Tup wallK) := (List.range' 0 b.cs.length).map (edgeT b)
theorem round136 (b : Bd) (j : Int) (out : List (Tup wallK)) : rndD ((cfg w0).at csW) 40 [] 40 (fnOf Tryz.f136).ntmps rel136 (lpB 0 (fnOf Tryz.f136).body) (st136 b (j, out)) =
  bif decide (j < b.cs.length) then
   bif (Nat.beq 2 2 && (decide (0 ≤ j) && decide (j < b.cs.length))) then
    bif Nat.ble (b.nm.size + us.size) 9223372036854775807 then
     bif inW j then
      bif Nat.ble ((b.nm ++ us).size + (txt j).size) 9223372036854775807 then
       bif decide ((b.cs.length : Int) = 0) then none else
        bif (Nat.beq 2 2 && (decide (0 ≤ (W (j + 1)).tmod (b.cs.length : Int)) && decide ((W (j + 1)).tmod (b.cs.length : Int) < b.cs.length))) then
         bif (Nat.ble ((out ++ [edgeI b j]).length * 64) 1000000000000 && Nat.ble (out ++ [edgeI b j]).length 1000000000000) then
          some ([], .normal, st136 b (W (j + 1), out ++ [edgeI b j]))
         else none
        else none
      else none
     else none
    else none
   else none
  else some ([], .exit 0, st136 b (j, out)) := by cases b; kernel_rfl
theorem body136 (b : Bd) (p : Int × List (Tup wallK)) : bodyT ((cfg w0).at csW) 40 [ldP 0 (fnOf Tryz.f136).ntmps rel136 .normal (st136 b p)] 40 (fnOf Tryz.f136) [bD b] =
  some ([(ldP 0 (fnOf Tryz.f136).ntmps rel136 .normal (st136 b p), .loop (lpB 0 (fnOf Tryz.f136).body), st136 b (0, []))], .vec wallK p.2) := by cases b; kernel_rfl
theorem digs_len : ∀ (f n : Nat) (acc : List UInt8), (digs f n acc).length ≤ f + acc.length
 | 0, n, acc => by simp [digs]
 | f + 1, n, acc => by
   unfold digs
   split
   ·simp; omega
   ·have := digs_len f (n / 10) (UInt8.ofNat (48 + n % 10) :: acc)
    simp only [List.length_cons] at this
    omega
theorem txt_size (n : Int) : (txt n).size ≤ 21 := by
 cases n with
 | ofNat m =>
   have := digs_len 20 m []
   simp only [List.length_nil] at this
   show (digs 20 m []).length ≤ 21
   omega
 | negSucc m =>
   have := digs_len 20 (m + 1) []
   simp only [List.length_nil] at this
   show (45 :: digs 20 (m + 1) []).length ≤ 21
   simp only [List.length_cons]
   omega
theorem us_size : us.size = 1 := rfl
theorem W_nat {n : Nat} (h : n < 4611686018427387904) : W ((n : Int) + 1) = ((n + 1 : Nat) : Int) := wrap_nat h
theorem tmod_n (a n : Nat) : ((a : Int)).tmod (n : Int) = ((a % n : Nat) : Int) := rfl
theorem edgeI_nat {b : Bd} {j : Nat} (h : j < 1000000) : edgeI b (j : Int) = edgeT b j := by
 unfold edgeI edgeT
 rw [W_nat (by omega), tmod_n]
 simp only [Int.toNat_natCast, Nat.add_zero]
 rfl
theorem inW_nat {j : Nat} (h : j < 1000000) : inW (j : Int) = true := by
 unfold inW
 simp only [Bool.and_eq_true, decide_eq_true_eq]
 omega
theorem csW_gd (h0 : Lib0 w0) : Gds (cfg w0) csW := ⟨gd_sig fun a d hd => by
 obtain ⟨hg, hd⟩ := br_run hd
 cases hd
 refine h0.1 150 itoaF rfl _ _ ?_
 show itoaF [.val (.int .i64 a.1)] = _
 unfold itoaF
 unfold inW at hg
 simp only [hg]
 rfl, trivial⟩
theorem fn136 (h0 : Lib0 w0) (b : Bd) (hn : b.nm.size ≤ 1000) (hl : b.cs.length ≤ 1000) : FnD (cfg w0) 136 [bD b] (.vec wallK (edges b)) := by
 refine fn_rg h0 (csW_gd h0) (fd := fnOf Tryz.f136) rfl rel136 b.cs.length (by omega) (st136 b) (fun j out => (X.normal, out ++ [edgeT b j])) (fun j a => a.length = j) (a0 := []) rfl
  (fun j a hj hi => .leaf (by
   have hi : a.length = j := hi
   have h0 : j < 1000000 := by omega
   have h1 : Nat.ble (b.nm.size + us.size) 9223372036854775807 = true := Nat.ble_eq_true_of_le (by rw [us_size]; omega)
   have h2 : Nat.ble ((b.nm ++ us).size + (txt j).size) 9223372036854775807 = true := Nat.ble_eq_true_of_le (by
    have := txt_size j
    rw [ByteArray.size_append, us_size]
    omega)
   have h3 : decide ((b.cs.length : Int) = 0) = false := decide_eq_false (by omega)
   have h4 : (Nat.beq 2 2 && (decide (0 ≤ (W ((j : Int) + 1)).tmod (b.cs.length : Int)) && decide ((W ((j : Int) + 1)).tmod (b.cs.length : Int) < b.cs.length))) = true := by
    rw [W_nat (by omega), tmod_n]
    exact inb 2 (Nat.mod_lt _ (by omega))
   rw [round136, inb 2 hj, lt_t hj, h1, inW_nat h0, h2, h3, h4, edgeI_nat h0, room (by omega) (by omega)]
   rfl)) (fun j a a' _ hi h => by cases h; simp [hi])
  (fun a _ => .leaf (by rw [round136, ge_f]; rfl)) fun x p hx => ?_
 rw [rgRun_fold 0 (h := fun j out => out ++ [edgeT b j]) _ _ _ (fun _ _ _ _ => rfl), foldl_snoc (edgeT b)] at hx
 cases hx
 exact body136 b _
def asB1 (ds : List D) : Option Bd :=
 match ds with
 | [.val (.string nm), .vec ks l, .val (.int .i64 h), .val (.int .i64 e)] => match recast ks ptK l with
   | some cs => some ⟨nm, cs, h, e⟩
   | none => none
 | _ => none
theorem asB1_eq {ds : List D} {b : Bd} (h : asB1 ds = some b) : ds = bcs b := by
 unfold asB1 at h
 split at h
 ·split at h
  ·rename_i hr
   cases h
   obtain ⟨e, rfl⟩ := recast_eq hr
   subst e
   rfl
  ·cases h
 ·cases h
def asB (d : D) : Option Bd :=
 match d with
 | .agg ds => asB1 ds
 | _ => none
theorem asB_eq {d : D} {b : Bd} (h : asB d = some b) : d = bD b := by
 unfold asB at h
 split at h
 ·rw [asB1_eq h]; rfl
 ·cases h
def smallB (b : Bd) : Bool := Nat.ble b.nm.size 1000 && Nat.ble b.cs.length 1000
def bC (g : Nat) (F : Bd → FT D) : Ct := ct g [.x] fun a => match asB a.1 with
 | some b => F b
 | none => .bad
theorem gd_b {g : Nat} {F : Bd → FT D} (h : ∀ b d, (F b).run = some d → FnD (cfg w0) g [bD b] d) : Gd (cfg w0) (bC g F) := gd_sig fun a d hd => by
 obtain ⟨x, u⟩ := a
 simp only at hd
 cases hb : asB x with
 | none => rw [hb] at hd; cases hd
 | some b =>
   rw [hb] at hd
   have := h b d hd
   cases asB_eq hb
   exact this
def c136 : Ct := bC 136 fun b => .br (smallB b) (.leaf (.vec wallK (edges b))) .bad
theorem gd136 (h0 : Lib0 w0) : Gd (cfg w0) c136 := gd_b fun b d hd => by
 obtain ⟨hg, hd⟩ := br_run hd
 cases hd
 simp only [smallB, Bool.and_eq_true, Nat.ble_eq] at hg
 exact fn136 h0 b hg.1 hg.2
def rel177 : List (Nat × Cv) := [(1, .id), (8, .id), (9, .id), (10, .id), (2, .id)]
def rel177i : List (Nat × Cv) := [(1, .id), (8, .id), (9, .id), (10, .id), (3, .id), (4, .id), (16, .id), (17, .id), (18, .id), (2, .id)]
def wcs (w : Tup wallK) : List D := [Str w.1, I w.2.1, I w.2.2.1, I w.2.2.2.1, I w.2.2.2.2.1, I w.2.2.2.2.2.1, I w.2.2.2.2.2.2.1]
def st177 (b : Bd) (ws : List (Tup wallK)) (a : Int × Bool) : List D := [.obox (bcs b), .ovec wallK ws, I ws.length, I a.1, Bo a.2]
def st177i (b : Bd) (ws : List (Tup wallK)) (w : Tup wallK) (i : Int) (a : Int × Bool) : List D := [.obox (bcs b), .ovec wallK ws, I ws.length, I i, I i, .obox (wcs w), .vec ptK b.cs, I b.cs.length, I a.1, Bo a.2]
def sd6 (ax ay bx by' px py : Int) : Int := W (W (W (bx - ax) * W (py - W (ay * 1))) - W (W (by' - ay) * W (px - W (ax * 1))))
def sdW (w : Tup wallK) (p : Tup ptK) : Int := sd6 w.2.1 w.2.2.1 w.2.2.2.1 w.2.2.2.2.1 p.1 p.2.1
theorem round177i (b : Bd) (ws : List (Tup wallK)) (w : Tup wallK) (i j : Int) (r : Bool) : rndD ((cfg w0).at [c136]) 40 [] 40 (fnOf Tryz.f177).ntmps rel177i (lpB 2 (fnOf Tryz.f177).body) (st177i b ws w i (j, r)) =
  bif decide (j < b.cs.length) then
   bif (Nat.beq 2 2 && (decide (0 ≤ j) && decide (j < b.cs.length))) then
    bif j != i then
     bif decide ((b.cs.length : Int) = 0) then none else
      bif j != (W (i + 1)).tmod (b.cs.length : Int) then
       bif decide (sdW w (nth b.cs (j.toNat + 0)) ≤ 0) then some ([], .ret, st177i b ws w i (j, false)) else some ([], .normal, st177i b ws w i (W (j + 1), r))
      else some ([], .normal, st177i b ws w i (W (j + 1), r))
    else some ([], .normal, st177i b ws w i (W (j + 1), r))
   else none
  else some ([], .exit 2, st177i b ws w i (j, r)) := by cases b; kernel_rfl
def ld177i (b : Bd) (ws : List (Tup wallK)) (i : Int) (x : X) (p : Int × Bool) : Ld := ldP 2 (fnOf Tryz.f177).ntmps rel177i x (st177i b ws (nth ws (i.toNat + 0)) i p)
theorem round177n (b : Bd) (ws : List (Tup wallK)) (i : Int) (r : Bool) (p : Int × Bool) : rndD ((cfg w0).at [c136]) 40 [ld177i b ws i .normal p] 40 (fnOf Tryz.f177).ntmps rel177 (lpB 0 (fnOf Tryz.f177).body) (st177 b ws (i, r)) =
  bif decide (i < ws.length) then
   bif (Nat.beq 7 7 && (decide (0 ≤ i) && decide (i < ws.length))) then
    some ([(ld177i b ws i .normal p, .loop (lpB 2 (fnOf Tryz.f177).body), st177i b ws (nth ws (i.toNat + 0)) i (0, r))], .normal, st177 b ws (W (i + 1), p.2))
   else none
  else some ([], .exit 0, st177 b ws (i, r)) := by cases b; kernel_rfl
theorem round177r (b : Bd) (ws : List (Tup wallK)) (i : Int) (r : Bool) (p : Int × Bool) : rndD ((cfg w0).at [c136]) 40 [ld177i b ws i .ret p] 40 (fnOf Tryz.f177).ntmps rel177 (lpB 0 (fnOf Tryz.f177).body) (st177 b ws (i, r)) =
  bif decide (i < ws.length) then
   bif (Nat.beq 7 7 && (decide (0 ≤ i) && decide (i < ws.length))) then
    some ([(ld177i b ws i .ret p, .loop (lpB 2 (fnOf Tryz.f177).body), st177i b ws (nth ws (i.toNat + 0)) i (0, r))], .ret, st177 b ws (i, p.2))
   else none
  else some ([], .exit 0, st177 b ws (i, r)) := by cases b; kernel_rfl
theorem body177 (b : Bd) (x : X) (p : Int × Bool) (hx : x = .ret ∨ x = .normal) : bodyT ((cfg w0).at [c136]) 40 [ldP 0 (fnOf Tryz.f177).ntmps rel177 x (st177 b (edges b) p)] 40 (fnOf Tryz.f177) [bD b] =
  bif smallB b then some ([(ldP 0 (fnOf Tryz.f177).ntmps rel177 x (st177 b (edges b) p), .loop (lpB 0 (fnOf Tryz.f177).body), st177 b (edges b) (0, false))], onX x (Bo p.2) (Bo true)) else none := by
 cases b
 rcases hx with rfl | rfl <;> kernel_rfl
def badT (b : Bd) (w : Tup wallK) (i k : Nat) : Bool := k != i && (k != (i + 1) % b.cs.length && decide (sdW w (nth b.cs k) ≤ 0))
def badE (b : Bd) (i : Nat) : Bool := (List.range' 0 b.cs.length).any (badT b (edgeT b i) i)
def turnsB (b : Bd) : Bool := !(List.range' 0 b.cs.length).any (badE b)
theorem edges_len (b : Bd) : (edges b).length = b.cs.length := by simp [edges]
theorem edges_nth {b : Bd} {i : Nat} (h : i < b.cs.length) : nth (edges b) i = edgeT b i := by
 simp [nth, edges, h]
theorem bne_nat (a b : Nat) : ((a : Int) != (b : Int)) = (a != b) := by
 rw [Bool.eq_iff_iff]; simp [bne_iff_ne, Int.ofNat_inj]
theorem cs136_gd (h0 : Lib0 w0) : Gds (cfg w0) [c136] := ⟨gd136 h0, trivial⟩
theorem fn177 (h0 : Lib0 w0) (b : Bd) (hs : smallB b = true) : FnD (cfg w0) 177 [bD b] (Bo (turnsB b)) := by
 have hs' := hs
 simp only [smallB, Bool.and_eq_true, Nat.ble_eq] at hs'
 have hl := hs'.2
 have el := edges_len b
 refine fn_rg h0 (cs136_gd h0) (fd := fnOf Tryz.f177) rfl rel177 (edges b).length (by omega) (st177 b (edges b)) (fun i r => bif badE b i then (X.ret, false) else (.normal, r)) (fun _ _ => True) (a0 := false) trivial
  (fun i r hi _ => by
   obtain ⟨q, hq⟩ := rgRun_any (id := 2) (p := badT b (edgeT b i) i) (c := false) b.cs.length 0 r
   have key := fun x p => ldT_rg (at_ok (cfg_ok w0) [c136]) (at_sp h0 (cs136_gd h0)) (N := (fnOf Tryz.f177).ntmps) (rel := rel177i) (B := lpB 2 (fnOf Tryz.f177).body) (id := 2) (k := b.cs.length) (by omega) (st177i b (edges b) (nth (edges b) ((i : Int).toNat + 0)) i) (fun k r => bif badT b (edgeT b i) i k then (X.ret, false) else (.normal, r)) (fun _ _ => True)
    (fun k r hk _ => .leaf (by
     have h3 : decide ((b.cs.length : Int) = 0) = false := decide_eq_false (by omega)
     rw [round177i, inb 2 hk, lt_t hk, h3, W_nat (by omega), tmod_n, bne_nat, bne_nat, Int.toNat_natCast, Int.toNat_natCast, Nat.add_zero, Nat.add_zero, edges_nth (by omega)]
     unfold badT
     cases (k != i) with
     | false => rfl
     | true =>
       cases (k != (i + 1) % b.cs.length) with
       | false => rfl
       | true => cases decide (sdW (edgeT b i) (nth b.cs k) ≤ 0) <;> rfl)) (fun _ _ _ _ _ _ => trivial)
    (fun r _ => .leaf (by rw [round177i, ge_f]; rfl)) (a0 := r) trivial (x := x) (p := p)
   have hbe : badE b i = (List.range' 0 b.cs.length).any (badT b (edgeT b i) i) := rfl
   rw [← hbe] at hq
   cases hb : badE b i <;> rw [hb] at hq
   ·refine .one ((round177n b (edges b) i r (((0 + b.cs.length : Nat) : Int), r)).trans ?_) (key _ _ hq)
    rw [inb 7 hi, lt_t hi]
    rfl
   ·refine .one ((round177r b (edges b) i r ((q : Int), false)).trans ?_) (key _ _ hq)
    rw [inb 7 hi, lt_t hi]
    rfl) (fun _ _ _ _ _ _ => trivial)
  (fun r _ => .leaf (by rw [round177n b (edges b) _ r (0, r), ge_f]; rfl)) fun x p hx => ?_
 obtain ⟨q, hq⟩ := rgRun_any (id := 0) (p := badE b) (c := false) (edges b).length 0 false
 rw [hq] at hx
 unfold turnsB
 rw [el] at hx
 cases hb : (List.range' 0 b.cs.length).any (badE b) <;> rw [hb] at hx <;> cases hx
 ·exact (body177 b _ _ (.inr rfl)).trans (by rw [hs]; rfl)
 ·exact (body177 b _ _ (.inl rfl)).trans (by rw [hs]; rfl)
def c177 : Ct := bC 177 fun b => .br (smallB b) (.leaf (Bo (turnsB b))) .bad
theorem gd177 (h0 : Lib0 w0) : Gd (cfg w0) c177 := gd_b fun b d hd => by
 obtain ⟨hg, hd⟩ := br_run hd
 cases hd
 exact fn177 h0 b hg
end
end Go.Proofs.YtmlglimahbjgbaaGreatDoor
namespace Go.Proofs.YtmlglimahbjgbaaGreatDoor
open Go Go.Am Go.Town
set_option maxRecDepth 100000
variable {w0 : World}
noncomputable section
def cPt (p : Tup ptK) : Tup intK := t1 (chkPoint p.1 p.2.1)
def f100 : D := .fn 100 [] []
def cs176 : List Ct := [⟨100, tG checkPointF⟩]
def st176 (l : List (Tup ptK)) (a : Int × List (Tup intK)) : List D := [.vec ptK l, I l.length, I a.1, .ovec intK a.2, f100]
def rel176 : List (Nat × Cv) := [(8, .id), (9, .id), (10, .id), (5, .ov intK), (1, .id)]
theorem round176 (l : List (Tup ptK)) (j : Int) (out : List (Tup intK)) :
  rndD ((cfg w0).at cs176) 40 [] 40 (fnOf Tryz.f176).ntmps rel176 (lpB 0 (fnOf Tryz.f176).body) (st176 l (j, out)) =
   bif decide (j < l.length) then
    bif (Nat.beq 2 2 && (decide (0 ≤ j) && decide (j < l.length))) then
     bif (Nat.ble ((out ++ [cPt (nth l j.toNat)]).length * 8) 1000000000000 && Nat.ble (out ++ [cPt (nth l j.toNat)]).length 1000000000000) then
      some ([], .normal, st176 l (W (j + 1), out ++ [cPt (nth l j.toNat)]))
     else none
    else none
   else some ([], .exit 0, st176 l (j, out)) := by kernel_rfl
theorem body176 (l : List (Tup ptK)) (j : Int) (ys : List (Tup intK)) :
  bodyT ((cfg w0).at cs176) 40 [ldP 0 (fnOf Tryz.f176).ntmps rel176 .normal (st176 l (j, ys))] 40 (fnOf Tryz.f176) [.vec ptK l, f100] =
   some ([(ldP 0 (fnOf Tryz.f176).ntmps rel176 .normal (st176 l (j, ys)), .loop (lpB 0 (fnOf Tryz.f176).body), st176 l (0, []))], .vec intK ys) := by kernel_rfl
theorem fn176 (h0 : Lib0 w0) (l : List (Tup ptK)) (hg : l.length ≤ 100000) : FnD (cfg w0) 176 [.vec ptK l, f100] (.vec intK (l.map cPt)) := by
 refine fn_ls h0 (cs := cs176) ⟨gd_of (checkPoint_good h0), trivial⟩ (fd := fnOf Tryz.f176) rfl rel176 l (by omega) (st176 l) (fun w a => (X.normal, a ++ [cPt w])) (fun j a => a.length = j) (a0 := []) rfl
  (fun j a hj hi => .leaf (by
   have hi : a.length = j := hi
   rw [round176, inb 2 hj, lt_t hj, Int.toNat_natCast, room (by omega) (by omega)]
   rfl)) (fun j a a' _ hi h => by cases h; simp [hi])
  (fun a _ => .leaf (by rw [round176, ge_f]; rfl)) fun x p hx => ?_
 rw [lsRun_fold (h := fun w b => b ++ [cPt w]) 0 l 0 [] (fun _ _ _ => rfl), foldl_snoc cPt] at hx
 cases hx
 exact body176 l _ _
def is100 (d : D) : Bool :=
 match d with
 | .fn 100 [] [] => true
 | _ => false
theorem is100_eq {d : D} (h : is100 d = true) : d = f100 := by
 unfold is100 at h
 split at h
 ·rfl
 ·cases h
def c176 : Ct := ct 176 [.v ptK, .x] fun a => match is100 a.2.1 with
 | true => .br (Nat.ble (a.1 : List (Tup ptK)).length 100000) (.leaf (.vec intK ((a.1 : List (Tup ptK)).map cPt))) .bad
 | false => .bad
theorem gd176 (h0 : Lib0 w0) : Gd (cfg w0) c176 := gd_sig fun a d hd => by
 obtain ⟨l, f, u⟩ := a
 simp only at hd
 cases hb : is100 f with
 | false => rw [hb] at hd; cases hd
 | true =>
   rw [hb] at hd
   obtain ⟨hg, hd⟩ := br_run hd
   cases hd
   cases is100_eq hb
   exact fn176 h0 l (Nat.le_of_ble_eq_true hg)
def cs137 : List Ct := [c177, c176, firstC 98, ⟨158, tG nameF⟩, ⟨119, tG whenF⟩, ⟨159, tG (intsF (rangeK 1 1000))⟩, ⟨160, tG (intsF (rangeK 0 1000))⟩]
theorem cs137_gd (h0 : Lib0 w0) : Gds (cfg w0) cs137 := ⟨gd177 h0, gd176 h0, gd98 h0, gd_of (name_good h0), gd_of (when_good h0), gd_of (checkHeight_good h0), gd_of (checkEcho_good h0), trivial⟩
def e1B (b : Bd) : Int := firstZ [whenZ (!isName b.nm || decide ((b.nm.size : Int) > 22)) 8, whenZ (decide ((b.cs.length : Int) < 3)) 16, whenZ (decide ((b.cs.length : Int) > 8)) 5]
def e2B (b : Bd) : Int := firstZ [firstZ ((b.cs.map cPt).map i1), whenZ (!turnsB b) 2, withinZ b.h 1 1000, withinZ b.e 0 1000]
def chkB (b : Bd) : Int := bif e1B b != 0 then e1B b else e2B b
def e1n (b : Bd) (x : Bool) : Int := firstZ [whenZ x 8, whenZ (decide ((b.cs.length : Int) < 3)) 16, whenZ (decide ((b.cs.length : Int) > 8)) 5]
theorem run137 (b : Bd) : bodyK ((cfg w0).at cs137) 40 (fnOf Tryz.f137) [bD b] =
  bif (!isName b.nm) then some (I (e1n b true))
  else bif e1n b (decide ((b.nm.size : Int) > 22)) != 0 then some (I (e1n b (decide ((b.nm.size : Int) > 22))))
  else bif Nat.ble b.cs.length 100000 then bif Nat.ble (b.cs.map cPt).length 100000 then bif smallB b then some (I (e2B b)) else none else none else none := by cases b; kernel_rfl
theorem fn137 (h0 : Lib0 w0) (b : Bd) (hs : smallB b = true) : FnD (cfg w0) 137 [bD b] (I (chkB b)) := by
 refine fnD_k (cfg_ok w0) h0 (cs137_gd h0) (fd := fnOf Tryz.f137) rfl (n := 40) ((run137 b).trans ?_)
 have hs' := hs
 simp only [smallB, Bool.and_eq_true, Nat.ble_eq] at hs'
 have h1 : Nat.ble b.cs.length 100000 = true := Nat.ble_eq_true_of_le (by omega)
 have h2 : Nat.ble (b.cs.map cPt).length 100000 = true := Nat.ble_eq_true_of_le (by rw [List.length_map]; omega)
 rw [h1, h2, hs]
 unfold chkB
 have he : e1B b = e1n b (!isName b.nm || decide ((b.nm.size : Int) > 22)) := rfl
 rw [he]
 cases hn : (!isName b.nm) with
 | true => rfl
 | false =>
   simp only [cond_false, cond_true, Bool.false_or]
   cases (e1n b (decide ((b.nm.size : Int) > 22)) != 0) <;> rfl
def checkBC (g : Nat) : Ct := bC g fun b => .br (smallB b) (.leaf (I (chkB b))) .bad
theorem gd137 (h0 : Lib0 w0) : Gd (cfg w0) (checkBC 137) := gd_b fun b d hd => by
 obtain ⟨hg, hd⟩ := br_run hd
 cases hd
 exact fn137 h0 b hg
def sdT (p : Tup ptK) (w : Tup wallK) : Tup intK := t1 (sdW w p)
def ptD (p : Tup ptK) : D := .box [I p.1, I p.2.1]
def fn178 (p : Tup ptK) : D := .fn 178 [] [ptD p]
def st168b (l : List (Tup wallK)) (p : Tup ptK) (a : Int × List (Tup intK)) : List D := [.vec wallK l, I l.length, I a.1, .ovec intK a.2, fn178 p]
theorem round168b (l : List (Tup wallK)) (p : Tup ptK) (j : Int) (out : List (Tup intK)) :
  rndD ((cfg w0).at []) 40 [] 40 (fnOf Tryz.f168).ntmps rel168 (lpB 0 (fnOf Tryz.f168).body) (st168b l p (j, out)) =
   bif decide (j < l.length) then
    bif (Nat.beq 7 7 && (decide (0 ≤ j) && decide (j < l.length))) then
     bif (Nat.ble ((out ++ [sdT p (nth l j.toNat)]).length * 8) 1000000000000 && Nat.ble (out ++ [sdT p (nth l j.toNat)]).length 1000000000000) then
      some ([], .normal, st168b l p (W (j + 1), out ++ [sdT p (nth l j.toNat)]))
     else none
    else none
   else some ([], .exit 0, st168b l p (j, out)) := by kernel_rfl
theorem body168b (l : List (Tup wallK)) (p : Tup ptK) (j : Int) (ys : List (Tup intK)) :
  bodyT ((cfg w0).at []) 40 [ldP 0 (fnOf Tryz.f168).ntmps rel168 .normal (st168b l p (j, ys))] 40 (fnOf Tryz.f168) [.vec wallK l, fn178 p] =
   some ([(ldP 0 (fnOf Tryz.f168).ntmps rel168 .normal (st168b l p (j, ys)), .loop (lpB 0 (fnOf Tryz.f168).body), st168b l p (0, []))], .vec intK ys) := by kernel_rfl
theorem fn168b (h0 : Lib0 w0) (l : List (Tup wallK)) (p : Tup ptK) (hg : l.length ≤ 100000) : FnD (cfg w0) 168 [.vec wallK l, fn178 p] (.vec intK (l.map (sdT p))) := by
 refine fn_ls h0 (cs := []) trivial (fd := fnOf Tryz.f168) rfl rel168 l (by omega) (st168b l p) (fun w a => (X.normal, a ++ [sdT p w])) (fun j a => a.length = j) (a0 := []) rfl
  (fun j a hj hi => .leaf (by
   have hi : a.length = j := hi
   rw [round168b, inb 7 hj, lt_t hj, Int.toNat_natCast, room (by omega) (by omega)]
   rfl)) (fun j a a' _ hi h => by cases h; simp [hi])
  (fun a _ => .leaf (by rw [round168b, ge_f]; rfl)) fun x q hx => ?_
 rw [lsRun_fold (h := fun w b => b ++ [sdT p w]) 0 l 0 [] (fun _ _ _ => rfl), foldl_snoc (sdT p)] at hx
 cases hx
 exact body168b l p _ _
def as178 (d : D) : Option (Tup ptK) :=
 match d with
 | .fn 178 [] [.box [.val (.int .i64 a), .val (.int .i64 b)]] => some (a, b, ())
 | _ => none
theorem as178_eq {d : D} {p : Tup ptK} (h : as178 d = some p) : d = fn178 p := by
 unfold as178 at h
 split at h
 ·cases h; rfl
 ·cases h
def c168b : Ct := ct 168 [.v wallK, .x] fun a => match as178 a.2.1 with
 | some p => .br (Nat.ble (a.1 : List (Tup wallK)).length 100000) (.leaf (.vec intK ((a.1 : List (Tup wallK)).map (sdT p)))) .bad
 | none => .bad
theorem gd168b (h0 : Lib0 w0) : Gd (cfg w0) c168b := gd_sig fun a d hd => by
 obtain ⟨l, f, u⟩ := a
 simp only at hd
 cases hb : as178 f with
 | none => rw [hb] at hd; cases hd
 | some p =>
   rw [hb] at hd
   obtain ⟨hg, hd⟩ := br_run hd
   cases hd
   cases as178_eq hb
   exact fn168b h0 l p (Nat.le_of_ble_eq_true hg)
def cs138 : List Ct := [c136, c168b]
def ptA (p : Tup ptK) : D := .agg [I p.1, I p.2.1]
def sidesB (b : Bd) (p : Tup ptK) : List (Tup intK) := (edges b).map (sdT p)
theorem run138 (b : Bd) (p : Tup ptK) : bodyK ((cfg w0).at cs138) 40 (fnOf Tryz.f138) [bD b, ptA p] =
  bif smallB b then bif Nat.ble (edges b).length 100000 then some (.vec intK (sidesB b p)) else none else none := by cases b; kernel_rfl
def bpC (g : Nat) (F : Bd → Tup ptK → FT D) : Ct := ct g [.x, .b ptK] fun a => match asB a.1 with
 | some b => F b a.2.1
 | none => .bad
theorem gd_bp {g : Nat} {F : Bd → Tup ptK → FT D} (h : ∀ b p d, (F b p).run = some d → FnD (cfg w0) g [bD b, ptA p] d) : Gd (cfg w0) (bpC g F) := gd_sig fun a d hd => by
 obtain ⟨x, p, u⟩ := a
 simp only at hd
 cases hb : asB x with
 | none => rw [hb] at hd; cases hd
 | some b =>
   rw [hb] at hd
   have := h b p d hd
   cases asB_eq hb
   exact this
theorem edges_ble {b : Bd} (hs : smallB b = true) : Nat.ble (edges b).length 100000 = true := Nat.ble_eq_true_of_le (by
 simp only [smallB, Bool.and_eq_true, Nat.ble_eq] at hs
 rw [edges_len]; omega)
def c138 : Ct := bpC 138 fun b p => .br (smallB b) (.leaf (.vec intK (sidesB b p))) .bad
theorem gd138 (h0 : Lib0 w0) : Gd (cfg w0) c138 := gd_bp fun b p d hd => by
 obtain ⟨hg, hd⟩ := br_run hd
 cases hd
 exact fnD_k (cfg_ok w0) h0 (cs := cs138) ⟨gd136 h0, gd168b h0, trivial⟩ (fd := fnOf Tryz.f138) rfl (n := 40) ((run138 b p).trans (by rw [hg, edges_ble hg]; rfl))
def cs65 : List Ct := [checkBC 137, ⟨100, tG checkPointF⟩, firstC 98, c138]
theorem cs65_gd (h0 : Lib0 w0) : Gds (cfg w0) cs65 := ⟨gd137 h0, gd_of (checkPoint_good h0), gd98 h0, gd138 h0, trivial⟩
def rel65 : List (Nat × Cv) := [(21, .id), (22, .id), (23, .id), (7, .ov intK)]
def st65 (l : List (Tup intK)) (a : Int × List (Tup intK)) : List D := [.ovec intK l, I l.length, I a.1, .ovec intK a.2]
def errBP (b : Bd) (p : Tup ptK) : Int := firstZ [chkB b, chkPoint p.1 p.2.1]
def facL (l : List (Tup intK)) : List (Tup intK) := (List.range' 0 l.length).foldl (fun out j => bif decide (i1 (nth l j) < 0) then out ++ [t1 j] else out) []
theorem round65 (l : List (Tup intK)) (j : Int) (out : List (Tup intK)) :
  rndD ((cfg w0).at cs65) 40 [] 40 (fnOf Tryz.f65).ntmps rel65 (lpB 0 (fnOf Tryz.f65).body) (st65 l (j, out)) =
   bif decide (j < l.length) then
    bif (Nat.beq 1 1 && (decide (0 ≤ j) && decide (j < l.length))) then
     bif decide (i1 (nth l (j.toNat + 0)) < 0) then
      bif (Nat.ble ((out ++ [t1 j]).length * 8) 1000000000000 && Nat.ble (out ++ [t1 j]).length 1000000000000) then
       some ([], .normal, st65 l (W (j + 1), out ++ [t1 j]))
      else none
     else some ([], .normal, st65 l (W (j + 1), out))
    else none
   else some ([], .exit 0, st65 l (j, out)) := by kernel_rfl
theorem body65 (b : Bd) (p : Tup ptK) (q : Int × List (Tup intK)) :
  bodyT ((cfg w0).at cs65) 40 [ldP 0 (fnOf Tryz.f65).ntmps rel65 .normal (st65 (sidesB b p) q)] 40 (fnOf Tryz.f65) [bD b, ptA p] =
   bif smallB b then
    bif errBP b p != 0 then some ([], .tup [.val (.slice none 0 0), I (errBP b p)])
    else bif smallB b then some ([(ldP 0 (fnOf Tryz.f65).ntmps rel65 .normal (st65 (sidesB b p) q), .loop (lpB 0 (fnOf Tryz.f65).body), st65 (sidesB b p) (0, []))], .tup [.vec intK q.2, I 0]) else none
   else none := by cases b; kernel_rfl
theorem step_len {l : List (Tup intK)} {j : Nat} {a : List (Tup intK)} {k : Nat} (h : a.length ≤ k) : (bif decide (i1 (nth l j) < 0) then a ++ [t1 j] else a).length ≤ k + 1 := by
 cases decide (i1 (nth l j) < 0) <;> simp <;> omega
theorem sides_len {b : Bd} {p : Tup ptK} : (sidesB b p).length = b.cs.length := by unfold sidesB; rw [List.length_map, edges_len]
theorem fn65 (h0 : Lib0 w0) (b : Bd) (p : Tup ptK) (hs : smallB b = true) : FnD (cfg w0) 65 [bD b, ptA p] (bif errBP b p != 0 then .tup [.vec intK [], I (errBP b p)] else .tup [.vec intK (facL (sidesB b p)), I 0]) := by
 have hs' := hs
 simp only [smallB, Bool.and_eq_true, Nat.ble_eq] at hs'
 cases he : (errBP b p != 0) with
 | true =>
   refine FnD.nil_vec (vs := [.int .i64 (errBP b p)]) rfl (by decide) ?_
   exact fnD_t (cfg_ok w0) h0 (cs65_gd h0) (fd := fnOf Tryz.f65) rfl (L := [ldP 0 (fnOf Tryz.f65).ntmps rel65 .normal (st65 (sidesB b p) (0, []))]) (o := []) ((body65 b p (0, [])).trans (by rw [hs, he]; rfl)) trivial
 | false =>
   have hl : (sidesB b p).length ≤ 1000 := by rw [sides_len]; omega
   refine fn_rg h0 (cs65_gd h0) (fd := fnOf Tryz.f65) rfl rel65 (sidesB b p).length (by omega) (st65 (sidesB b p)) (fun j out => (X.normal, bif decide (i1 (nth (sidesB b p) j) < 0) then out ++ [t1 j] else out)) (fun j a => a.length ≤ j) (a0 := []) (Nat.le_refl _)
    (fun j a hj hi => .leaf (by
     have hi : a.length ≤ j := hi
     rw [round65, inb 1 hj, lt_t hj, Int.toNat_natCast, Nat.add_zero, room (by omega) (by omega)]
     cases decide (i1 (nth (sidesB b p) j) < 0) <;> rfl)) (fun j a a' _ hi h => by cases h; exact step_len hi)
    (fun a _ => .leaf (by rw [round65, ge_f]; rfl)) fun x q hx => ?_
   rw [rgRun_fold 0 (h := fun j out => bif decide (i1 (nth (sidesB b p) j) < 0) then out ++ [t1 j] else out) _ _ _ (fun _ _ _ _ => rfl)] at hx
   cases hx
   exact (body65 b p _).trans (by rw [hs, he]; rfl)
def f141 : D := .fn 141 [] []
def rel179 : List (Nat × Cv) := [(0, .id), (1, .id), (7, .id), (8, .id), (4, .id)]
def st179 (l : List (Tup intK)) (a : Int × Int) : List D := [.vec intK l, f141, I l.length, I a.1, I a.2]
theorem round179 (l : List (Tup intK)) (j r : Int) :
  rndD ((cfg w0).at []) 40 [] 40 (fnOf Tryz.f179).ntmps rel179 (lpB 0 (fnOf Tryz.f179).body) (st179 l (j, r)) =
   bif decide (j < l.length) then
    bif (Nat.beq 1 1 && (decide (0 ≤ j) && decide (j < l.length))) then
     bif decide (i1 (nth l (j.toNat + 0)) < 0) then some ([], .ret, st179 l (j, j)) else some ([], .normal, st179 l (W (j + 1), r))
    else none
   else some ([], .exit 0, st179 l (j, r)) := by kernel_rfl
theorem body179 (l : List (Tup intK)) (x : X) (p : Int × Int) (hx : x = .ret ∨ x = .normal) : bodyT ((cfg w0).at []) 40 [ldP 0 (fnOf Tryz.f179).ntmps rel179 x (st179 l p)] 40 (fnOf Tryz.f179) [.vec intK l, f141] =
  some ([(ldP 0 (fnOf Tryz.f179).ntmps rel179 x (st179 l p), .loop (lpB 0 (fnOf Tryz.f179).body), st179 l (0, 0))], onX x (I p.2) (I (-1))) := by
 rcases hx with rfl | rfl <;> kernel_rfl
theorem rgRun_find {id : Nat} {p : Nat → Bool} : ∀ (f i : Nat) (a : Int), ∃ q : Nat, rgRun id (fun j (a : Int) => bif p j then (X.ret, (j : Int)) else (.normal, a)) f i a = bif (List.range' i f).any p then (.ret, ((q : Int), (q : Int))) else (.exit id, (((i + f : Nat) : Int), a))
 | 0, i, a => ⟨0, rfl⟩
 | f + 1, i, a => by
   obtain ⟨q, hq⟩ := rgRun_find (id := id) (p := p) f (i + 1) a
   unfold rgRun
   rw [List.range'_succ, List.any_cons]
   cases hp : p i with
   | true => exact ⟨i, by simp⟩
   | false =>
     refine ⟨q, ?_⟩
     simp only [cond_false, Bool.false_or]
     rw [hq, show i + 1 + f = i + (f + 1) by omega]
def negL (l : List (Tup intK)) : Bool := (List.range' 0 l.length).any fun j => decide (i1 (nth l j) < 0)
theorem fn179 (h0 : Lib0 w0) (l : List (Tup intK)) (hl : l.length ≤ 100000) : ∃ q : Int, FnD (cfg w0) 179 [.vec intK l, f141] (I q) ∧ decide (q ≥ 0) = negL l := by
 obtain ⟨q, hq⟩ := rgRun_find (id := 0) (p := fun j => decide (i1 (nth l j) < 0)) l.length 0 0
 refine ⟨bif negL l then (q : Int) else -1, ?_, ?_⟩
 ·refine fn_rg h0 (cs := []) trivial (fd := fnOf Tryz.f179) rfl rel179 l.length (by omega) (st179 l) (fun j a => bif decide (i1 (nth l j) < 0) then (X.ret, (j : Int)) else (.normal, a)) (fun _ _ => True) (a0 := 0) trivial
   (fun j a hj _ => .leaf (by
    rw [round179, inb 1 hj, lt_t hj, Int.toNat_natCast, Nat.add_zero]
    cases decide (i1 (nth l j) < 0) <;> rfl)) (fun _ _ _ _ _ _ => trivial)
   (fun a _ => .leaf (by rw [round179, ge_f]; rfl)) fun x p hx => ?_
  rw [hq] at hx
  have hn : negL l = (List.range' 0 l.length).any fun j => decide (i1 (nth l j) < 0) := rfl
  rw [← hn] at hx
  cases hb : negL l <;> rw [hb] at hx <;> cases hx
  ·exact body179 l _ _ (.inr rfl)
  ·exact body179 l _ _ (.inl rfl)
 ·cases negL l with
  | true => simp
  | false => rfl
def is141 (d : D) : Bool :=
 match d with
 | .fn 141 [] [] => true
 | _ => false
theorem is141_eq {d : D} (h : is141 d = true) : d = f141 := by
 unfold is141 at h
 split at h
 ·rfl
 ·cases h
theorem fn140 (h0 : Lib0 w0) (l : List (Tup intK)) (hl : l.length ≤ 100000) : FnD (cfg w0) 140 [.vec intK l, f141] (Bo (negL l)) := by
 obtain ⟨q, h1, h2⟩ := fn179 h0 l hl
 have hc : Gds (cfg w0) [ct 179 [.v intK, .x] fun a => match is141 a.2.1 with
  | true => .br (sameI a.1 l) (.leaf (I q)) .bad
  | false => .bad] := by
  refine ⟨gd_sig fun a d hd => ?_, trivial⟩
  obtain ⟨m, f, u⟩ := a
  simp only at hd
  cases hb : is141 f with
  | false => rw [hb] at hd; cases hd
  | true =>
    rw [hb] at hd
    obtain ⟨hg, hd⟩ := br_run hd
    cases hd
    cases is141_eq hb
    have : m = l := by
     unfold sameI at hg
     rw [decide_eq_true_eq] at hg
     have hinj : Function.Injective i1 := fun a b h => Prod.ext h rfl
     exact (List.map_inj_right (fun a b h => hinj h)).1 hg
    rw [this]
    exact h1
 refine fnD_k (cfg_ok w0) h0 hc (fd := fnOf Tryz.f140) rfl (n := 40) ((show bodyK ((cfg w0).at _) 40 (fnOf Tryz.f140) [.vec intK l, f141] = bif sameI l l then some (Bo (decide (q ≥ 0))) else none by kernel_rfl).trans ?_)
 have : sameI l l = true := by unfold sameI; simp
 rw [this, h2]; rfl
def c140 : Ct := ct 140 [.v intK, .x] fun a => match is141 a.2.1 with
 | true => .br (Nat.ble (a.1 : List (Tup intK)).length 100000) (.leaf (Bo (negL a.1))) .bad
 | false => .bad
theorem gd140 (h0 : Lib0 w0) : Gd (cfg w0) c140 := gd_sig fun a d hd => by
 obtain ⟨m, f, u⟩ := a
 simp only at hd
 cases hb : is141 f with
 | false => rw [hb] at hd; cases hd
 | true =>
   rw [hb] at hd
   obtain ⟨hg, hd⟩ := br_run hd
   cases hd
   cases is141_eq hb
   exact fn140 h0 m (Nat.le_of_ble_eq_true hg)
def cs67 : List Ct := [checkBC 137, ⟨100, tG checkPointF⟩, firstC 98, c138, c140]
theorem cs67_gd (h0 : Lib0 w0) : Gds (cfg w0) cs67 := ⟨gd137 h0, gd_of (checkPoint_good h0), gd98 h0, gd138 h0, gd140 h0, trivial⟩
theorem run67 (b : Bd) (p : Tup ptK) : bodyK ((cfg w0).at cs67) 40 (fnOf Tryz.f67) [bD b, ptA p] =
  bif smallB b then bif errBP b p != 0 then some (.tup [Bo false, I (errBP b p)])
   else bif smallB b then bif Nat.ble (sidesB b p).length 100000 then some (.tup [Bo (!negL (sidesB b p)), I 0]) else none else none
  else none := by cases b; kernel_rfl
end
end Go.Proofs.YtmlglimahbjgbaaGreatDoor
