/-
 A part of the proof of the statement that the claim names: see the last file.
-/
import Derived.Test.YthcpfignhalffaaGreatDoorC5
namespace Go.Proofs.YthcpfignhalffaaGreatDoor
open Go Go.Am
set_option maxRecDepth 100000
variable {w0 : World}
noncomputable section
abbrev nilD : D := .val (.slice none 0 0)
def fullZ (a b n : Int) : Int := whenZ (decide (a < 0) || (decide (a ≥ b) || decide (b > n))) 14
def hasB (g : Gr) (x y : Int) : Bool := decide (x ≥ 0) && (decide (y ≥ 0) && (decide (x < g.w) && decide (y < g.h)))
def hasC (g : Nat) : Ct := gC g [.b ptK] fun b a => .leaf (Bo (hasB b a.1.1 a.1.2.1))
theorem gd129 (h0 : Lib0 w0) : Gd (cfg w0) (hasC 129) := gd_g fun b a d hd => by
 obtain ⟨⟨x, y, _⟩, u⟩ := a; cases hd
 have key : ∀ (g : Gr) (x y : Int), bodyK ((cfg w0).at []) 40 (fnOf Tryz.f129) [gD g, .agg [I x, I y]] = bif decide (x ≥ 0) then bif decide (y ≥ 0) then bif decide (x < g.w) then some (Bo (decide (y < g.h))) else some (Bo false) else some (Bo false) else some (Bo false) := fun g x y => by cases g; kernel_rfl
 refine fnD_k (cfg_ok w0) h0 (cs := []) trivial (fd := fnOf Tryz.f129) rfl (n := 40) ((key b x y).trans ?_)
 show _ = some (Bo (hasB b x y))
 unfold hasB
 cases decide ((show Int from x) ≥ 0) <;> cases decide ((show Int from y) ≥ 0) <;> cases decide ((show Int from x) < b.w) <;> rfl
def updL (g : Nat → Tup intK → Tup intK) : Nat → List (Tup intK) → List (Tup intK)
 | _, [] => []
 | k, b :: bs => g k b :: updL g (k + 1) bs
theorem updL_len (g : Nat → Tup intK → Tup intK) : ∀ (k : Nat) (l : List (Tup intK)), (updL g k l).length = l.length
 | _, [] => rfl
 | k, b :: bs => by simp [updL, updL_len g (k + 1) bs]
theorem updL_get (g : Nat → Tup intK → Tup intK) : ∀ (l : List (Tup intK)) (k j : Nat), (updL g k l)[j]? = (l[j]?).map (g (k + j))
 | [], _, _ => by simp [updL]
 | b :: bs, k, 0 => by simp [updL]
 | b :: bs, k, j + 1 => by
   simp only [updL, List.getElem?_cons_succ]
   rw [updL_get g bs (k + 1) j, show k + 1 + j = k + (j + 1) by omega]
theorem fold_upd (g : Nat → Tup intK → Tup intK) : ∀ (B A : List (Tup intK)) (k : Nat), A.length = k → (List.range' k B.length).foldl (fun out j => out.set j (g j (nth out j))) (A ++ B) = A ++ updL g k B
 | [], A, k, _ => by simp [updL]
 | b :: bs, A, k, h => by
   rw [List.length_cons, List.range'_succ, List.foldl_cons]
   have h1 : nth (A ++ b :: bs) k = b := by simp [nth, ← h]
   have h2 : (A ++ b :: bs).set k (g k b) = (A ++ [g k b]) ++ bs := by
    rw [List.set_append_right _ _ (by omega), show k - A.length = 0 by omega]; simp
   rw [h1, h2, fold_upd g bs (A ++ [g k b]) (k + 1) (by simp [h])]
   simp [updL]
def cs62 : List Ct := [chkC 73, whenC 132, firstC 99, mapC 141 124 leE, c124]
theorem cs62_gd (h0 : Lib0 w0) : Gds (cfg w0) cs62 := ⟨gd73 h0, gd132 h0, gd99 h0, gd141 h0, gd124 h0, trivial⟩
def rel62 : List (Nat × Cv) := [(29, .id), (30, .id), (31, .id), (7, .id)]
def st62 (l : List (Tup intK)) (p : Int × List (Tup intK)) : List D := [.vec intK l, I l.length, I p.1, .ovec intK p.2]
def dfE (l : List (Tup intK)) (j : Nat) (x : Tup intK) : Tup intK := t1 (W (i1 x - levR (i1 (nth l j))))
theorem round62 (l : List (Tup intK)) (j : Int) (out : List (Tup intK)) : rndD ((cfg w0).at cs62) 40 [] 40 (fnOf Tryz.f62).ntmps rel62 (lpB 0 (fnOf Tryz.f62).body) (st62 l (j, out)) =
  bif decide (j < l.length) then
   bif (Nat.beq 1 1 && (decide (0 ≤ j) && decide (j < l.length))) then
    bif (Nat.beq 1 1 && (decide (0 ≤ j) && decide (j < out.length))) then
     bif (Nat.beq 1 1 && (decide (0 ≤ j) && decide (j < out.length))) then some ([], .normal, st62 l (W (j + 1), out.set j.toNat (dfE l j.toNat (nth out j.toNat)))) else none
    else none
   else none
  else some ([], .exit 0, st62 l (j, out)) := by kernel_rfl
def sizeB (a b : Gr) : Bool := a.w == b.w && (a.h == b.h && true)
def e62 (a b : Gr) : Int := firstZ [chkG a, chkG b, whenZ (!sizeB a b) 2]
theorem body62 (a b : Gr) (p : Int × List (Tup intK)) : bodyT ((cfg w0).at cs62) 40 [ldP 0 (fnOf Tryz.f62).ntmps rel62 .normal (st62 a.l p)] 40 (fnOf Tryz.f62) [gD a, gD b] =
  bif smG a then bif smG b then
   bif e62 a b != 0 then some ([], .tup [nilD, I (e62 a b)]) else
   bif Nat.ble b.l.length 100000 then
    some ([(ldP 0 (fnOf Tryz.f62).ntmps rel62 .normal (st62 a.l p), .loop (lpB 0 (fnOf Tryz.f62).body), st62 a.l (0, b.l.map leE))], .tup [.vec intK p.2, I 0])
   else none
  else none else none := by cases a; cases b; kernel_rfl
def difP (a b : Gr) : List (Tup intK) := updL (dfE a.l) 0 (b.l.map leE)
theorem chk_len {g : Gr} (h : chkG g = 0) : (g.l.length : Int) = W (g.w * g.h) ∧ 1 ≤ g.w ∧ g.w ≤ 16 ∧ 1 ≤ g.h ∧ g.h ≤ 16 ∧ ∀ x ∈ g.l, 0 ≤ i1 x ∧ i1 x ≤ maxE := by
 have wz : ∀ n lo hi : Int, withinZ n lo hi = 0 → lo ≤ n ∧ n ≤ hi := fun n lo hi h => by
  unfold withinZ whenZ at h
  by_cases h1 : n < lo
  ·simp [h1] at h
  ·by_cases h2 : n > hi
   ·simp [h2] at h
   ·omega
 have fz : ∀ l : List Int, firstZ l = 0 → ∀ e ∈ l, e = 0 := fun l => by
  induction l with
  | nil => intro _ e he; cases he
  | cons x xs ih =>
    intro hf e he
    unfold firstZ at hf
    cases hx : (x != 0) with
    | true => rw [hx] at hf; simp only [cond_true] at hf; rw [hf] at hx; cases hx
    | false =>
      rw [hx] at hf
      rcases List.mem_cons.1 he with rfl | he
      ·simpa using hx
      ·exact ih hf e he
 rw [chk_alt] at h
 cases he : (e0G g != 0) with
 | true => rw [he] at h; simp only [cond_true] at h; rw [h] at he; cases he
 | false =>
   rw [he] at h
   simp only [cond_false] at h
   have h0 := fz _ (show e0G g = 0 by simpa using he)
   have hw := wz _ _ _ (h0 (withinZ g.w 1 16) (by simp))
   have hh := wz _ _ _ (h0 (withinZ g.h 1 16) (by simp))
   cases hs : ((g.l.length : Int) != W (g.w * g.h)) with
   | true => rw [hs] at h; cases h
   | false =>
     rw [hs] at h
     simp only [cond_false] at h
     exact ⟨by simpa using hs, hw.1, hw.2, hh.1, hh.2, fun x hx => wz _ _ _ (fz _ h (enZ x) (List.mem_map_of_mem hx))⟩
theorem e62_zero {a b : Gr} (h : e62 a b = 0) : chkG a = 0 ∧ chkG b = 0 ∧ a.w = b.w ∧ a.h = b.h := by
 unfold e62 at h
 simp only [firstZ] at h
 cases h1 : (chkG a != 0) with
 | true => rw [h1] at h; simp only [cond_true] at h; rw [h] at h1; cases h1
 | false =>
   rw [h1] at h
   simp only [cond_false] at h
   cases h2 : (chkG b != 0) with
   | true => rw [h2] at h; simp only [cond_true] at h; rw [h] at h2; cases h2
   | false =>
     rw [h2] at h
     simp only [cond_false] at h
     cases hs : sizeB a b with
     | false => rw [hs] at h; cases h
     | true =>
       unfold sizeB at hs
       simp only [Bool.and_true, Bool.and_eq_true, beq_iff_eq] at hs
       exact ⟨by simpa using h1, by simpa using h2, hs.1, hs.2⟩
theorem same_len {a b : Gr} (ha : chkG a = 0) (hb : chkG b = 0) (hw : a.w = b.w) (hh : a.h = b.h) : a.l.length = b.l.length := by
 have h1 := (chk_len ha).1
 have h2 := (chk_len hb).1
 rw [hw, hh] at h1
 exact Int.ofNat.inj (h1.trans h2.symm)
theorem fn62 (h0 : Lib0 w0) (a b : Gr) (ha : smG a = true) (hb : smG b = true) : FnD (cfg w0) 62 [gD a, gD b] (bif e62 a b != 0 then .tup [nilD, I (e62 a b)] else .tup [.vec intK (difP a b), I 0]) := by
 cases he : (e62 a b != 0) with
 | true =>
   refine fnD_t (cfg_ok w0) h0 (cs62_gd h0) (fd := fnOf Tryz.f62) rfl (L := [ldP 0 (fnOf Tryz.f62).ntmps rel62 .normal (st62 a.l (0, []))]) (o := []) ((body62 a b (0, [])).trans ?_) trivial
   rw [ha, hb, he]; rfl
 | false =>
   obtain ⟨ca, cb, ew, eh⟩ := e62_zero (show e62 a b = 0 by simpa using he)
   have hab := same_len ca cb ew eh
   have hl : a.l.length ≤ 100000 := Nat.le_of_ble_eq_true ha
   refine fn_rg h0 (cs62_gd h0) (fd := fnOf Tryz.f62) rfl rel62 a.l.length (by omega) (st62 a.l) (fun j out => (X.normal, out.set j (dfE a.l j (nth out j)))) (fun _ out => out.length = a.l.length) (a0 := b.l.map leE) (by simp [hab])
    (fun j out hj hi => .leaf (by
     have hi : out.length = a.l.length := hi
     rw [round62, inb 1 hj, lt_t hj, Int.toNat_natCast, hi, inb 1 hj]
     rfl)) (fun j out out' _ hi h => by cases h; simpa using hi)
    (fun out _ => .leaf (by rw [round62, ge_f]; rfl)) fun x p hx => ?_
   rw [show rgRun 0 (fun j (out : List (Tup intK)) => (X.normal, out.set j (dfE a.l j (nth out j)))) a.l.length 0 (b.l.map leE) = _ from rgRun_fold 0 (h := fun j out => out.set j (dfE a.l j (nth out j))) _ _ _ (fun _ _ _ _ => rfl)] at hx
   cases hx
   have := fold_upd (dfE a.l) (b.l.map leE) [] 0 rfl
   rw [List.nil_append, List.nil_append, List.length_map, ← hab] at this
   rw [this]
   refine (body62 a b _).trans ?_
   have hb' : Nat.ble b.l.length 100000 = true := hb
   rw [ha, hb, he, hb']; rfl
end
end Go.Proofs.YthcpfignhalffaaGreatDoor
namespace Go.Proofs.YthcpfignhalffaaGreatDoor
open Go Go.Am
set_option maxRecDepth 100000
variable {w0 : World}
noncomputable section
def g2C (g : Nat) (ss : List Sh) (F : Gr → Gr → ArgT ss → FT D) : Ct := gC g (.x :: ss) fun a y => match asG y.1 with
 | some b => F a b y.2
 | none => .bad
theorem gd_g2 {g : Nat} {ss : List Sh} {F : Gr → Gr → ArgT ss → FT D} (h : ∀ a b y d, (F a b y).run = some d → FnD (cfg w0) g (gD a :: gD b :: toShs ss y) d) : Gd (cfg w0) (g2C g ss F) := gd_g fun a y d hd => by
 obtain ⟨x, y⟩ := y
 simp only at hd
 cases hb : asG x with
 | none => rw [hb] at hd; cases hd
 | some b =>
   rw [hb] at hd
   cases asG_eq hb
   exact h a b y d hd
structure Bx where
 c0 : Int
 c1 : Int
 r0 : Int
 r1 : Int
def loI' (g : Gr) (c y : Int) : Int := W (W (y * g.w) + c)
def rowI (g : Gr) (b : Bx) (y : Int) : List (Tup intK) := (g.l.drop (0 + (loI' g b.c0 y).toNat)).take ((loI' g b.c1 y).toNat - (loI' g b.c0 y).toNat)
def inR (g : Gr) (b : Bx) (y : Int) : Bool := decide (0 ≤ loI' g b.c0 y) && (decide (loI' g b.c0 y ≤ loI' g b.c1 y) && decide (loI' g b.c1 y ≤ g.l.length))
def e78 (g : Gr) (b : Bx) : Int := firstZ [chkG g, fullZ b.c0 b.c1 g.w, fullZ b.r0 b.r1 g.h]
end
end Go.Proofs.YthcpfignhalffaaGreatDoor
namespace Go.Proofs.YthcpfignhalffaaGreatDoor
open Go Go.Am
set_option maxRecDepth 100000
variable {w0 : World}
noncomputable section
structure BoxOK (g : Gr) (b : Bx) : Prop where
 chk : chkG g = 0
 c0 : 0 ≤ b.c0
 c1 : b.c0 < b.c1
 cw : b.c1 ≤ g.w
 r0 : 0 ≤ b.r0
 r1 : b.r0 < b.r1
 rh : b.r1 ≤ g.h
 w16 : g.w ≤ 16
 h16 : g.h ≤ 16
 len : (g.l.length : Int) = g.h * g.w
theorem mul_bound {a b : Int} (h1 : 0 ≤ a) (h2 : a ≤ 16) (h3 : 0 ≤ b) (h4 : b ≤ 16) : 0 ≤ a * b ∧ a * b ≤ 256 :=
 ⟨Int.mul_nonneg h1 h3, Int.le_trans (Int.mul_le_mul_of_nonneg_right h2 h3) (by omega)⟩
theorem BoxOK.lo {g : Gr} {b : Bx} (k : BoxOK g b) {y c : Int} (h1 : b.r0 ≤ y) (h2 : y < b.r1) (h3 : 0 ≤ c) (h4 : c ≤ g.w) : loI' g c y = y * g.w + c ∧ 0 ≤ y * g.w ∧ y * g.w + c ≤ g.l.length := by
 obtain ⟨_, a1, a2, a3, a4, a5, a6, a7, a8, a9⟩ := k
 have hy := mul_bound (a := y) (b := g.w) (by omega) (by omega) (by omega) a7
 have hs : (y + 1) * g.w ≤ g.h * g.w := Int.mul_le_mul_of_nonneg_right (by omega) (by omega)
 rw [Int.add_mul, Int.one_mul] at hs
 refine ⟨?_, hy.1, by rw [a9]; omega⟩
 unfold loI'
 rw [W_in (n := y * g.w) (by omega), W_in (by omega)]
theorem BoxOK.inr {g : Gr} {b : Bx} (k : BoxOK g b) {y : Int} (h1 : b.r0 ≤ y) (h2 : y < b.r1) : inR g b y = true := by
 obtain ⟨e0, p0, _⟩ := k.lo h1 h2 k.c0 (by have := k.c1; have := k.cw; omega)
 obtain ⟨e1, _, q1⟩ := k.lo h1 h2 (c := b.c1) (by have := k.c0; have := k.c1; omega) k.cw
 unfold inR
 rw [e0, e1]
 have := k.c0; have := k.c1
 simp only [Bool.and_eq_true, decide_eq_true_eq]
 omega
def rowsF (g : Gr) (b : Bx) : Nat → Int → List (Tup intK)
 | 0, _ => []
 | n + 1, y => rowI g b y ++ rowsF g b n (y + 1)
def tileL (g : Gr) (b : Bx) : List (Tup intK) := rowsF g b (b.r1 - b.r0).toNat b.r0
def nilG : D := .agg [I 0, I 0, nilD]
end
end Go.Proofs.YthcpfignhalffaaGreatDoor
namespace Go.Proofs.YthcpfignhalffaaGreatDoor
open Go Go.Am
set_option maxRecDepth 100000
variable {w0 : World}
noncomputable section
def cellI (g : Gr) (y x : Int) : Tup intK := nth g.l ((loI' g x y).toNat + 0)
def rowR (g : Gr) (y : Int) : Nat → Int → List (Tup intK)
 | 0, _ => []
 | n + 1, x => cellI g y x :: rowR g y n (x + 1)
def rowB (g : Gr) (b : Bx) (y : Int) : List (Tup intK) := rowR g y (b.c1 - b.c0).toNat b.c0
def rowsR (g : Gr) (b : Bx) : Nat → Int → List (Tup intK)
 | 0, _ => []
 | n + 1, y => rowB g b y ++ rowsR g b n (y + 1)
theorem drop_take {k : Nat} : ∀ (n : Nat) (l : List (Tup intK)), k + n ≤ l.length → (l.drop k).take n = (List.range' k n).map (nth l) := fun n l h => by
 apply List.ext_getElem?
 intro j
 rw [List.getElem?_take]
 by_cases hj : j < n
 ·rw [if_pos hj, List.getElem?_drop, List.getElem?_map, List.getElem?_range' hj]
  simp only [Option.map_some, Nat.one_mul, nth, List.getD_eq_getElem?_getD]
  rw [List.getElem?_eq_getElem (by omega)]
  simp
 ·rw [if_neg hj, List.getElem?_eq_none (by simp; omega)]
theorem BoxOK.row {g : Gr} {b : Bx} (k : BoxOK g b) {y : Int} (h1 : b.r0 ≤ y) (h2 : y < b.r1) : rowB g b y = rowI g b y := by
 have hc0 := k.c0; have hc1 := k.c1; have hcw := k.cw
 obtain ⟨e0, p0, _⟩ := k.lo h1 h2 hc0 (by omega)
 obtain ⟨e1, _, q1⟩ := k.lo h1 h2 (c := b.c1) (by omega) k.cw
 unfold rowI rowB
 rw [e0, e1]
 have hk : (y * g.w + b.c1).toNat - (y * g.w + b.c0).toNat = (b.c1 - b.c0).toNat := by omega
 rw [hk, Nat.zero_add, drop_take _ _ (by omega)]
 have key : ∀ (n : Nat) (x : Int), 0 ≤ x → x + n ≤ g.w → rowR g y n x = (List.range' (y * g.w + x).toNat n).map (nth g.l) := fun n => by
  induction n with
  | zero => intro x _ _; rfl
  | succ n ih =>
    intro x hx0 hx1
    obtain ⟨ex, _, _⟩ := k.lo h1 h2 (c := x) hx0 (by omega)
    unfold rowR
    rw [List.range'_succ, List.map_cons, ih (x + 1) (by omega) (by omega)]
    unfold cellI
    rw [ex, show (y * g.w + (x + 1)).toNat = (y * g.w + x).toNat + 1 by omega]
    rfl
 exact key _ _ hc0 (by omega)
theorem BoxOK.rows {g : Gr} {b : Bx} (k : BoxOK g b) : ∀ (n : Nat) (y : Int), b.r0 ≤ y → y + n = b.r1 → rowsR g b n y = rowsF g b n y
 | 0, _, _, _ => rfl
 | n + 1, y, h1, h2 => by
   unfold rowsR rowsF
   rw [k.row h1 (by omega), k.rows n (y + 1) (by omega) (by omega)]
end
end Go.Proofs.YthcpfignhalffaaGreatDoor
