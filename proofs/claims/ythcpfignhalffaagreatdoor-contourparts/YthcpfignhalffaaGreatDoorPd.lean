/-
 A part of the proof of the statement that the claim names: see the last file.
-/
import Derived.Test.YthcpfignhalffaaGreatDoorP8
import Derived.Test.YthcpfignhalffaaGreatDoorPc
import Derived.Test.YthcpfignhalffaaGreatDoorP4
namespace Go.Proofs.YthcpfignhalffaaGreatDoor
open Go Go.Am
set_option maxRecDepth 100000
noncomputable section
theorem chk_sm {g : Gr} (h : chkG g = 0) : g.l.length ≤ 256 := by
 obtain ⟨h1, h2, h3, h4, h5, _⟩ := chk_len h
 have hm := mul_bound (a := g.w) (b := g.h) (by omega) h3 (by omega) h5
 rw [W_in (by omega)] at h1
 omega
structure EndOK (a b : Gr) (bx : Bx) (x y one : Int) (df : List (Tup intK)) (box : Int) (tl : Gr) (three : Int) (ov : Gr) (four : Int) (jo : Gr) : Prop where
 e1 : one = e62 a b
 d : e62 a b = 0 → df = difP a b
 e2 : box = e78 a bx
 t : e78 a bx = 0 → tl = tileG a bx
 e3 : three = (overX a b x y).2
 o : (overX a b x y).2 = 0 → ov = (overX a b x y).1
 e4 : four = (joinX a b).2
 j : (joinX a b).2 = 0 → jo = (joinX a b).1
end
end Go.Proofs.YthcpfignhalffaaGreatDoor
namespace Go.Proofs.YthcpfignhalffaaGreatDoor
open Go Go.Am Go.RowKit
set_option maxRecDepth 100000
variable {w0 : World}
noncomputable section
def rowU (l : TLi) (Wn x tw r : Nat) : TLi := (List.range' (r * Wn + x) tw).map (nth l)
def tilN (l : TLi) (Wn x tw : Nat) : Nat → Nat → TLi
 | _, 0 => []
 | y, n + 1 => rowU l Wn x tw y ++ tilN l Wn x tw (y + 1) n
theorem rowU_len (l : TLi) (Wn x tw r : Nat) : (rowU l Wn x tw r).length = tw := by unfold rowU; simp
theorem tilN_len (l : TLi) (Wn x tw : Nat) : ∀ n y : Nat, (tilN l Wn x tw y n).length = n * tw
 | 0, y => by simp [tilN]
 | n + 1, y => by
   unfold tilN
   rw [List.length_append, rowU_len, tilN_len l Wn x tw n (y + 1), Nat.succ_mul]; omega
theorem nth_app_l {α : List Kd} {a b : List (Tup α)} {j : Nat} (h : j < a.length) : nth (a ++ b) j = nth a j := by
 unfold nth
 rw [List.getD_eq_getElem?_getD, List.getD_eq_getElem?_getD, List.getElem?_append_left h]
theorem nth_app_r {α : List Kd} {a b : List (Tup α)} {j : Nat} (h : a.length ≤ j) : nth (a ++ b) j = nth b (j - a.length) := by
 unfold nth
 rw [List.getD_eq_getElem?_getD, List.getD_eq_getElem?_getD, List.getElem?_append_right h]
theorem nth_rowU {l : TLi} {Wn x tw r c : Nat} (h : c < tw) : nth (rowU l Wn x tw r) c = nth l (r * Wn + x + c) := by
 unfold rowU
 rw [show nth ((List.range' (r * Wn + x) tw).map (nth l)) c = (((List.range' (r * Wn + x) tw).map (nth l))[c]?).getD (dfl intK) from List.getD_eq_getElem?_getD ..]
 rw [List.getElem?_map, List.getElem?_range' h]
 simp
theorem nth_tilN {l : TLi} {Wn x tw c : Nat} (hc : c < tw) : ∀ {n y r : Nat}, r < n → nth (tilN l Wn x tw y n) (r * tw + c) = nth l ((y + r) * Wn + x + c)
 | 0, y, r, h => by omega
 | n + 1, y, 0, h => by
   unfold tilN
   rw [nth_app_l (by rw [rowU_len]; omega), Nat.zero_mul, Nat.zero_add, nth_rowU hc]
   rfl
 | n + 1, y, r + 1, h => by
   unfold tilN
   rw [nth_app_r (by rw [rowU_len, Nat.succ_mul]; omega), rowU_len, show (r + 1) * tw + c - tw = r * tw + c by rw [Nat.succ_mul]; omega, nth_tilN hc (n := n) (y := y + 1) (r := r) (by omega)]
   rw [show y + 1 + r = y + (r + 1) by omega]
theorem nth_tilN' {l : TLi} {Wn x tw n y j : Nat} (h : j < n * tw) : nth (tilN l Wn x tw y n) j = nth l ((y + j / tw) * Wn + x + j % tw) := by
 have htw : 0 < tw := by rcases Nat.eq_zero_or_pos tw with e | e; rw [e] at h; simp at h; exact e
 have hr : j / tw < n := by rw [Nat.div_lt_iff_lt_mul htw]; exact h
 have hc : j % tw < tw := Nat.mod_lt _ htw
 have := nth_tilN (l := l) (Wn := Wn) (x := x) (y := y) hc hr
 rw [show j / tw * tw + j % tw = j by rw [Nat.mul_comm]; exact Nat.div_add_mod j tw] at this
 exact this
structure Bn (g : Gr) (Wn Hn x0 x1 y0 y1 : Nat) : Prop where
 chk : chkG g = 0
 few : g.l.length ≤ 36
 w : g.w = (Wn : Int)
 h : g.h = (Hn : Int)
 w1 : 1 ≤ Wn
 w16 : Wn ≤ 16
 h1 : 1 ≤ Hn
 h16 : Hn ≤ 16
 len : g.l.length = Hn * Wn
 x : x0 < x1
 xw : x1 ≤ Wn
 y : y0 < y1
 yh : y1 ≤ Hn
def bxN (x0 x1 y0 y1 : Nat) : Bx := ⟨(x0 : Int), (x1 : Int), (y0 : Int), (y1 : Int)⟩
variable {g : Gr} {Wn Hn x0 x1 y0 y1 : Nat}
theorem Bn.box (B : Bn g Wn Hn x0 x1 y0 y1) : BoxOK g (bxN x0 x1 y0 y1) := by
 obtain ⟨b1, b2, b3, b4, b5, b6, b7, b8, b9, b10, b11, b12, b13⟩ := B
 refine ⟨b1, ?_, ?_, ?_, ?_, ?_, ?_, ?_, ?_, chk_mul b1⟩ <;> (try unfold bxN) <;> (try simp only) <;> omega
theorem Bn.rows (B : Bn g Wn Hn x0 x1 y0 y1) : ∀ (n r : Nat), y0 ≤ r → r + n = y1 → rowsF g (bxN x0 x1 y0 y1) n (r : Int) = tilN g.l Wn x0 (x1 - x0) r n
 | 0, r, _, _ => rfl
 | n + 1, r, h1, h2 => by
   have k := B.box
   have hw := B.w
   have hx := B.x
   have hxw := B.xw
   obtain ⟨e0, p0, _⟩ := k.lo (y := (r : Int)) (c := (x0 : Int)) (by unfold bxN; simp only; omega) (by unfold bxN; simp only; omega) (by omega) (by omega)
   obtain ⟨e1, _, q1⟩ := k.lo (y := (r : Int)) (c := (x1 : Int)) (by unfold bxN; simp only; omega) (by unfold bxN; simp only; omega) (by omega) (by omega)
   unfold rowsF tilN
   have hrow : rowI g (bxN x0 x1 y0 y1) (r : Int) = rowU g.l Wn x0 (x1 - x0) r := by
    unfold rowI rowU
    show (List.drop (0 + (loI' g (x0 : Int) (r : Int)).toNat) g.l).take ((loI' g (x1 : Int) (r : Int)).toNat - (loI' g (x0 : Int) (r : Int)).toNat) = _
    rw [e0, e1, hw]
    rw [hw] at q1 p0
    have m1 : (r : Int) * (Wn : Int) = ((r * Wn : Nat) : Int) := by simp
    rw [m1] at q1 ⊢
    rw [show (((r * Wn : Nat) : Int) + (x0 : Int)).toNat = r * Wn + x0 by omega, show (((r * Wn : Nat) : Int) + (x1 : Int)).toNat = r * Wn + x1 by omega, Nat.zero_add, drop_take _ _ (by omega)]
    rw [show r * Wn + x1 - (r * Wn + x0) = x1 - x0 by omega]
   rw [hrow]
   have := Bn.rows B n (r + 1) (by omega) (by omega)
   rw [← this]
   rfl
theorem Bn.tile (B : Bn g Wn Hn x0 x1 y0 y1) : tileG g (bxN x0 x1 y0 y1) = ⟨((x1 - x0 : Nat) : Int), ((y1 - y0 : Nat) : Int), tilN g.l Wn x0 (x1 - x0) y0 (y1 - y0)⟩ := by
 have h1 := B.x; have h2 := B.xw; have h3 := B.y; have h4 := B.yh; have h5 := B.w16; have h6 := B.h16
 unfold tileG tileL
 have e1 : IntKind.i64.wrap ((bxN x0 x1 y0 y1).c1 - (bxN x0 x1 y0 y1).c0) = ((x1 - x0 : Nat) : Int) := by
  unfold bxN; simp only; rw [W_id (by omega) (by omega)]; omega
 have e2 : IntKind.i64.wrap ((bxN x0 x1 y0 y1).r1 - (bxN x0 x1 y0 y1).r0) = ((y1 - y0 : Nat) : Int) := by
  unfold bxN; simp only; rw [W_id (by omega) (by omega)]; omega
 have e3 : ((bxN x0 x1 y0 y1).r1 - (bxN x0 x1 y0 y1).r0).toNat = y1 - y0 := by unfold bxN; simp only; omega
 have e4 : (bxN x0 x1 y0 y1).r0 = ((y0 : Nat) : Int) := rfl
 have e5 := B.rows (y1 - y0) y0 (Nat.le_refl _) (by omega)
 rw [← e4, ← e3] at e5
 rw [show W ((bxN x0 x1 y0 y1).c1 - (bxN x0 x1 y0 y1).c0) = _ from e1, show W ((bxN x0 x1 y0 y1).r1 - (bxN x0 x1 y0 y1).r0) = _ from e2, e5, e3]
end
end Go.Proofs.YthcpfignhalffaaGreatDoor
namespace Go.Proofs.YthcpfignhalffaaGreatDoor
open Go Go.Am Go.RowKit
set_option maxRecDepth 100000
variable {w0 : World}
noncomputable section
theorem fz_all : ∀ {l : List Int}, (∀ e ∈ l, e = 0) → firstZ l = 0
 | [], _ => rfl
 | x :: xs, h => by
   unfold firstZ
   have h1 := h x (by simp)
   subst h1
   exact fz_all (l := xs) fun e he => h e (by simp [he])
theorem in_within {n lo hi : Int} (h1 : lo ≤ n) (h2 : n ≤ hi) : withinZ n lo hi = 0 := by
 unfold withinZ
 rw [decide_eq_false (by omega), decide_eq_false (by omega)]; rfl
theorem chkG_in {g : Gr} {Wn Hn : Nat} (hw : g.w = (Wn : Int)) (hh : g.h = (Hn : Int)) (w1 : 1 ≤ Wn) (w2 : Wn ≤ 16) (h1 : 1 ≤ Hn) (h2 : Hn ≤ 16) (hl : g.l.length = Hn * Wn) (he : ∀ x ∈ g.l, 0 ≤ i1 x ∧ i1 x ≤ maxE) : chkG g = 0 := by
 rw [chk_alt]
 have e0 : e0G g = 0 := fz_all fun e he => by
  simp only [List.mem_cons, List.not_mem_nil, or_false] at he
  rcases he with rfl | rfl
  ·exact in_within (by omega) (by omega)
  ·exact in_within (by omega) (by omega)
 have hm : Hn * Wn ≤ 16 * 16 := Nat.mul_le_mul h2 w2
 have hmul : g.w * g.h = ((Hn * Wn : Nat) : Int) := by rw [hw, hh, ← Int.natCast_mul, Nat.mul_comm]
 rw [e0, show (((g.l.length : Nat) : Int) != W (g.w * g.h)) = false by
  rw [hmul, hl, show W ((Hn * Wn : Nat) : Int) = ((Hn * Wn : Nat) : Int) from W_id (by omega) (by omega)]; simp]
 exact fz_all fun e hx => by
  obtain ⟨x, hm, rfl⟩ := List.mem_map.1 hx
  exact in_within (he x hm).1 (he x hm).2
theorem full_in {a b n : Int} (h1 : 0 ≤ a) (h2 : a < b) (h3 : b ≤ n) : fullZ a b n = 0 := by
 unfold fullZ whenZ
 rw [decide_eq_false (by omega), decide_eq_false (by omega), decide_eq_false (by omega)]; rfl
variable {g : Gr} {Wn Hn x0 x1 y0 y1 : Nat}
theorem Bn.e78 (B : Bn g Wn Hn x0 x1 y0 y1) : e78 g (bxN x0 x1 y0 y1) = 0 := fz_all fun e he => by
 have b1 := B.w; have b2 := B.h; have b3 := B.x; have b4 := B.xw; have b5 := B.y; have b6 := B.yh
 simp only [List.mem_cons, List.not_mem_nil, or_false] at he
 rcases he with rfl | rfl | rfl
 ·exact B.chk
 ·exact full_in (by unfold bxN; simp only; omega) (by unfold bxN; simp only; omega) (by unfold bxN; simp only; omega)
 ·exact full_in (by unfold bxN; simp only; omega) (by unfold bxN; simp only; omega) (by unfold bxN; simp only; omega)
def tN (g : Gr) (Wn x0 x1 y0 y1 : Nat) : Gr := ⟨((x1 - x0 : Nat) : Int), ((y1 - y0 : Nat) : Int), tilN g.l Wn x0 (x1 - x0) y0 (y1 - y0)⟩
theorem Bn.t (B : Bn g Wn Hn x0 x1 y0 y1) : tileG g (bxN x0 x1 y0 y1) = tN g Wn x0 x1 y0 y1 := B.tile
theorem tN_len (g : Gr) (Wn x0 x1 y0 y1 : Nat) : (tN g Wn x0 x1 y0 y1).l.length = (y1 - y0) * (x1 - x0) := tilN_len ..
theorem Bn.at (B : Bn g Wn Hn x0 x1 y0 y1) {j : Nat} (hj : j < (y1 - y0) * (x1 - x0)) : (y0 + j / (x1 - x0)) * Wn + x0 + j % (x1 - x0) < g.l.length ∧ j / (x1 - x0) < y1 - y0 ∧ j % (x1 - x0) < x1 - x0 := by
 have b3 := B.x; have b4 := B.xw; have b5 := B.y; have b6 := B.yh
 have htw : 0 < x1 - x0 := by omega
 have hr : j / (x1 - x0) < y1 - y0 := by rw [Nat.div_lt_iff_lt_mul htw]; exact hj
 have hc : j % (x1 - x0) < x1 - x0 := Nat.mod_lt _ htw
 refine ⟨?_, hr, hc⟩
 rw [B.len]
 have : (y0 + j / (x1 - x0) + 1) * Wn ≤ Hn * Wn := Nat.mul_le_mul_right _ (by omega)
 rw [Nat.succ_mul] at this
 omega
theorem nth_in {l : TLi} {j : Nat} (h : j < l.length) : nth l j ∈ l := by
 rw [show nth l j = l[j] by simp [nth, h]]
 exact List.getElem_mem h
theorem mem_nth {l : TLi} {x : Tup intK} (h : x ∈ l) : ∃ j, j < l.length ∧ x = nth l j := by
 obtain ⟨j, hj, e⟩ := List.getElem_of_mem h
 exact ⟨j, hj, by rw [← e]; simp [nth, hj]⟩
theorem Bn.en (B : Bn g Wn Hn x0 x1 y0 y1) : ∀ x ∈ (tN g Wn x0 x1 y0 y1).l, 0 ≤ i1 x ∧ i1 x ≤ maxE := fun x hx => by
 obtain ⟨j, hj, rfl⟩ := mem_nth hx
 rw [tN_len] at hj
 have := (chk_len B.chk).2.2.2.2.2
 have h2 := B.at hj
 show 0 ≤ i1 (nth (tilN g.l Wn x0 (x1 - x0) y0 (y1 - y0)) j) ∧ i1 (nth (tilN g.l Wn x0 (x1 - x0) y0 (y1 - y0)) j) ≤ maxE
 rw [nth_tilN' hj]
 exact this _ (nth_in h2.1)
theorem Bn.chkT (B : Bn g Wn Hn x0 x1 y0 y1) : chkG (tN g Wn x0 x1 y0 y1) = 0 := by
 have b2 := B.w16; have b3 := B.x; have b4 := B.xw; have b5 := B.y; have b6 := B.yh; have b7 := B.h16
 exact chkG_in rfl rfl (by omega) (by omega) (by omega) (by omega) (tN_len ..) B.en
theorem sm_of {g : Gr} (h : chkG g = 0) : smG g = true := (Nat.ble_eq ..).mpr (by have := chk_sm h; omega)
theorem Bn.ov (B : Bn g Wn Hn x0 x1 y0 y1) {t : Gr} (ht : chkG t = 0) (hw : t.w = ((x1 - x0 : Nat) : Int)) (hh : t.h = ((y1 - y0 : Nat) : Int)) : ovOk g t (x0 : Int) (y0 : Int) = true := by
 have b0 := B.w; have b1 := B.h; have b2 := B.w16; have b3 := B.x; have b4 := B.xw; have b5 := B.y; have b6 := B.yh; have b7 := B.h16
 have hb : hasB g (x0 : Int) (y0 : Int) = true := by
  unfold hasB
  rw [decide_eq_true (by omega), decide_eq_true (by omega), decide_eq_true (by omega), decide_eq_true (by omega)]; rfl
 have e : e79 g t (x0 : Int) (y0 : Int) = 0 := fz_all fun e he => by
  simp only [List.mem_cons, List.not_mem_nil, or_false] at he
  rcases he with rfl | rfl | rfl
  ·exact B.chk
  ·exact ht
  ·rw [hb]; rfl
 unfold ovOk
 rw [e, show W (g.w - (x0 : Int)) = g.w - (x0 : Int) from W_id (by omega) (by omega), show W (g.h - (y0 : Int)) = g.h - (y0 : Int) from W_id (by omega) (by omega), decide_eq_false (by omega), decide_eq_false (by omega)]
 rfl
theorem Bn.ixO (B : Bn g Wn Hn x0 x1 y0 y1) {t : Gr} (hw : t.w = ((x1 - x0 : Nat) : Int)) {j : Nat} (hj : j < (y1 - y0) * (x1 - x0)) : ixO g t (x0 : Int) (y0 : Int) (j : Int) = (((y0 + j / (x1 - x0)) * Wn + x0 + j % (x1 - x0) : Nat) : Int) := by
 have b0 := B.w; have b1 := B.h; have b2 := B.w16; have b3 := B.x; have b4 := B.xw; have b5 := B.y; have b6 := B.yh; have b7 := B.h16; have bl := B.len; have bf := B.few
 obtain ⟨h1, h2, h3⟩ := B.at hj
 have hd : (j : Int).tdiv t.w = ((j / (x1 - x0) : Nat) : Int) := by rw [hw, Int.ofNat_tdiv]
 have hm : (j : Int).tmod t.w = ((j % (x1 - x0) : Nat) : Int) := by rw [hw, Int.ofNat_tmod]
 unfold Go.Proofs.YthcpfignhalffaaGreatDoor.ixO
 rw [hd, hm]
 clear hd hm hj
 generalize j / (x1 - x0) = q at *
 generalize j % (x1 - x0) = r at *
 have hmul : ((y0 : Int) + (q : Int)) * g.w = (((y0 + q) * Wn : Nat) : Int) := by rw [b0, ← Int.natCast_add, ← Int.natCast_mul]
 have hle : (y0 + q) * Wn ≤ 16 * 16 := Nat.mul_le_mul (by omega) b2
 rw [show W (q : Int) = (q : Int) from W_id (by omega) (by omega), show W ((y0 : Int) + (q : Int)) = (y0 : Int) + (q : Int) from W_id (by omega) (by omega), hmul,
  show W (((y0 + q) * Wn : Nat) : Int) = (((y0 + q) * Wn : Nat) : Int) from W_id (by omega) (by omega), show W ((x0 : Int) + (r : Int)) = (x0 : Int) + (r : Int) from W_id (by omega) (by omega)]
 rw [show W ((((y0 + q) * Wn : Nat) : Int) + ((x0 : Int) + (r : Int))) = (((y0 + q) * Wn : Nat) : Int) + ((x0 : Int) + (r : Int)) from W_id (by omega) (by omega)]
 omega
theorem Bn.any (B : Bn g Wn Hn x0 x1 y0 y1) : anyO g (tN g Wn x0 x1 y0 y1) (x0 : Int) (y0 : Int) = false := by
 unfold anyO
 rw [List.any_eq_false]
 intro j hj
 rw [List.mem_range'_1, tN_len] at hj
 have hj : j < (y1 - y0) * (x1 - x0) := by omega
 unfold cflI
 rw [B.ixO rfl hj, Int.toNat_natCast, Int.toNat_natCast]
 show ¬ (i1 (nth g.l _) != i1 (nth (tilN g.l Wn x0 (x1 - x0) y0 (y1 - y0)) j)) = true
 rw [nth_tilN' hj]
 simp
end
end Go.Proofs.YthcpfignhalffaaGreatDoor
namespace Go.Proofs.YthcpfignhalffaaGreatDoor
open Go Go.Am Go.RowKit
set_option maxRecDepth 100000
variable {w0 : World}
noncomputable section
variable {g : Gr} {Wn Hn x0 x1 y0 y1 : Nat}
theorem othE_val {t : Gr} (h : 0 ≤ i1 (nth t.l 0) ∧ i1 (nth t.l 0) ≤ maxE) : 0 ≤ othE t ∧ othE t ≤ maxE ∧ othE t ≠ i1 (nth t.l 0) := by
 rw [maxE_val] at h ⊢
 have e : IntKind.i64.wrap (i1 (nth t.l 0) + 1) = i1 (nth t.l 0) + 1 := W_id (by omega) (by omega)
 unfold othE
 rw [show IntKind.i64.wrap (i1 (nth t.l (Int.toNat 0 + 0)) + 1) = _ from e, Int.tmod_eq_emod_of_nonneg (by omega)]
 omega
theorem Bn.len0 (B : Bn g Wn Hn x0 x1 y0 y1) : 0 < (y1 - y0) * (x1 - x0) := Nat.mul_pos (by have := B.y; omega) (by have := B.x; omega)
theorem Bn.e0 (B : Bn g Wn Hn x0 x1 y0 y1) : 0 ≤ i1 (nth (tN g Wn x0 x1 y0 y1).l 0) ∧ i1 (nth (tN g Wn x0 x1 y0 y1).l 0) ≤ maxE := B.en _ (nth_in (by rw [tN_len]; exact B.len0))
theorem Bn.chkO (B : Bn g Wn Hn x0 x1 y0 y1) : chkG (oth (tN g Wn x0 x1 y0 y1)) = 0 := by
 have b2 := B.w16; have b3 := B.x; have b4 := B.xw; have b5 := B.y; have b6 := B.yh; have b7 := B.h16
 obtain ⟨h1, h2, _⟩ := othE_val B.e0
 refine chkG_in (Wn := x1 - x0) (Hn := y1 - y0) rfl rfl (by omega) (by omega) (by omega) (by omega) ?_ fun x hx => ?_
 ·show ((tN g Wn x0 x1 y0 y1).l.set _ _).length = _
  rw [List.length_set, tN_len]
 ·have hx : x ∈ (tN g Wn x0 x1 y0 y1).l.set (Int.toNat 0 + 0) (t1 (othE (tN g Wn x0 x1 y0 y1))) := hx
  rcases List.mem_or_eq_of_mem_set hx with h | rfl
  ·exact B.en x h
  ·exact ⟨h1, h2⟩
theorem Bn.anyO (B : Bn g Wn Hn x0 x1 y0 y1) : Go.Proofs.YthcpfignhalffaaGreatDoor.anyO g (oth (tN g Wn x0 x1 y0 y1)) (x0 : Int) (y0 : Int) = true := by
 have hp := B.len0
 obtain ⟨_, _, h3⟩ := othE_val B.e0
 have hl : (oth (tN g Wn x0 x1 y0 y1)).l.length = (y1 - y0) * (x1 - x0) := by
  show ((tN g Wn x0 x1 y0 y1).l.set _ _).length = _
  rw [List.length_set, tN_len]
 unfold Go.Proofs.YthcpfignhalffaaGreatDoor.anyO
 rw [List.any_eq_true]
 refine ⟨0, by rw [List.mem_range'_1, hl]; omega, ?_⟩
 unfold cflI
 rw [B.ixO (t := oth (tN g Wn x0 x1 y0 y1)) rfl hp, Int.toNat_natCast, Int.toNat_natCast]
 have e1 : nth (tN g Wn x0 x1 y0 y1).l 0 = nth g.l ((y0 + 0 / (x1 - x0)) * Wn + x0 + 0 % (x1 - x0)) := nth_tilN' hp
 have e2 : nth (oth (tN g Wn x0 x1 y0 y1)).l 0 = t1 (othE (tN g Wn x0 x1 y0 y1)) := by
  show nth ((tN g Wn x0 x1 y0 y1).l.set 0 _) 0 = _
  have hp2 : 0 < (tN g Wn x0 x1 y0 y1).l.length := by rw [tN_len]; exact hp
  unfold nth
  rw [List.getD_eq_getElem?_getD, List.getElem?_set_self hp2]; rfl
 rw [← e1, e2, bne_iff_ne]
 exact fun h => h3 h.symm
theorem shift_map {f h : Nat → Tup intK} {a b n : Nat} (e : ∀ c, c < n → f (a + c) = h (b + c)) : (List.range' a n).map f = (List.range' b n).map h := by
 apply List.ext_getElem?
 intro c
 rw [List.getElem?_map, List.getElem?_map]
 by_cases hc : c < n
 ·rw [List.getElem?_range' hc, List.getElem?_range' hc]
  simp only [Option.map_some, Nat.one_mul]
  rw [e c hc]
 ·rw [List.getElem?_eq_none (by simp; omega), List.getElem?_eq_none (by simp; omega)]
  rfl
theorem til_row {l : TLi} {x tw y n r : Nat} (hr : r < n) : ((tilN l Wn x tw y n).drop (r * tw)).take tw = rowU l Wn x tw (y + r) := by
 have h : r * tw + tw ≤ n * tw := by rw [← Nat.succ_mul]; exact Nat.mul_le_mul_right _ hr
 rw [drop_take _ _ (by rw [tilN_len]; exact h)]
 unfold rowU
 exact shift_map fun c hc => by rw [nth_tilN hc hr, Nat.add_assoc]
theorem loJ_nat {t : Gr} {tw : Nat} (hw : t.w = (tw : Int)) {j : Nat} (h : j * tw ≤ 1000) : loJ t (j : Int) = ((j * tw : Nat) : Int) := by
 unfold loJ
 rw [hw, ← Int.natCast_mul]
 exact W_id (by omega) (by omega)
theorem rowJ_til {x tw y n r : Nat} {l : TLi} {t : Gr} (ht : t.l = tilN l Wn x tw y n) (hw : t.w = (tw : Int)) (hr : r < n) (hn : n ≤ 16) (htw : tw ≤ 16) : rowJ t (r : Int) = rowU l Wn x tw (y + r) := by
 have h1 : r * tw ≤ 16 * 16 := Nat.mul_le_mul (by omega) htw
 have h2 : (r + 1) * tw ≤ 17 * 16 := Nat.mul_le_mul (by omega) htw
 have e : W ((r : Int) + 1) = ((r + 1 : Nat) : Int) := W_id (by omega) (by omega)
 unfold rowJ
 rw [e, loJ_nat hw (by omega), loJ_nat hw (by omega), Int.toNat_natCast, Int.toNat_natCast, ht, Nat.zero_add, Nat.succ_mul, show r * tw + tw - r * tw = tw by omega]
 exact til_row hr
theorem rows_join {l : TLi} {a b r : Nat} : rowU l Wn 0 a r ++ rowU l Wn a b r = (List.range' (r * Wn) (a + b)).map (nth l) := by
 unfold rowU
 rw [← List.map_append, Nat.add_zero]
 congr 1
 simp
theorem fold_join {l : TLi} {a b : Nat} (hab : a + b = Wn) {f : Nat → TLi} : ∀ (n k : Nat) (o : TLi), (∀ j, k ≤ j → j < k + n → f j = rowU l Wn 0 a j ++ rowU l Wn a b j) → (List.range' k n).foldl (fun out j => out ++ f j) o = o ++ (List.range' (k * Wn) (n * Wn)).map (nth l)
 | 0, k, o, _ => by simp
 | n + 1, k, o, h => by
   rw [List.range'_succ, List.foldl_cons, fold_join hab n (k + 1) _ (fun j h1 h2 => h j (by omega) (by omega)), h k (Nat.le_refl _) (by omega), rows_join, hab, List.append_assoc, ← List.map_append]
   congr 2
   rw [Nat.succ_mul k, Nat.succ_mul n, Nat.add_comm (n * Wn) Wn]
   simp
theorem range_all (l : TLi) : (List.range' 0 l.length).map (nth l) = l := by
 rw [← drop_take (k := 0) l.length l (by omega), List.drop_zero, List.take_length]
theorem joined {Bl : Bn g Wn Hn 0 x0 0 Hn} (Br : Bn g Wn Hn x0 Wn 0 Hn) : e80 (tN g Wn 0 x0 0 Hn) (tN g Wn x0 Wn 0 Hn) = 0 ∧ joinG (tN g Wn 0 x0 0 Hn) (tN g Wn x0 Wn 0 Hn) = g := by
 have b2 := Bl.w16; have b3 := Bl.x; have b4 := Bl.xw; have b7 := Bl.h16; have b8 := Bl.w; have b9 := Bl.h; have b10 := Bl.len
 have hw : W ((tN g Wn 0 x0 0 Hn).w + (tN g Wn x0 Wn 0 Hn).w) = (Wn : Int) := by
  show W (((x0 - 0 : Nat) : Int) + ((Wn - x0 : Nat) : Int)) = _
  rw [show W (((x0 - 0 : Nat) : Int) + ((Wn - x0 : Nat) : Int)) = _ from W_id (by omega) (by omega)]
  omega
 constructor
 ·exact fz_all fun e he => by
   simp only [List.mem_cons, List.not_mem_nil, or_false] at he
   rcases he with rfl | rfl | rfl | rfl
   ·exact Bl.chkT
   ·exact Br.chkT
   ·show whenZ (((Hn - 0 : Nat) : Int) != ((Hn - 0 : Nat) : Int)) 2 = 0
    unfold whenZ
    simp
   ·rw [hw]
    unfold whenZ
    rw [decide_eq_false (by omega)]; rfl
 ·obtain ⟨gw, gh, gl⟩ := g
  simp only at b8 b9 b10
  subst b8 b9
  unfold joinG catL
  rw [hw]
  show (⟨_, _, _⟩ : Gr) = _
  congr 1
  show (List.range' 0 ((((Hn - 0 : Nat) : Int))).toNat).foldl _ [] = _
  rw [Int.toNat_natCast, Nat.sub_zero]
  have hf := fold_join (Wn := Wn) (l := gl) (a := x0) (b := Wn - x0) (by omega) (f := fun j => rowJ (tN ⟨(Wn : Int), (Hn : Int), gl⟩ Wn 0 x0 0 Hn) (j : Int) ++ rowJ (tN ⟨(Wn : Int), (Hn : Int), gl⟩ Wn x0 Wn 0 Hn) (j : Int)) Hn 0 [] (fun j _ hj => by
   show rowJ _ _ ++ rowJ _ _ = _
   rw [rowJ_til (t := tN ⟨(Wn : Int), (Hn : Int), gl⟩ Wn 0 x0 0 Hn) (l := gl) (Wn := Wn) (x := 0) (tw := x0 - 0) (y := 0) (n := Hn - 0) (r := j) rfl rfl (by omega) (by omega) (by omega),
    rowJ_til (t := tN ⟨(Wn : Int), (Hn : Int), gl⟩ Wn x0 Wn 0 Hn) (l := gl) (Wn := Wn) (x := x0) (tw := Wn - x0) (y := 0) (n := Hn - 0) (r := j) rfl rfl (by omega) (by omega) (by omega)]
   simp)
  rw [Nat.zero_mul, ← b10, range_all, List.nil_append] at hf
  simp only [List.append_assoc] at hf ⊢
  exact hf
end
end Go.Proofs.YthcpfignhalffaaGreatDoor
namespace Go.Proofs.YthcpfignhalffaaGreatDoor
open Go Go.Am Go.RowKit
set_option maxRecDepth 100000
variable {w0 : World}
noncomputable section
structure Vg (g : Gr) (Wn Hn : Nat) : Prop where
 chk : chkG g = 0
 few : g.l.length ≤ 36
 w : g.w = (Wn : Int)
 h : g.h = (Hn : Int)
 w1 : 1 ≤ Wn
 w16 : Wn ≤ 16
 h1 : 1 ≤ Hn
 h16 : Hn ≤ 16
 len : g.l.length = Hn * Wn
theorem Vg.bn {g : Gr} {Wn Hn x0 x1 y0 y1 : Nat} (V : Vg g Wn Hn) (a : x0 < x1) (b : x1 ≤ Wn) (c : y0 < y1) (d : y1 ≤ Hn) : Bn g Wn Hn x0 x1 y0 y1 := ⟨V.chk, V.few, V.w, V.h, V.w1, V.w16, V.h1, V.h16, V.len, a, b, c, d⟩
theorem vg_of {g : Gr} (hc : chkG g = 0) (hf : few g = true) : ∃ Wn Hn, Vg g Wn Hn := by
 obtain ⟨_, w1, w2, h1, h2, _⟩ := chk_len hc
 have hm := chk_mul hc
 unfold Go.Proofs.YthcpfignhalffaaGreatDoor.few at hf
 have hf := of_decide_eq_true hf
 obtain ⟨Wn, hW⟩ : ∃ n : Nat, g.w = (n : Int) := ⟨g.w.toNat, by omega⟩
 obtain ⟨Hn, hH⟩ : ∃ n : Nat, g.h = (n : Int) := ⟨g.h.toNat, by omega⟩
 refine ⟨Wn, Hn, hc, by omega, hW, hH, by omega, by omega, by omega, by omega, ?_⟩
 rw [hW, hH, ← Int.natCast_mul] at hm
 exact Int.ofNat.inj hm
variable {g : Gr} {Wn Hn : Nat}
theorem Vg.cell (V : Vg g Wn Hn) {j : Nat} (hj : j < g.l.length) : hotE g (j : Int) = (((j % Wn : Nat) : Int), ((j / Wn : Nat) : Int), i1 (nth g.l j), ()) := by
 have h1 := V.few; have h2 := V.w; have h3 := V.w1
 have hd : j / Wn ≤ j := Nat.div_le_self ..
 unfold hotE
 rw [h2, ← Int.ofNat_tmod, ← Int.ofNat_tdiv, Int.toNat_natCast, show W ((j / Wn : Nat) : Int) = ((j / Wn : Nat) : Int) from by
  generalize j / Wn = q at *
  exact W_id (by omega) (by omega)]
 rfl
theorem Vg.div (V : Vg g Wn Hn) {j : Nat} (hj : j < g.l.length) : j / Wn < Hn ∧ j % Wn < Wn := by
 have h3 := V.w1
 refine ⟨?_, Nat.mod_lt _ (by omega)⟩
 rw [Nat.div_lt_iff_lt_mul (by omega), ← V.len]
 exact hj
theorem Vg.has (V : Vg g Wn Hn) {j : Nat} (hj : j < g.l.length) : hasB g (((j % Wn : Nat) : Int)) (((j / Wn : Nat) : Int)) = true := by
 obtain ⟨h1, h2⟩ := V.div hj
 have h3 := V.w; have h4 := V.h
 generalize j / Wn = q at *
 generalize j % Wn = r at *
 unfold hasB
 rw [decide_eq_true (by omega), decide_eq_true (by omega), decide_eq_true (by omega), decide_eq_true (by omega)]; rfl
theorem Vg.ix (V : Vg g Wn Hn) {j : Nat} (hj : j < g.l.length) : ixA g (((j % Wn : Nat) : Int)) (((j / Wn : Nat) : Int)) = (j : Int) := by
 obtain ⟨h1, h2⟩ := V.div hj
 have h3 := V.w; have h5 := V.w16; have h6 := V.h16; have h7 := V.few
 have e : j / Wn * Wn + j % Wn = j := by rw [Nat.mul_comm]; exact Nat.div_add_mod j Wn
 have hm : ((j / Wn : Nat) : Int) * g.w = ((j / Wn * Wn : Nat) : Int) := by rw [h3, ← Int.natCast_mul]
 unfold ixA
 rw [hm]
 generalize j / Wn * Wn = q at *
 generalize j % Wn = r at *
 rw [show W (q : Int) = (q : Int) from W_id (by omega) (by omega), show W ((q : Int) + (r : Int)) = (q : Int) + (r : Int) from W_id (by omega) (by omega)]
 omega
theorem Vg.mem (V : Vg g Wn Hn) {x : Tup hK} (h : x ∈ sortH (hotL g)) : ∃ j, j < g.l.length ∧ x = hotE g (j : Int) := by
 have h := (sortH_perm (hotL g)).subset h
 unfold hotL at h
 obtain ⟨j, hj, rfl⟩ := List.mem_map.1 h
 rw [List.mem_range'_1] at hj
 exact ⟨j, by omega, rfl⟩
theorem Vg.mem' {j : Nat} (hj : j < g.l.length) : hotE g (j : Int) ∈ sortH (hotL g) := by
 refine (sortH_perm (hotL g)).symm.subset ?_
 unfold hotL
 exact List.mem_map.2 ⟨j, by rw [List.mem_range'_1]; omega, rfl⟩
theorem cell_one {w : Nat} {i j : Nat} (h1 : i % w = j % w) (h2 : i / w = j / w) : i = j := by
 rw [← Nat.div_add_mod i w, ← Nat.div_add_mod j w, h1, h2]
theorem Vg.nodup (V : Vg g Wn Hn) : ((sortH (hotL g)).map ptH).Nodup := by
 have h1 : ((hotL g).map ptH).Nodup := by
  unfold hotL
  rw [List.map_map]
  unfold List.Nodup
  rw [List.pairwise_map]
  refine (List.nodup_range' (s := 0) (n := g.l.length) (step := 1)).imp_of_mem fun {a b} ha hb hab => ?_
  rw [List.mem_range'_1] at ha hb
  intro he
  have he : ptH (hotE g (a : Int)) = ptH (hotE g (b : Int)) := he
  rw [V.cell (by omega), V.cell (by omega)] at he
  have e1 : (((a % Wn : Nat) : Int)) = ((b % Wn : Nat) : Int) := congrArg (fun p : Tup ptK => p1 p) he
  have e2 : (((a / Wn : Nat) : Int)) = ((b / Wn : Nat) : Int) := congrArg (fun p : Tup ptK => p2 p) he
  exact hab (cell_one (Int.ofNat.inj e1) (Int.ofNat.inj e2))
 exact (((sortH_perm (hotL g)).map ptH).nodup_iff).2 h1
def putP (es : Es) (p : Tup ptK) : Es := ptP' (p1 p) (p2 p) es
def isP (x y : Int) (p : Tup ptK) : Bool := p1 p == x && p2 p == y
theorem gt_putP (x y : Int) (p : Tup ptK) (es : Es) : gtP x y (putP es p) = (isP x y p || gtP x y es) := by
 have h := getT_put (kk := .pt) (vk := .bool) rfl (x, y) (p1 p, p2 p) true es
 have : keyEq .pt (x, y) (p1 p, p2 p) = isP x y p := by
  show ((x == p1 p) && ((y == p2 p) && true)) = _
  unfold isP
  rw [Bool.and_true]
  congr 1 <;> exact Bool.eq_iff_iff.2 (by simp only [beq_iff_eq]; exact eq_comm)
 rw [this] at h
 show getT (kk := .pt) (vk := .bool) (x, y) (putM (kk := .pt) (vk := .bool) (p1 p, p2 p) true es) = _
 refine h.trans ?_
 cases isP x y p <;> rfl
theorem gt_puts (x y : Int) : ∀ (l : TP) (es : Es), gtP x y (l.foldl putP es) = (l.any (isP x y) || gtP x y es)
 | [], es => rfl
 | p :: l, es => by
   show gtP x y (l.foldl putP (putP es p)) = _
   rw [gt_puts x y l, gt_putP, List.any_cons]
   cases isP x y p <;> cases l.any (isP x y) <;> rfl
def stK (g : Gr) (p : Tup ptK) (es : Es) : X × Es := bif !hasB g (p1 p) (p2 p) then (.ret, es) else bif gtP (p1 p) (p2 p) es then (.ret, es) else (.normal, putP es p)
theorem isP_eq {x y : Int} {p : Tup ptK} : isP x y p = true ↔ p = (x, y, ()) := by
 obtain ⟨a, b, u⟩ := p
 unfold isP
 rw [Bool.and_eq_true, beq_iff_eq, beq_iff_eq]
 constructor
 ·rintro ⟨h1, h2⟩
  have h1 : a = x := h1
  have h2 : b = y := h2
  subst h1
  subst h2
  rfl
 ·intro h
  have h1 : a = x := congrArg (fun p : Tup ptK => p1 p) h
  have h2 : b = y := congrArg (fun p : Tup ptK => p2 p) h
  exact ⟨h1, h2⟩
theorem runK (g : Gr) : ∀ (l : TP) (i : Nat) (es : Es), (∀ p ∈ l, hasB g (p1 p) (p2 p) = true) → l.Nodup → (∀ p ∈ l, gtP (p1 p) (p2 p) es = false) → lsRun 2 (stK g) l i es = (.exit 2, (((i + l.length : Nat) : Int), l.foldl putP es))
 | [], i, es, _, _, _ => rfl
 | p :: l, i, es, h1, h2, h3 => by
   have hp := h1 p (by simp)
   have hq := h3 p (by simp)
   rw [List.nodup_cons] at h2
   unfold lsRun
   have e : stK g p es = (.normal, putP es p) := by
    unfold stK
    rw [hp, hq]; rfl
   rw [e]
   simp only
   rw [runK g l (i + 1) (putP es p) (fun q hq => h1 q (by simp [hq])) h2.2 (fun q hq => by
    rw [gt_putP, h3 q (by simp [hq]), Bool.or_false]
    cases hx : isP (p1 q) (p2 q) p with
    | false => rfl
    | true =>
      rw [isP_eq] at hx
      exact absurd hq (by
       have : q = p := by rw [hx]; rfl
       rw [this]; exact h2.1))]
   rw [List.length_cons, show i + 1 + l.length = i + (l.length + 1) by omega]
   rfl
end
end Go.Proofs.YthcpfignhalffaaGreatDoor
namespace Go.Proofs.YthcpfignhalffaaGreatDoor
open Go Go.Am Go.RowKit
set_option maxRecDepth 100000
variable {w0 : World}
noncomputable section
theorem sameG_refl (g : Gr) : sameG g g = true := by
 unfold sameG sizeB sameI
 rw [decide_eq_true rfl, beq_self_eq_true, beq_self_eq_true]; rfl
end
end Go.Proofs.YthcpfignhalffaaGreatDoor
namespace Go.Proofs.YthcpfignhalffaaGreatDoor
open Go Go.Am Go.RowKit
set_option maxRecDepth 100000
variable {g : Gr} {Wn Hn : Nat}
theorem Vg.wN (V : Vg g Wn Hn) : g.w.toNat = Wn := by have := V.w; omega
theorem Vg.hN (V : Vg g Wn Hn) : g.h.toNat = Hn := by have := V.h; omega
theorem Vg.ok (V : Vg g Wn Hn) : okN g.l := (chk_len V.chk).2.2.2.2.2
theorem Vg.rowLen (V : Vg g Wn Hn) {y : Nat} (hy : y < Hn) : (rowG g y).length = Wn := by
 have h : y * Wn + Wn ≤ Hn * Wn := by rw [← Nat.succ_mul]; exact Nat.mul_le_mul_right _ hy
 unfold rowG
 rw [List.length_take, List.length_drop, V.len, V.wN]
 omega
theorem Vg.rowOk (V : Vg g Wn Hn) (y : Nat) : okN (rowG g y) := fun x hx => V.ok x (List.mem_of_mem_drop (List.mem_of_mem_take hx))
theorem Vg.rows (V : Vg g Wn Hn) : ∀ r ∈ rowsL g, okN r ∧ r.length = Wn := fun r hr => by
 unfold rowsL at hr
 obtain ⟨y, hy, rfl⟩ := List.mem_map.1 hr
 rw [List.mem_range'_1, V.hN] at hy
 exact ⟨V.rowOk y, V.rowLen (by omega)⟩
theorem Vg.rows' (V : Vg g Wn Hn) : ∀ r ∈ rowsL g, okN r ∧ r ≠ [] := fun r hr => ⟨(V.rows r hr).1, fun e => by
 have h1 := (V.rows r hr).2
 have h2 := V.w1
 rw [e] at h1
 simp at h1
 omega⟩
theorem Vg.rowsN (V : Vg g Wn Hn) : (rowsL g).length = Hn := by unfold rowsL; rw [List.length_map, List.length_range', V.hN]
theorem Vg.fl (V : Vg g Wn Hn) : ∀ (n y : Nat), y + n ≤ Hn → flQ (((List.range' y n).map (rowG g)).map rowT) = (g.l.drop (y * Wn)).take (n * Wn)
 | 0, y, _ => by simp [flQ_nil]
 | n + 1, y, h => by
   rw [List.range'_succ, List.map_cons, List.map_cons, flQ_cons, V.fl n (y + 1) (by omega)]
   show rowG g y ++ _ = _
   unfold rowG
   rw [V.wN, Nat.succ_mul n, Nat.add_comm (n * Wn) Wn, List.take_add, List.drop_drop, Nat.succ_mul y]
theorem Vg.flat (V : Vg g Wn Hn) : flQ ((rowsL g).map rowT) = g.l := by
 unfold rowsL
 rw [V.hN, V.fl Hn 0 (by omega), Nat.zero_mul, List.drop_zero, List.take_of_length_le (by rw [V.len]; omega)]
theorem allI_of {l : TLi} (h : okN l) : allI l = true := by
 unfold allI
 rw [List.all_eq_true]
 exact fun x hx => in64_of (h x hx).1 (h x hx).2
theorem flat_len : ∀ {rs : List TLi}, (∀ r ∈ rs, okN r ∧ r.length = Wn) → (rs.flatMap fun r => ln1 r ++ [10]).length ≤ rs.length * (4 + 21 * Wn)
 | [], _ => by simp
 | r :: rs, h => by
   have h1 := flat_len (rs := rs) fun x hx => h x (by simp [hx])
   obtain ⟨h2, h3⟩ := h r (by simp)
   have h4 := numS_len r (allI_of h2)
   have h5 : (bl wRow).length = 3 := rfl
   have h6 : (ln1 r).length ≤ 3 + 21 * Wn := by
    unfold ln1
    rw [List.length_append, h5]
    rw [h3] at h4
    omega
   have h7 : (r :: rs).length * (4 + 21 * Wn) = rs.length * (4 + 21 * Wn) + (4 + 21 * Wn) := by rw [List.length_cons, Nat.succ_mul]
   rw [List.flatMap_cons, List.length_append, List.length_append, h7]
   generalize rs.length * (4 + 21 * Wn) = q at *
   simp only [List.length_cons, List.length_nil]
   omega
theorem Vg.hd (V : Vg g Wn Hn) : okN [t1 g.w, t1 g.h] := fun x hx => by
 have h1 := V.w; have h2 := V.h; have h3 := V.w16; have h4 := V.h16
 rw [maxE_val]
 simp only [List.mem_cons, List.not_mem_nil, or_false] at hx
 rcases hx with rfl | rfl
 ·show 0 ≤ g.w ∧ g.w ≤ 10000000000000; omega
 ·show 0 ≤ g.h ∧ g.h ≤ 10000000000000; omega
theorem Vg.size (V : Vg g Wn Hn) : (prtG g).size ≤ 4000 := by
 have h1 := flat_len V.rows
 have h2 := numS_len _ (allI_of V.hd)
 have h3 := V.len; have h4 := V.few; have h5 := V.h16
 have h6 : (bl wGrid).length = 4 := rfl
 rw [V.rowsN, Nat.mul_add, Nat.mul_left_comm, ← h3] at h1
 rw [← bl_len, bl_prt, List.length_append, List.length_cons]
 unfold ln0
 rw [List.length_append, h6]
 simp only [List.length_cons, List.length_nil] at h2
 omega
theorem gt_ok {s : ByteArray} (h1 : s.size ≤ 4096) (h2 : bl s ≠ []) : gtT s = 0 := by
 unfold gtT
 rw [decide_eq_false (show ¬ (((s.size : Nat) : Int) > 4096) by omega), str_eq, show (bl s == bl mtL) = false by
  rw [beq_eq_false_iff_ne]; exact h2]
 rfl
theorem ln0_ne (g : Gr) (m : List UInt8) : ln0 g ++ m ≠ [] := by
 intro h
 have := congrArg List.length h
 have h6 : (bl wGrid).length = 4 := rfl
 unfold ln0 at this
 rw [List.length_append, List.length_append, h6] at this
 simp at this
theorem ln0_no (V : Vg g Wn Hn) : (ln0 g).count 10 = 0 := num_no (by rfl) V.hd
theorem Vg.spl (V : Vg g Wn Hn) : Go.Proofs.YthcpfignhalffaaGreatDoor.spl 10 (bl (prtG g)) = ln0 g :: ((rowsL g).map ln1 ++ [[]]) := by
 have := spl_rows (rowsL g) [] fun r hr => (V.rows r hr).1
 rw [List.append_nil] at this
 rw [bl_prt, spl_app (ln0_no V), this]
 rfl
theorem Vg.par (V : Vg g Wn Hn) : parP (prtG g) = (g, 0, 0) := by
 have hs := V.size
 unfold parP
 rw [gt_ok (by omega) (by rw [bl_prt]; exact ln0_ne _ _), V.spl, go_grid V.hd (by simp), go_rows _ _ _ (by simp) (by simp) V.rows']
 show fz87 ([rowT [t1 g.w, t1 g.h]] ++ (rowsL g).map rowT) = _
 have e1 : tlQ ([rowT [t1 g.w, t1 g.h]] ++ (rowsL g).map rowT) = (rowsL g).map rowT := by rw [tlQ_eq]; rfl
 have e2 : gR ([rowT [t1 g.w, t1 g.h]] ++ (rowsL g).map rowT) = g := by
  unfold gR
  rw [e1, V.flat]; rfl
 have e3 : apQ ([rowT [t1 g.w, t1 g.h]] ++ (rowsL g).map rowT) = false := by
  unfold apQ
  rw [e1, e2, List.any_eq_false]
  intro x hx
  obtain ⟨r, hr, rfl⟩ := List.mem_map.1 hx
  have h1 := (V.rows r hr).2
  show ¬ ((((r.length : Nat) : Int) != g.w) = true)
  rw [h1, V.w]; simp
 have e4 : (((([rowT [t1 g.w, t1 g.h]] ++ (rowsL g).map rowT).length : Nat) : Int) - 1 != gH ([rowT [t1 g.w, t1 g.h]] ++ (rowsL g).map rowT)) = false := by
  rw [List.length_append, List.length_map, V.rowsN]
  show ((((1 + Hn : Nat) : Int)) - 1 != g.h) = false
  rw [V.h, bne_eq_false_iff_eq]
  omega
 unfold fz87 e87
 rw [e3, e4, e2, V.chk]
 rfl
theorem Vg.last (V : Vg g Wn Hn) : ∃ rs r, rowsL g = rs ++ [r] := by
 rcases List.eq_nil_or_concat (rowsL g) with h | ⟨rs, r, h⟩
 ·have h1 := V.rowsN; have h2 := V.h1
  rw [h] at h1
  simp at h1
  omega
 ·exact ⟨rs, r, by rw [h, List.concat_eq_append]⟩
theorem ct_bl {s : ByteArray} {A : List UInt8} (h : bl s = A ++ [10]) (hs : s.size ≤ 4096) : bl (ctS s) = A ∧ cutG s = true := by
 have h1 : s.size = A.length + 1 := by rw [← bl_len, h, List.length_append, List.length_singleton]
 have h2 : IntKind.i64.wrap (((s.size : Nat) : Int) - 1) = (A.length : Int) := by rw [show IntKind.i64.wrap (((s.size : Nat) : Int) - 1) = ((s.size : Nat) : Int) - 1 from W_id (by omega) (by omega)]; omega
 constructor
 ·unfold ctS
  rw [h2, Int.toNat_natCast, ext_0, bl_mkB, h, List.take_append_of_le_length (Nat.le_refl _), List.take_length]
 ·unfold cutG
  rw [h2, decide_eq_true (by omega), decide_eq_true (by omega)]; rfl
theorem Vg.cut (V : Vg g Wn Hn) : (parP (ctS (prtG g))).2.1 = g.h ∧ (parP (ctS (prtG g))).2.2 = 25 ∧ cutG (prtG g) = true := by
 have hs := V.size
 obtain ⟨rs, r, hr⟩ := V.last
 have hok := V.rows'
 have hn := V.rowsN
 rw [hr] at hok hn
 rw [List.length_append, List.length_singleton] at hn
 have hA : bl (prtG g) = (ln0 g ++ 10 :: (rs.flatMap (fun r => ln1 r ++ [10]) ++ ln1 r)) ++ [10] := by
  rw [bl_prt, hr]
  simp
 obtain ⟨c1, c2⟩ := ct_bl hA (by omega)
 have hsz : (ctS (prtG g)).size ≤ 4096 := by
  have := congrArg List.length hA
  rw [List.length_append, ← c1, bl_len, bl_len] at this
  omega
 have hr1 := (hok r (by simp)).1
 have hp : parP (ctS (prtG g)) = (g0, ((([rowT [t1 g.w, t1 g.h]] ++ rs.map rowT).length : Nat) : Int), 25) := by
  unfold parP
  rw [gt_ok hsz (by rw [c1]; exact ln0_ne _ _), c1, spl_app (ln0_no V), spl_rows rs _ (fun x hx => (hok x (by simp [hx])).1), spl_none (l := ln1 r) (num_no (by rfl) hr1), go_grid V.hd (by simp), go_rows _ _ _ (by simp) (by simp) (fun x hx => hok x (by simp [hx]))]
  rfl
 rw [hp]
 refine ⟨?_, rfl, c2⟩
 rw [List.length_append, List.length_map, V.h]
 show ((1 + rs.length : Nat) : Int) = _
 omega
theorem Vg.uE (V : Vg g Wn Hn) (n y : Rw) : Go.Proofs.YthcpfignhalffaaGreatDoor.uE g (prtG g) (parP (prtG g)) n y = y := by
 obtain ⟨k1, k2, k3⟩ := V.cut
 have hs := V.size; have hw := V.h; have hh := V.h16
 have hsm : smG g = true := sm_of V.chk
 have hS : smS (prtG g) = true := by unfold smS; rw [Nat.ble_eq]; omega
 have hl : ((((splC (cU 10) (prtG g)).length : Nat) : Int) != IntKind.i64.wrap (g.h + 2)) = false := by
  rw [bne_eq_false_iff_eq, show IntKind.i64.wrap (g.h + 2) = g.h + 2 from W_id (by omega) (by omega)]
  unfold splC
  rw [List.length_map, show cU 10 = 10 from rfl, V.spl, List.length_cons, List.length_append, List.length_map, V.rowsN, hw]
  simp only [List.length_cons, List.length_nil]
  omega
 unfold Go.Proofs.YthcpfignhalffaaGreatDoor.uE gT nT aT
 rw [V.par, hsm, V.chk, sameG_refl, hS, hl, k3, k1, k2]
 simp
end Go.Proofs.YthcpfignhalffaaGreatDoor
namespace Go.Proofs.YthcpfignhalffaaGreatDoor
open Go Go.Am Go.RowKit
set_option maxRecDepth 100000
variable {w0 : World}
noncomputable section
variable {g : Gr} {Wn Hn m : Nat}
abbrev cX (x : Tup hK) : Int := h1 x
abbrev cY (x : Tup hK) : Int := h2 x
theorem hotN (hm : m ≤ g.l.length) : (hotS g (m : Int)).length = m := by
 unfold hotS
 rw [List.length_map, List.length_take, sortH_len, hotL_len, Int.toNat_natCast]
 omega
theorem Vg.hotHas (V : Vg g Wn Hn) : ∀ p ∈ hotS g (m : Int), hasB g (p1 p) (p2 p) = true := fun p hp => by
 unfold hotS at hp
 obtain ⟨x, hx, rfl⟩ := List.mem_map.1 hp
 obtain ⟨j, hj, rfl⟩ := V.mem (List.mem_of_mem_take hx)
 have e := V.cell hj
 show hasB g (cX (hotE g j)) (cY (hotE g j)) = true
 rw [e]
 exact V.has hj
theorem Vg.hotNd (V : Vg g Wn Hn) : (hotS g (m : Int)).Nodup := by
 unfold hotS
 rw [List.map_take]
 exact V.nodup.sublist (List.take_sublist ..)
theorem Vg.hotLast (V : Vg g Wn Hn) (h1 : 1 ≤ m) (h2 : m ≤ g.l.length) : ∃ j, j < g.l.length ∧ hotE g (j : Int) ∈ (sortH (hotL g)).take m ∧ nth (hotS g (m : Int)) (m - 1) = ptH (hotE g (j : Int)) := by
 have hl : ((sortH (hotL g)).take m).length = m := by rw [List.length_take, sortH_len, hotL_len]; omega
 have hx : m - 1 < ((sortH (hotL g)).take m).length := by omega
 obtain ⟨j, hj, e⟩ := V.mem (List.mem_of_mem_take (List.getElem_mem hx))
 refine ⟨j, hj, ?_, ?_⟩
 ·rw [← e]; exact List.getElem_mem hx
 ·rw [← e]
  unfold hotS nth
  rw [Int.toNat_natCast, List.getD_eq_getElem?_getD, List.getElem?_map, List.getElem?_eq_getElem hx]
  rfl
theorem hx_eq (hot : TP) (j : Nat) : hx hot (j : Int) = p1 (nth hot j) := rfl
theorem hy_eq (hot : TP) (j : Nat) : hy hot (j : Int) = p2 (nth hot j) := rfl
theorem Vg.lev (V : Vg g Wn Hn) {v : Ev} (hv : v.g = g) {j : Nat} (hj : j < g.l.length) (h1 : 1 ≤ m) (h2 : m ≤ g.l.length) (e : nth (hotS g (m : Int)) (m - 1) = ptH (hotE g (j : Int))) : lsV v (m : Int) = (j : Int) := by
 subst hv
 have hb := V.few
 have e1 : IntKind.i64.wrap ((m : Int) - 1) = ((m - 1 : Nat) : Int) := by rw [show IntKind.i64.wrap ((m : Int) - 1) = (m : Int) - 1 from W_id (by omega) (by omega)]; omega
 unfold lsV
 rw [e1, hx_eq, hy_eq, e]
 show ixA v.g (cX (hotE v.g j)) (cY (hotE v.g j)) = _
 rw [V.cell hj]
 exact V.ix hj
theorem Vg.cold (V : Vg g Wn Hn) {j i : Nat} (hj : j < g.l.length) (hi : i < g.l.length) (hjm : hotE g (j : Int) ∈ (sortH (hotL g)).take m)
  (h : gtP (cX (hotE g (i : Int))) (cY (hotE g (i : Int))) ((hotS g (m : Int)).foldl putP []) = false) : i1 (nth g.l i) ≤ i1 (nth g.l j) := by
 rw [gt_puts, Bool.or_eq_false_iff] at h
 have hn : hotE g (i : Int) ∉ (sortH (hotL g)).take m := fun hm => by
  have := List.any_eq_false.1 h.1 (ptH (hotE g (i : Int))) (by
   unfold hotS
   rw [Int.toNat_natCast]
   exact List.mem_map.2 ⟨_, hm, rfl⟩)
  exact this (isP_eq.2 rfl)
 have hs := sortH_sorted (hotL g)
 rw [← List.take_append_drop m (sortH (hotL g)), List.pairwise_append] at hs
 have hm := Vg.mem' hi
 rw [← List.take_append_drop m (sortH (hotL g)), List.mem_append] at hm
 have hd := hm.resolve_left hn
 have := hs.2.2 _ hjm _ hd
 have e1 : h3 (hotE g (i : Int)) = i1 (nth g.l i) := by unfold hotE; rw [Int.toNat_natCast]; rfl
 have e2 : h3 (hotE g (j : Int)) = i1 (nth g.l j) := by unfold hotE; rw [Int.toNat_natCast]; rfl
 unfold ltH at this
 rw [e1, e2] at this
 omega
abbrev es0 (g : Gr) (m : Nat) : Es := (hotS g (m : Int)).foldl putP []
theorem toldP2 (h0 : Lib0 w0) {v : Ev} (V : Vg v.g Wn Hn) (h2 : m ≤ v.g.l.length) : LdT ((cfg w0).at cs11) (ldP2 v (hotS v.g (m : Int)) (m : Int) ((m : Int), es0 v.g m)) lq2 (stP2 v (hotS v.g (m : Int)) (m : Int) false (0, [])) := by
 have hb := V.few
 have hN := hotN h2
 have hx := runK v.g (hotS v.g (m : Int)) 0 [] V.hotHas V.hotNd (fun p _ => rfl)
 rw [hN, Nat.zero_add] at hx
 exact ldT_ls (at_ok (cfg_ok w0) cs11) (at_sp h0 (cs11_gd h0)) (N := N11) (rel := relP2) (B := lpB 2 (fnOf Tryz.f11).body) (id := 2) (hotS v.g (m : Int)) (by omega) (stP2 v (hotS v.g (m : Int)) (m : Int) false) (stK v.g) (fun _ _ => True)
  (fun j es hj _ => .leaf (by
   refine (roundP2 v (hotS v.g (m : Int)) (m : Int) (j : Int) es).trans ?_
   rw [lt_t hj, show inHt (hotS v.g (m : Int)) (j : Int) = true from inb 2 hj, hx_eq, hy_eq]
   unfold stK gT nT putP
   cases hasB v.g (p1 (nth (hotS v.g (m : Int)) j)) (p2 (nth (hotS v.g (m : Int)) j)) with
   | false => rfl
   | true =>
     cases gtP (p1 (nth (hotS v.g (m : Int)) j)) (p2 (nth (hotS v.g (m : Int)) j)) es with
     | true => rfl
     | false => rfl))
  (fun _ _ _ _ _ _ => trivial)
  (fun es _ => .leaf (by
   refine (roundP2 v (hotS v.g (m : Int)) (m : Int) (((hotS v.g (m : Int)).length : Nat) : Int) es).trans ?_
   rw [ge_f]; rfl))
  trivial hx
theorem toldP4 (h0 : Lib0 w0) {v : Ev} (V : Vg v.g Wn Hn) {es : Es} {e : Int} (h : ∀ i, i < v.g.l.length → gtP (cX (hotE v.g (i : Int))) (cY (hotE v.g (i : Int))) es = false → i1 (nth v.g.l i) ≤ e) : LdT ((cfg w0).at cs11) (ldP4 v es e (v.g.l.length : Nat)) lq4 (stP4 v es e false 0) := by
 have hb := V.few
 have hw : decide (v.g.w = 0) = false := decide_eq_false (by have := V.w; have := V.w1; omega)
 have hx : lsRun 4 (fun (_ : Tup intK) (a : Unit) => (X.normal, a)) v.g.l 0 () = (.exit 4, (((0 + v.g.l.length : Nat) : Int), ())) := by
  rw [lsRun_fold (h := fun _ b => b) 4 v.g.l 0 () (fun _ _ _ => rfl)]
 rw [Nat.zero_add] at hx
 exact ldT_ls (at_ok (cfg_ok w0) cs11) (at_sp h0 (cs11_gd h0)) (N := N11) (rel := relP4) (B := lpB 4 (fnOf Tryz.f11).body) (id := 4) v.g.l (by omega) (fun p : Int × Unit => stP4 v es e false p.1) (fun _ a => (X.normal, a)) (fun _ _ => True)
  (fun j _ hj _ => .leaf (by
   refine (roundP4 v e (j : Int) es).trans ?_
   rw [lt_t hj, inO_nat hj, hw]
   have h := h j hj
   have hh : gtP ((j : Int).tmod v.g.w) (IntKind.i64.wrap ((j : Int).tdiv v.g.w)) es = gtP (cX (hotE v.g (j : Int))) (cY (hotE v.g (j : Int))) es := rfl
   unfold gT nT aT
   rw [hh]
   cases hq : gtP (cX (hotE v.g (j : Int))) (cY (hotE v.g (j : Int))) es with
   | true => rfl
   | false =>
     have h := h hq
     rw [show decide (enP4 v.g (j : Int) > e) = false from decide_eq_false (by
      show ¬ (i1 (nth v.g.l j) > e)
      omega)]
     rfl))
  (fun _ _ _ _ _ _ => trivial)
  (fun _ _ => .leaf (by
   refine (roundP4 v e ((v.g.l.length : Nat) : Int) es).trans ?_
   rw [ge_f]; rfl))
  trivial hx
end
end Go.Proofs.YthcpfignhalffaaGreatDoor
