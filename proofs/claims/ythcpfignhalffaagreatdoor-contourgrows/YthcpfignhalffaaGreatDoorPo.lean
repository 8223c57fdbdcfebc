/-
 A part of the proof of the statement that the claim names: see the last file.
-/
import Derived.Test.YthcpfignhalffaaGreatDoorPn
import Derived.Test.YthcpfignhalffaaGreatDoorAm4
import Derived.Test.YthcpfignhalffaaGreatDoorPi
import Derived.Test.YthcpfignhalffaaGreatDoorPj
import Derived.Test.YthcpfignhalffaaGreatDoorPk
import Derived.Test.YthcpfignhalffaaGreatDoorPl
import Derived.Test.YthcpfignhalffaaGreatDoorPm
namespace Go.Proofs.YthcpfignhalffaaGreatDoor
open Go Go.Am
set_option maxRecDepth 100000
noncomputable section
theorem thr_le {a b : Int} (h0 : 0 ≤ a) (h : a ≤ b) (hb : b ≤ 120) : thr a ≤ thr b := by
 obtain ⟨i, rfl⟩ := Int.eq_ofNat_of_zero_le h0
 obtain ⟨j, rfl⟩ := Int.eq_ofNat_of_zero_le (show 0 ≤ b by omega)
 unfold thr
 simp only [Int.toNat_natCast]
 rcases Nat.eq_or_lt_of_le (show i ≤ j by omega) with e | e
 ·rw [e]; exact Int.le_refl _
 ·have := thr_mono (j - i) i (by omega) (by omega)
  rw [show i + (j - i) = j by omega] at this
  omega
theorem lev_mono {e f : Int} (h : e ≤ f) : levB e ≤ levB f := by
 obtain ⟨a1, a2, a3, a4⟩ := levB_lv e
 obtain ⟨b1, b2, b3, b4⟩ := levB_lv f
 rcases Int.lt_or_le (levB f) (levB e) with hl | hl
 ·have h1 := b4 (by omega)
  have h2 := a3 (by omega)
  have h3 := thr_le (a := levB f + 1) (b := levB e) (by omega) (by omega) a2
  omega
 ·exact hl
theorem lev_zero : levB 0 = -1 := by
 obtain ⟨a1, a2, a3, a4⟩ := levB_lv 0
 rcases Int.lt_or_le (levB 0) 0 with hl | hl
 ·omega
 ·have h1 := a3 hl
  have h2 := thr_le (a := 0) (b := levB 0) (by omega) hl a2
  have h3 : thr 0 = 10 := rfl
  omega
structure OkGs (gs : List Gr) : Prop where
 chk : chkGs gs = 0
 few : len4 gs = true
 low : ∀ g ∈ gs, ∀ x ∈ g.l, i1 x ≤ 1000000000000
variable {gs : List Gr}
theorem len4_le {gs : List Gr} (h : len4 gs = true) : gs.length ≤ 4 := by
 match gs, h with
 | [], _ | [_], _ | [_, _], _ | [_, _, _], _ | [_, _, _, _], _ => simp
theorem OkGs.ne (H : OkGs gs) : gs ≠ [] := (chkGs_zero H.chk).1
theorem OkGs.all (H : OkGs gs) : ∀ g ∈ gs, chkG g = 0 ∧ g.w = (hdG gs).w ∧ g.h = (hdG gs).h := (chkGs_zero H.chk).2.2
theorem OkGs.hd (H : OkGs gs) : hdG gs ∈ gs := by
 have := H.ne
 cases gs with
 | nil => exact absurd rfl this
 | cons g r => exact List.mem_cons_self
theorem OkGs.hdl (H : OkGs gs) : hdL gs = (hdG gs).l.length := by
 have := H.ne
 cases gs with
 | nil => exact absurd rfl this
 | cons g r => rfl
theorem OkGs.g128 (H : OkGs gs) : g128 gs = true := chk_g128 (by unfold len17; rw [H.few]; rfl) H.chk
theorem OkGs.len (H : OkGs gs) {g : Gr} (hg : g ∈ gs) : g.l.length = hdL gs := by
 obtain ⟨c1, c2, c3⟩ := H.all g hg
 rw [H.hdl]
 exact same_len c1 (H.all _ H.hd).1 c2 c3
theorem OkGs.small (H : OkGs gs) : hdL gs ≤ 256 := by rw [H.hdl]; exact chk_sm (H.all _ H.hd).1
theorem OkGs.v (H : OkGs gs) {g : Gr} (hg : g ∈ gs) (i : Nat) : 0 ≤ vAt g i ∧ vAt g i ≤ 1000000000000 := by
 have h1 := vAt_ok (H.all g hg).1 i
 refine ⟨h1.1, ?_⟩
 unfold vAt
 rcases Nat.lt_or_ge i g.l.length with hi | hi
 ·rw [nthI hi]
  exact H.low g hg _ (List.getElem_mem hi)
 ·rw [show nth g.l i = t1 0 by simp [nth, hi]; rfl]
  decide
theorem sumT_le {i : Nat} : ∀ {gs : List Gr}, (∀ g ∈ gs, 0 ≤ vAt g i ∧ vAt g i ≤ 1000000000000) → 0 ≤ sumT gs i ∧ sumT gs i ≤ gs.length * 1000000000000
 | [], _ => ⟨by simp [sumT], by simp [sumT]⟩
 | g :: gs, h => by
   have h1 := h g (by simp)
   have h2 := sumT_le (i := i) (gs := gs) fun x hx => h x (by simp [hx])
   rw [sumT_cons, List.length_cons]
   constructor
   ·omega
   ·rw [Int.natCast_add, Int.add_mul]; omega
theorem OkGs.sum (H : OkGs gs) (i : Nat) : sumI gs i = sumT gs i ∧ 0 ≤ sumT gs i ∧ sumT gs i ≤ 4000000000000 := by
 have h4 := len4_le H.few
 have := sumT_le (i := i) fun g hg => H.v hg i
 exact ⟨sumI_eq H.chk i, this.1, by omega⟩
theorem OkGs.large (H : OkGs gs) : large gs = false := by
 unfold Proofs.YthcpfignhalffaaGreatDoor.large
 rw [List.any_eq_false]
 intro j _
 have := H.sum j
 simp only [decide_eq_true_eq]
 rw [this.1]
 have : maxE = 10000000000000 := rfl
 omega
theorem OkGs.addX (H : OkGs gs) : addX gs = (addG gs, 0) := by
 unfold Proofs.YthcpfignhalffaaGreatDoor.addX
 rw [H.large, show (chkGs gs != 0) = false by simp [H.chk]]; rfl
theorem firstZ_all : ∀ {l : List Int}, (∀ e ∈ l, e = 0) → firstZ l = 0
 | [], _ => rfl
 | x :: xs, h => by
   have h1 := h x (by simp)
   subst h1
   exact firstZ_all (l := xs) fun e he => h e (by simp [he])
theorem within_in {n lo hi : Int} (h1 : lo ≤ n) (h2 : n ≤ hi) : withinZ n lo hi = 0 := by
 unfold withinZ
 rw [decide_eq_false (by omega), decide_eq_false (by omega)]; rfl
theorem chkG_of {g : Gr} {a : Gr} (ha : chkG a = 0) (hw : g.w = a.w) (hh : g.h = a.h) (hl : g.l.length = a.l.length) (he : ∀ x ∈ g.l, 0 ≤ i1 x ∧ i1 x ≤ maxE) : chkG g = 0 := by
 obtain ⟨c1, c2, c3, c4, c5, _⟩ := chk_len ha
 rw [chk_alt]
 have e0 : e0G g = 0 := firstZ_all fun e he => by
  simp only [List.mem_cons, List.not_mem_nil, or_false] at he
  rcases he with rfl | rfl
  ·exact within_in (by omega) (by omega)
  ·exact within_in (by omega) (by omega)
 rw [e0, show (((g.l.length : Nat) : Int) != W (g.w * g.h)) = false by rw [hw, hh, hl, c1]; simp]
 exact firstZ_all fun e hx => by
  obtain ⟨x, hm, rfl⟩ := List.mem_map.1 hx
  exact within_in (he x hm).1 (he x hm).2
theorem OkGs.chkA (H : OkGs gs) : chkG (addG gs) = 0 := by
 refine chkG_of (H.all _ H.hd).1 rfl rfl ?_ fun x hx => ?_
 ·show (sumL gs).length = _
  rw [sumL_len, H.hdl]
 ·have hx : x ∈ sumL gs := hx
  unfold sumL at hx
  obtain ⟨j, _, rfl⟩ := List.mem_map.1 hx
  have := H.sum j
  show 0 ≤ sumI gs j ∧ sumI gs j ≤ maxE
  rw [this.1]
  have : maxE = 10000000000000 := rfl
  omega
theorem OkGs.nthA (_ : OkGs gs) {j : Nat} (hj : j < hdL gs) : i1 (nth (addG gs).l j) = sumI gs j := by
 show i1 (nth (sumL gs) j) = _
 rw [nth_sumL hj]; rfl
theorem sumT_app (i : Nat) (a b : List Gr) : sumT (a ++ b) i = sumT a i + sumT b i := by
 induction a with
 | nil => simp [sumT]
 | cons g a ih => rw [List.cons_append, sumT_cons, sumT_cons, ih]; omega
theorem sumT_rev (i : Nat) : ∀ gs : List Gr, sumT gs.reverse i = sumT gs i
 | [] => rfl
 | g :: gs => by
   rw [List.reverse_cons, sumT_app, sumT_rev i gs, sumT_cons, sumT_cons]
   simp [sumT]; omega
theorem chkGs_of {a : Gr} {gs : List Gr} (hne : gs ≠ []) (h16 : gs.length ≤ 16) (h : ∀ g ∈ gs, chkG g = 0 ∧ g.w = a.w ∧ g.h = a.h) : chkGs gs = 0 := by
 cases gs with
 | nil => exact absurd rfl hne
 | cons g r =>
   show (bif Nat.blt 16 (g :: r).length then (5 : Int) else firstZ ((g :: r).map (errG g))) = 0
   rw [show Nat.blt 16 (g :: r).length = false by
    cases hb : Nat.blt 16 (g :: r).length with
    | false => rfl
    | true => rw [Nat.blt_eq] at hb; omega]
   refine firstZ_all fun e he => ?_
   obtain ⟨x, hx, rfl⟩ := List.mem_map.1 he
   obtain ⟨c1, c2, c3⟩ := h x hx
   obtain ⟨d1, d2, d3⟩ := h g (by simp)
   refine firstZ_all fun e he => ?_
   simp only [List.mem_cons, List.not_mem_nil, or_false] at he
   rcases he with rfl | rfl
   ·exact c1
   ·unfold sizeB
    rw [c2, c3, d2, d3]; simp [whenZ]
theorem OkGs.rev (H : OkGs gs) : OkGs gs.reverse where
 chk := chkGs_of (a := hdG gs) (by simpa using H.ne) (by have := len4_le H.few; simp; omega) fun g hg => H.all g (by simpa using hg)
 few := by
  have h := H.few
  match gs, h with
  | [], _ | [_], _ | [_, _], _ | [_, _, _], _ | [_, _, _, _], _ => rfl
 low := fun g hg => H.low g (by simpa using hg)
theorem OkGs.add_rev (H : OkGs gs) : addG gs.reverse = addG gs := by
 have h1 := H.all _ (show hdG gs.reverse ∈ gs by simpa using H.rev.hd)
 have h2 : hdL gs.reverse = hdL gs := by
  rw [H.rev.hdl]
  exact H.len (by simpa using H.rev.hd)
 unfold addG sumL
 rw [h1.2.1, h1.2.2, h2]
 congr 1
 refine List.map_congr_left fun j _ => ?_
 rw [(H.rev.sum j).1, (H.sum j).1, sumT_rev]
def acN (p : Nat → Bool) (f : Nat → Int) : Nat → Int
 | 0 => 0
 | n + 1 => acN p f n + (bif p n then f n else 0)
theorem acN_le {p : Nat → Bool} {f : Nat → Int} : ∀ {n : Nat}, (∀ j, j < n → 0 ≤ f j ∧ f j ≤ 1000000) → 0 ≤ acN p f n ∧ acN p f n ≤ n * 1000000
 | 0, _ => ⟨by simp [acN], by simp [acN]⟩
 | n + 1, h => by
   have h1 := acN_le (p := p) (n := n) fun j hj => h j (by omega)
   have h2 := h n (by omega)
   unfold acN
   cases p n <;> simp only [cond_true, cond_false] <;> omega
theorem acN_mono {p q : Nat → Bool} {f : Nat → Int} : ∀ {n : Nat}, (∀ j, j < n → 0 ≤ f j) → (∀ j, j < n → p j = true → q j = true) → acN p f n ≤ acN q f n
 | 0, _, _ => Int.le_refl _
 | n + 1, h, k => by
   have h1 := acN_mono (p := p) (q := q) (n := n) (fun j hj => h j (by omega)) fun j hj => k j (by omega)
   have h2 := h n (by omega)
   have h3 := k n (by omega)
   unfold acN
   cases hp : p n with
   | true => rw [h3 hp]; simp only [cond_true]; omega
   | false => cases q n <;> simp only [cond_true, cond_false] <;> omega
theorem acN_add {p a b c : Nat → Bool} {f : Nat → Int} : ∀ {n : Nat}, (∀ j, j < n → ((bif p j then f j else 0) : Int) = (bif a j then f j else 0) + (bif b j then f j else 0) + (bif c j then f j else 0)) → acN p f n = acN a f n + acN b f n + acN c f n
 | 0, _ => rfl
 | n + 1, h => by
   have h1 := acN_add (n := n) fun j hj => h j (by omega)
   have h2 := h n (by omega)
   unfold acN
   omega
theorem accX_val {p : Nat → Bool} {l : List (Tup ptK)} (hl : l.length ≤ 1000) (h : ∀ j, j < l.length → (0 ≤ p1 (nth l j) ∧ p1 (nth l j) ≤ 1000000) ∧ 0 ≤ p2 (nth l j) ∧ p2 (nth l j) ≤ 1000000) :
  accX p l = (acN p (fun j => p1 (nth l j)) l.length, acN p (fun j => p2 (nth l j)) l.length) := by
 have key : ∀ n, n ≤ l.length → (List.range' 0 n).foldl (fun s j => accS p l j s) (0, 0) = (acN p (fun j => p1 (nth l j)) n, acN p (fun j => p2 (nth l j)) n) := fun n => by
  induction n with
  | zero => intro _; rfl
  | succ n ih =>
    intro hn
    rw [show List.range' 0 (n + 1) = List.range' 0 n ++ [n] by rw [List.range'_concat]; simp, List.foldl_append, ih (by omega)]
    show accS p l n _ = _
    have a1 := acN_le (p := p) (f := fun j => p1 (nth l j)) (n := n) fun j hj => (h j (by omega)).1
    have a2 := acN_le (p := p) (f := fun j => p2 (nth l j)) (n := n) fun j hj => (h j (by omega)).2
    have hq := h n (by omega)
    have e1 : acN p (fun j => p1 (nth l j)) (n + 1) = acN p (fun j => p1 (nth l j)) n + (bif p n then p1 (nth l n) else 0) := rfl
    have e2 : acN p (fun j => p2 (nth l j)) (n + 1) = acN p (fun j => p2 (nth l j)) n + (bif p n then p2 (nth l n) else 0) := rfl
    rw [e1, e2]
    unfold accS addS
    cases p n with
    | false => simp
    | true =>
      simp only [cond_true]
      rw [W_big (by have : big = 1000000000000000 := rfl; omega), W_big (by have : big = 1000000000000000 := rfl; omega)]
 exact key _ (Nat.le_refl _)
theorem ivZ_zero {p : Tup ptK} (h : ivZ p = 0) : (0 ≤ p1 p ∧ p1 p ≤ 1000000) ∧ 0 ≤ p2 p ∧ p2 p ≤ 1000000 := by
 have h := firstZ_nil h
 exact ⟨within_zero (h (withinZ (p1 p) 0 1000000) (by simp)), within_zero (h (withinZ (p2 p) 0 1000000) (by simp))⟩
theorem pe_ok {g : Gr} {pe : List (Tup ptK)} (h : chkPe g pe = 0) : ∀ j, j < pe.length → (0 ≤ p1 (nth pe j) ∧ p1 (nth pe j) ≤ 1000000) ∧ 0 ≤ p2 (nth pe j) ∧ p2 (nth pe j) ≤ 1000000 := fun j hj => by
 have := (chkPe_zero h).2 (nth pe j) (by rw [show nth pe j = pe[j] by simp [nth, hj]]; exact List.getElem_mem hj)
 exact ivZ_zero this
theorem loudP_ok {i : Nat} : ∀ (gs pre : List Gr) (b m : Int), pre.length + gs.length ≤ 1000 → (∀ g ∈ gs, 0 ≤ vAt g i) →
  ((b = -1 ∧ m = 0 ∧ ∀ g ∈ pre, vAt g i ≤ 0) ∨ ∃ (k : Nat) (g : Gr), b = (k : Int) ∧ pre[k]? = some g ∧ m = vAt g i ∧ 0 < m ∧ ∀ x ∈ pre, vAt x i ≤ m) →
  (loudP i (pre.length : Int) b m gs = -1 ∧ ∀ g ∈ pre ++ gs, vAt g i ≤ 0) ∨ ∃ (k : Nat) (g : Gr), loudP i (pre.length : Int) b m gs = (k : Int) ∧ (pre ++ gs)[k]? = some g ∧ 0 < vAt g i ∧ ∀ x ∈ pre ++ gs, vAt x i ≤ vAt g i
 | [], pre, b, m, _, _, h => by
   unfold loudP
   rcases h with ⟨rfl, _, h⟩ | ⟨k, g, rfl, h1, rfl, h2, h3⟩
   ·exact .inl ⟨rfl, by simpa using h⟩
   ·exact .inr ⟨k, g, rfl, by simpa using h1, h2, by simpa using h3⟩
 | g :: gs, pre, b, m, hl, hv, h => by
   have hl : pre.length + (gs.length + 1) ≤ 1000 := hl
   have hW : W ((pre.length : Int) + 1) = (((pre ++ [g]).length : Nat) : Int) := by
    rw [W_in (by omega)]; simp
   unfold loudP
   rw [hW, show pre ++ g :: gs = (pre ++ [g]) ++ gs by simp]
   by_cases hm : i1 (nth g.l i) > m
   ·rw [decide_eq_true hm]
    simp only [cond_true]
    refine loudP_ok gs (pre ++ [g]) _ _ (by simp; omega) (fun x hx => hv x (by simp [hx])) (.inr ⟨pre.length, g, rfl, by simp, rfl, ?_, ?_⟩)
    ·rcases h with ⟨_, rfl, _⟩ | ⟨_, _, _, _, _, h2, _⟩ <;> omega
    ·intro x hx
     rcases List.mem_append.1 hx with hx | hx
     ·rcases h with ⟨_, rfl, h⟩ | ⟨_, _, _, _, _, _, h3⟩
      ·have := h x hx; show vAt x i ≤ i1 (nth g.l i); omega
      ·have := h3 x hx; show vAt x i ≤ i1 (nth g.l i); omega
     ·simp only [List.mem_singleton] at hx
      rw [hx]; exact Int.le_refl _
   ·rw [decide_eq_false hm]
    simp only [cond_false]
    have hm : vAt g i ≤ m := by unfold vAt; omega
    refine loudP_ok gs (pre ++ [g]) _ _ (by simp; omega) (fun x hx => hv x (by simp [hx])) ?_
    rcases h with ⟨rfl, rfl, h⟩ | ⟨k, y, rfl, h1, rfl, h2, h3⟩
    ·exact .inl ⟨rfl, rfl, fun x hx => by
      rcases List.mem_append.1 hx with hx | hx
      ·exact h x hx
      ·simp only [List.mem_singleton] at hx
       rw [hx]; exact hm⟩
    ·refine .inr ⟨k, y, rfl, ?_, rfl, h2, fun x hx => ?_⟩
     ·rw [List.getElem?_append_left (List.getElem?_eq_some_iff.1 h1).1]; exact h1
     ·rcases List.mem_append.1 hx with hx | hx
      ·exact h3 x hx
      ·simp only [List.mem_singleton] at hx
       rw [hx]; exact hm
abbrev Lv6 := List ((Int × Int) × Bool)
def put1 (es : Lv6) (p : Tup ptK) : Lv6 := putM (kk := .pt) (vk := .bool) (p.1, p.2.1) true es
def eqP (k : Int × Int) (p : Tup ptK) : Bool := p1 p == k.1 && p2 p == k.2
def gt6 (k : Int × Int) (es : Lv6) : Bool := getT (kk := .pt) (vk := .bool) k es
theorem gt_put (k : Int × Int) (p : Tup ptK) (es : Lv6) : gt6 k (put1 es p) = (eqP k p || gt6 k es) := by
 have h := getT_put (kk := .pt) (vk := .bool) rfl k (p.1, p.2.1) true es
 have : keyEq .pt k (p.1, p.2.1) = eqP k p := by
  show ((k.1 == p1 p) && ((k.2 == p2 p) && true)) = _
  unfold eqP
  rw [Bool.and_true]
  congr 1 <;> exact Bool.eq_iff_iff.2 (by simp only [beq_iff_eq]; exact eq_comm)
 rw [this] at h
 show getT (kk := .pt) (vk := .bool) k (putM (kk := .pt) (vk := .bool) (p.1, p.2.1) true es) = _
 refine h.trans ?_
 cases eqP k p <;> rfl
theorem get_puts (k : Int × Int) : ∀ (l : List (Tup ptK)) (es : Lv6), gt6 k (l.foldl put1 es) = (l.any (eqP k) || gt6 k es)
 | [], es => rfl
 | p :: l, es => by
   show gt6 k (l.foldl put1 (put1 es p)) = _
   rw [get_puts k l, gt_put, List.any_cons]
   cases eqP k p <;> cases l.any (eqP k) <;> rfl
end
end Go.Proofs.YthcpfignhalffaaGreatDoor
namespace Go.Proofs.YthcpfignhalffaaGreatDoor
open Go Go.Am
set_option maxRecDepth 100000
variable {w0 : World} {gs : List Gr}
theorem bd6_all (h4 : len4 gs = true) (hne : gs ≠ []) (pp : List (Tup ptK)) (v : Int) (vs : List (Tup intK)) (a b c : Int) (q : Int × Int) (es : Lv) : bd6 w0 gs pp v vs a b c q es = law6T gs pp v vs a b c q es := by
 rcases four h4 hne with ⟨g1, rfl⟩ | ⟨g1, g2, rfl⟩ | ⟨g1, g2, g3, rfl⟩ | ⟨g1, g2, g3, g4, rfl⟩
 ·exact bd6_1 ..
 ·exact bd6_2 ..
 ·exact bd6_3 ..
 ·exact bd6_4 ..
noncomputable abbrev C6 (w0 : World) : Cfg := ((cfg w0).at cs6).di
noncomputable abbrev C6a (w0 : World) : Cfg := ((cfg w0).at [c14]).di
theorem ok6 (w0 : World) : CfgOk (C6 w0) := Cfg.di_ok (at_ok (cfg_ok w0) cs6)
theorem sp6 (h0 : Lib0 w0) : SpecOK (C6 w0) := Cfg.di_sp (at_sp h0 (cs6_gd h0))
theorem ok6a (w0 : World) : CfgOk (C6a w0) := Cfg.di_ok (at_ok (cfg_ok w0) [c14])
theorem sp6a (h0 : Lib0 w0) : SpecOK (C6a w0) := Cfg.di_sp (at_sp h0 (cs := [c14]) ⟨gd14 h0, trivial⟩)
theorem gI_t {b : Bool} {k : Rw6} (h : b = true) : gI b k = k := by rw [h]; rfl
theorem nI_f {b : Bool} {n k : Rw6} (h : b = false) : nI b n k = k := by rw [h]; rfl
theorem zQ_f {d : Int} {k : Rw6} (h : d ≠ 0) : zQ d k = k := by unfold zQ; rw [decide_eq_false h]; rfl
theorem in1_nat {l : List (Tup intK)} {j : Nat} (h : j < l.length) : in1 l (j : Int) = true := inb 1 h
theorem nI1_nat (l : List (Tup intK)) (j : Nat) : nI1 l (j : Int) = i1 (nth l j) := by unfold nI1; rw [Int.toNat_natCast, Nat.add_zero]
theorem range_nth {ks : List Kd} (l : List (Tup ks)) : (List.range' 0 l.length).map (fun j => nth l j) = l := by
 apply List.ext_getElem?
 intro j
 rw [List.getElem?_map]
 rcases Nat.lt_or_ge j l.length with h | h
 ·rw [List.getElem?_range' h, List.getElem?_eq_getElem h]
  simp [nth, h]
 ·rw [List.getElem?_eq_none (by simpa using h), List.getElem?_eq_none h]; rfl
noncomputable def stpB (l : List (Tup intK)) (j : Nat) (z : Bool) : X × Bool := bif bgI l (j : Int) then (X.ret, true) else (X.normal, z)
theorem run2_eq (l : List (Tup intK)) (z : Bool) : ∀ f i : Nat, (rgRun 2 (stp2 l) f i ()).2.1 = (rgRun 2 (stpB l) f i z).2.1
 | 0, i => rfl
 | f + 1, i => by
   unfold rgRun stp2 stpB
   cases bgI l (i : Int) with
   | true => rfl
   | false => exact run2_eq l z f (i + 1)
theorem ld2_ok (h0 : Lib0 w0) (h4 : len4 gs = true) (hne : gs ≠ []) (pp : List (Tup ptK)) (v : Int) (vs : List (Tup intK)) (a b c : Int) (l : List (Tup intK)) (k : Int) (hl : l.length ≤ 100000) :
  LdT (C6 w0) ld2 (.loop (lpB 2 (fnOf Tryz.f6).body)) (sg2 gs pp v vs a b c l k 0 false) := by
 have key : ∀ x p, rgRun 2 (stpB l) l.length 0 false = (x, p) → LdT (C6a w0) (ldP 2 (fnOf Tryz.f6).ntmps rg2 (outX 2 x) (sg2 gs pp v vs a b c l k p.1 p.2)) (.loop (lpB 2 (fnOf Tryz.f6).body)) (sg2 gs pp v vs a b c l k 0 false) := fun x p hx =>
  ldT_rg (ok6a w0) (sp6a h0) (k := l.length) (by omega) (fun p => sg2 gs pp v vs a b c l k p.1 p.2) (stpB l) (fun _ z => z = false)
   (fun j z hj hz => .leaf (n := 60) (m := 60) (L := []) (by
    have hz : z = false := hz
    subst hz
    refine (rnd2 h4 hne pp v vs a b c l k j).trans ?_
    unfold r2T stpB
    rw [lt_t hj, cond_true, gI_t (in1_nat hj)]
    cases bgI l (j : Int) <;> rfl))
   (fun j z z' hj hz hs => by
    unfold stpB at hs
    cases hb : bgI l (j : Int) with
    | true => rw [hb] at hs; cases hs
    | false => rw [hb] at hs; cases hs; exact hz)
   (fun z hz => .leaf (n := 60) (m := 60) (L := []) (by
    have hz : z = false := hz
    subst hz
    refine (rnd2 h4 hne pp v vs a b c l k _).trans ?_
    unfold r2T
    rw [ge_f]; rfl)) (a0 := false) rfl hx
 have hF : ld2.F (sg2 gs pp v vs a b c l k 0 false) = .br (Nat.ble l.length 100000) (.br (anyB l) (.leaf (.ret, sg2 gs pp v vs a b c l k (run2 l).2.1 true)) (.leaf (.normal, sg2 gs pp v vs a b c l k (run2 l).2.1 false))) .bad := rfl
 obtain ⟨q, hq⟩ := rgRun_any (id := 2) (p := fun j => bgI l (j : Int)) (c := true) l.length 0 false
 have hq : rgRun 2 (stpB l) l.length 0 false = _ := hq
 have hrun : (run2 l).2.1 = (rgRun 2 (stpB l) l.length 0 false).2.1 := run2_eq l false l.length 0
 intro x ds' hx
 rw [hF, (Nat.ble_eq ..).mpr hl, hrun, hq] at hx
 unfold anyB at hx
 cases ha : (List.range' 0 l.length).any (fun j => bgI l (j : Int)) with
 | true =>
   rw [ha] at hx hq
   cases hx
   exact key _ _ hq _ _ rfl
 | false =>
   rw [ha] at hx hq
   cases hx
   exact key _ _ hq _ _ rfl
theorem put8_nat (gn : List (Tup ptK)) (j : Nat) (es : Lv) : put8 gn (j : Int) es = put1 es (nth gn j) := by unfold put8 put1; rw [Int.toNat_natCast, Nat.add_zero]
theorem ld8_ok (h0 : Lib0 w0) (h4 : len4 gs = true) (hne : gs ≠ []) (A : Gr) (th bk lo : List (Tup intK)) (gn : List (Tup ptK)) (hl : gn.length ≤ 100000) :
  LdT (C6 w0) (ld8 gs A th bk lo gn (gn.foldl put1 [])) (.loop (lpB 8 (fnOf Tryz.f6).body)) (sg8 gs A th bk lo gn false (0, [])) := by
 have hrun : rgRun 8 (fun j (es : Lv) => (X.normal, put8 gn (j : Int) es)) gn.length 0 [] = (.exit 8, ((gn.length : Int), gn.foldl put1 [])) := by
  rw [rgRun_fold 8 (h := fun j (es : Lv) => put8 gn (j : Int) es) _ _ _ (fun _ _ _ _ => rfl), Nat.zero_add]
  congr 2
  rw [show (fun (es : Lv) (j : Nat) => put8 gn (j : Int) es) = fun (es : Lv) (j : Nat) => put1 es (nth gn j) by funext es j; exact put8_nat gn j es, ← List.foldl_map (f := fun j => nth gn j) (g := put1), range_nth]
 have key := ldT_rg (ok6a w0) (sp6a h0) (N := (fnOf Tryz.f6).ntmps) (rel := rg8) (B := lpB 8 (fnOf Tryz.f6).body) (id := 8) (k := gn.length) (by omega) (fun p => sg8 gs A th bk lo gn false p) (fun j (es : Lv) => (X.normal, put8 gn (j : Int) es)) (fun _ _ => True)
  (fun j es hj _ => .leaf (n := 60) (m := 60) (L := []) (by
   refine (rnd8 h4 hne A th bk lo gn j es).trans ?_
   unfold r8T
   rw [lt_t hj, show decide ((0 : Int) ≤ (j : Int)) = true by simp]; rfl)) (fun _ _ _ _ _ _ => trivial)
  (fun es _ => .leaf (n := 60) (m := 60) (L := []) (by
   refine (rnd8 h4 hne A th bk lo gn _ es).trans ?_
   unfold r8T
   rw [ge_f]; rfl)) (a0 := []) trivial hrun
 exact key
def q6 (cl : List (Tup ptK)) : Int × Int := (List.range' 0 cl.length).foldl (fun s (j : Nat) => sum6 cl (j : Int) s) (0, 0)
theorem ld6_ok (h0 : Lib0 w0) (h4 : len4 gs = true) (hne : gs ≠ []) (A : Gr) (th bk lo : List (Tup intK)) (gn cl : List (Tup ptK)) (al : Int × Int) (hl : cl.length ≤ 100000) :
  LdT (C6 w0) (ld6 gs A th bk lo gn cl al (q6 cl)) (.loop (lpB 6 (fnOf Tryz.f6).body)) (sg6 gs A th bk lo gn cl al (0, (0, 0))) := by
 have hrun : rgRun 6 (fun j (s : Int × Int) => (X.normal, sum6 cl (j : Int) s)) cl.length 0 (0, 0) = (.exit 6, ((cl.length : Int), q6 cl)) := by
  rw [rgRun_fold 6 (h := fun j (s : Int × Int) => sum6 cl (j : Int) s) _ _ _ (fun _ _ _ _ => rfl), Nat.zero_add]; rfl
 have key := ldT_rg (ok6 w0) (sp6 h0) (N := (fnOf Tryz.f6).ntmps) (rel := rg6) (B := lpB 6 (fnOf Tryz.f6).body) (id := 6) (k := cl.length) (by omega) (fun p => sg6 gs A th bk lo gn cl al p) (fun j (s : Int × Int) => (X.normal, sum6 cl (j : Int) s)) (fun _ _ => True)
  (fun j s hj _ => .leaf (n := 60) (m := 60) (L := []) (by
   refine (rnd6 h4 hne A th bk lo gn cl al ((j : Int), s)).trans ?_
   unfold t6
   rw [lt_t hj, show decide ((0 : Int) ≤ (j : Int)) = true by simp]; rfl)) (fun _ _ _ _ _ _ => trivial)
  (fun s _ => .leaf (n := 60) (m := 60) (L := []) (by
   refine (rnd6 h4 hne A th bk lo gn cl al ((cl.length : Int), s)).trans ?_
   unfold t6
   rw [ge_f]; rfl)) (a0 := (0, 0)) trivial hrun
 exact key
end Go.Proofs.YthcpfignhalffaaGreatDoor
namespace Go.Proofs.YthcpfignhalffaaGreatDoor
open Go Go.Am
set_option maxRecDepth 100000
variable {w0 : World} {gs : List Gr}
theorem OkGs.cell (H : OkGs gs) {i : Nat} (hi : i < hdL gs) : hasB (hdG gs) (cX6 gs i) (cY6 gs i) = true ∧ ixG (hdG gs) (cX6 gs i) (cY6 gs i) = (i : Int) := by
 obtain ⟨c1, c2, c3, c4, c5, _⟩ := chk_len (H.all _ H.hd).1
 have hm := mul_bound (a := (hdG gs).w) (b := (hdG gs).h) (by omega) c3 (by omega) c5
 rw [W_in (by omega), ← H.hdl] at c1
 have hw : 0 < (hdG gs).w := by omega
 have hb : (i : Int) < (hdG gs).h * (hdG gs).w := by rw [Int.mul_comm]; omega
 have e1 : cX6 gs i = (i : Int) % (hdG gs).w := Int.tmod_eq_emod_of_nonneg (by omega)
 have e2 : (i : Int).tdiv (hdG gs).w = (i : Int) / (hdG gs).w := Int.tdiv_eq_ediv_of_nonneg (by omega)
 have b1 := Int.emod_nonneg (i : Int) (b := (hdG gs).w) (by omega)
 have b2 := Int.emod_lt_of_pos (i : Int) hw
 have b3 : 0 ≤ (i : Int) / (hdG gs).w := Int.ediv_nonneg (by omega) (by omega)
 have b4 : (i : Int) / (hdG gs).w < (hdG gs).h := Int.ediv_lt_of_lt_mul hw hb
 have e3 : cY6 gs i = (i : Int) / (hdG gs).w := by
  unfold cY6
  rw [e2]
  exact W_in (by omega)
 have b5 : (hdG gs).w * ((i : Int) / (hdG gs).w) + (i : Int) % (hdG gs).w = i := Int.mul_ediv_add_emod _ _
 have hx : hasB (hdG gs) (cX6 gs i) (cY6 gs i) = true := by
  unfold hasB
  rw [e1, e3, decide_eq_true (by omega), decide_eq_true (by omega), decide_eq_true (by omega), decide_eq_true (by omega)]; rfl
 refine ⟨hx, ?_⟩
 obtain ⟨i1, i2, i3⟩ := ix_ok (H.all _ H.hd).1 hx
 rw [i1, e1, e3, Int.mul_comm]
 exact b5
theorem OkGs.sh (H : OkGs gs) {i : Nat} (hi : i < hdL gs) : sh6 gs i = bif sumI gs i == 0 then ([], 6) else (shL i (sumI gs i) gs, 0) := by
 obtain ⟨h1, h2⟩ := H.cell hi
 have hs := H.sum i
 unfold sh6 shX
 rw [show (chkGs gs != 0) = false by simp [H.chk], h1, h2, Int.toNat_natCast, e45_val, decide_eq_false (show ¬ sumI gs i > maxE by
  have : maxE = 10000000000000 := rfl
  omega)]
 cases (sumI gs i == 0) <;> rfl
theorem ratT_ok {v S : Int} (hv : 0 ≤ v) (hS : 0 < S) : ∃ g a b : Int, 0 < g ∧ 0 ≤ a ∧ 0 < b ∧ v = g * a ∧ S = g * b ∧ ratT v S = (a, b, ()) := by
 obtain ⟨n, rfl⟩ := Int.eq_ofNat_of_zero_le hv
 obtain ⟨m, rfl⟩ := Int.eq_ofNat_of_zero_le (show 0 ≤ S by omega)
 have hg : 0 < Nat.gcd n m := Nat.gcd_pos_of_pos_right _ (by omega)
 obtain ⟨a, ha⟩ := Nat.gcd_dvd_left n m
 obtain ⟨b, hb⟩ := Nat.gcd_dvd_right n m
 have e : gc (n : Int) (m : Int) = ((Nat.gcd n m : Nat) : Int) := rfl
 refine ⟨((Nat.gcd n m : Nat) : Int), (a : Int), (b : Int), by omega, by omega, ?_, ?_, ?_, ?_⟩
 ·rcases Nat.eq_zero_or_pos b with h | h
  ·rw [h, Nat.mul_zero] at hb; omega
  ·omega
 ·rw [← Int.natCast_mul, ← ha]
 ·rw [← Int.natCast_mul, ← hb]
 ·unfold ratT
  rw [e]
  have h1 : (n : Int) = ((Nat.gcd n m : Nat) : Int) * (a : Int) := by rw [← Int.natCast_mul, ← ha]
  have h2 : (m : Int) = ((Nat.gcd n m : Nat) : Int) * (b : Int) := by rw [← Int.natCast_mul, ← hb]
  have hne : ((Nat.gcd n m : Nat) : Int) ≠ 0 := by omega
  generalize ((Nat.gcd n m : Nat) : Int) = g at *
  rw [h1, h2, Int.mul_tdiv_cancel_left _ hne, Int.mul_tdiv_cancel_left _ hne]; rfl
theorem pkG_at {K : Gr → Rw6} {g : Gr} : ∀ (gs : List Gr) (j m : Nat), gs[j]? = some g → pkG ((m + j : Nat) : Int) K gs m = K g
 | [], j, m, h => by simp at h
 | x :: xs, 0, m, h => by
   cases h
   unfold pkG
   rw [decide_eq_true (show (((m + 0 : Nat) : Nat) : Int) = (m : Int) by simp)]; rfl
 | x :: xs, j + 1, m, h => by
   unfold pkG
   rw [decide_eq_false (show ¬ (((m + (j + 1) : Nat) : Nat) : Int) = (m : Int) by omega), show m + (j + 1) = (m + 1) + j by omega]
   exact pkG_at xs j (m + 1) (by simpa using h)
theorem pkG_0 {K : Gr → Rw6} {g : Gr} {gs : List Gr} {j : Nat} (h : gs[j]? = some g) : pkG (j : Int) K gs 0 = K g := by
 have := pkG_at (K := K) gs j 0 h
 rwa [Nat.zero_add] at this
theorem OkGs.loud (H : OkGs gs) {i : Nat} (hi : i < hdL gs) : (nI1 (loudL gs) (i : Int) = -1 ∧ ∀ g ∈ gs, vAt g i ≤ 0) ∨
  ∃ (k : Nat) (g : Gr), nI1 (loudL gs) (i : Int) = (k : Int) ∧ gs[k]? = some g ∧ 0 < vAt g i ∧ ∀ x ∈ gs, vAt x i ≤ vAt g i := by
 have e : nI1 (loudL gs) (i : Int) = loudP i 0 (-1) 0 gs := by
  rw [nI1_nat]
  unfold loudL
  have : ((List.range' 0 (hdL gs)).map fun i => t1 (loudP i 0 (-1) 0 gs))[i]? = some (t1 (loudP i 0 (-1) 0 gs)) := by rw [List.getElem?_map, List.getElem?_range' hi]; simp
  unfold nth
  rw [List.getD_eq_getElem?_getD, this]; rfl
 rw [e]
 have := loudP_ok (i := i) gs [] (-1) 0 (by have := len4_le H.few; simp; omega) (fun g hg => (H.v hg i).1) (.inl ⟨rfl, rfl, fun g hg => by cases hg⟩)
 simpa using this
theorem loudL_len (gs : List Gr) : (loudL gs).length = hdL gs := by unfold loudL; simp
theorem addG_len (gs : List Gr) : (addG gs).l.length = hdL gs := sumL_len gs
theorem OkGs.nA (H : OkGs gs) {i : Nat} (hi : i < hdL gs) : nI1 (addG gs).l (i : Int) = sumI gs i := by rw [nI1_nat]; exact H.nthA hi
theorem vAt_nI (g : Gr) (i : Nat) : nI1 g.l (i : Int) = vAt g i := nI1_nat g.l i
theorem cell12 (H : OkGs gs) {i : Nat} (hi : i < hdL gs) (hS : 0 < sumI gs i) {k : Nat} {g : Gr} (hk : gs[k]? = some g) (n y e : Rw6) :
  r12T gs (addG gs) (shL i (sumI gs i) gs) (loudL gs) (i : Int) (k : Int) n y e = y ∧ prt (addG gs) (shL i (sumI gs i) gs) (i : Int) (k : Int) = vAt g i := by
 have hkl : k < gs.length := (List.getElem?_eq_some_iff.1 hk).1
 have hg : g ∈ gs := List.mem_of_getElem? hk
 have hv := H.v hg i
 have hs := H.sum i
 have hl : (shL i (sumI gs i) gs).length = gs.length := by unfold shL; simp
 have hnth : nth (shL i (sumI gs i) gs) k = ratT (vAt g i) (sumI gs i) := by
  have : (shL i (sumI gs i) gs)[k]? = some (ratT (vAt g i) (sumI gs i)) := by unfold shL; rw [List.getElem?_map, hk]; rfl
  simp [nth, this]
 obtain ⟨gg, a, b, g0, ha, hb, ev, eS, er⟩ := ratT_ok hv.1 hS
 have eN : sN (shL i (sumI gs i) gs) (k : Int) = a := by unfold sN; rw [Int.toNat_natCast, Nat.add_zero, hnth, er]; rfl
 have eD : sD (shL i (sumI gs i) gs) (k : Int) = b := by unfold sD; rw [Int.toNat_natCast, Nat.add_zero, hnth, er]; rfl
 have hA := H.nA hi
 have q1 : (sumI gs i).tdiv b = gg := by
  have h := Int.mul_tdiv_cancel gg (show b ≠ 0 by omega)
  rw [← eS] at h; exact h
 have q2 : (sumI gs i).tmod b = 0 := by
  have h := Int.mul_tmod_left gg b
  rw [← eS] at h; exact h
 have hgg : gg ≤ sumI gs i := by
  have : gg * 1 ≤ gg * b := Int.mul_le_mul_of_nonneg_left (by omega) (by omega)
  omega
 have hp : prt (addG gs) (shL i (sumI gs i) gs) (i : Int) (k : Int) = vAt g i := by
  unfold prt
  rw [eN, eD, hA, q1, show IntKind.i64.wrap gg = gg from W_big (by have : big = 1000000000000000 := rfl; omega), Int.mul_comm, ← ev]
  exact W_big (by have : big = 1000000000000000 := rfl; omega)
 refine ⟨?_, hp⟩
 unfold r12T
 have hiA : in1 (addG gs).l (i : Int) = true := in1_nat (by rw [addG_len]; exact hi)
 have hiL : in1 (loudL gs) (i : Int) = true := in1_nat (by rw [loudL_len]; exact hi)
 have hig : ∀ {x : Gr}, x ∈ gs → in1 x.l (i : Int) = true := fun hx => in1_nat (by rw [H.len hx]; exact hi)
 have hkG : inG gs (k : Int) = true := inb 3 hkl
 rw [hl, lt_t hkl, cond_true, gI_t (by rw [decide_eq_true (show (0 : Int) ≤ (k : Int) by omega)]; rfl), eD, nI_f (decide_eq_false (by omega)), gI_t hiA, zQ_f (by omega), hA, q2, nI_f (by decide), gI_t hiA, zQ_f (by omega), gI_t hkG, pkG_0 hk,
  gI_t (hig hg), hp, vAt_nI, nI_f (by simp), gI_t hkG, pkG_0 hk, gI_t (hig hg), gI_t hiL]
 rcases H.loud hi with ⟨e1, h1⟩ | ⟨kk, x, e1, h1, h2, h3⟩
 ·exfalso
  have hz : sumT gs i = 0 := by
   have : ∀ l : List Gr, (∀ g ∈ l, vAt g i = 0) → sumT l i = 0 := fun l => by
    induction l with
    | nil => intro _; rfl
    | cons y r ih =>
      intro h
      rw [sumT_cons, h y (by simp), ih fun z hz => h z (by simp [hz])]; rfl
   exact this gs fun y hy => by have := H.v hy i; have := h1 y hy; omega
  omega
 ·have hx : x ∈ gs := List.mem_of_getElem? h1
  rw [e1, gI_t (show inG gs (kk : Int) = true from inb 3 (List.getElem?_eq_some_iff.1 h1).1), pkG_0 h1, gI_t (hig hx), vAt_nI, vAt_nI, nI_f (decide_eq_false (by have := h3 g hg; omega)), gI_t hiA, zQ_f (by omega)]
theorem sumT_take {gs : List Gr} (i : Nat) {k : Nat} {g : Gr} (h : gs[k]? = some g) : sumT (gs.take (k + 1)) i = sumT (gs.take k) i + vAt g i := by
 rw [List.take_add_one, h, sumT_app]
 simp [sumT]
theorem ld12_ok (h0 : Lib0 w0) (H : OkGs gs) {i : Nat} (hi : i < hdL gs) (hS : 0 < sumI gs i) (th bk : List (Tup intK)) (es : Lv) :
  LdT (C6 w0) (ld12 gs (addG gs) th bk es (loudL gs) (i : Int) ((gs.length : Int), sumI gs i)) (.loop (lpB 12 (fnOf Tryz.f6).body)) (sg12 gs (addG gs) th bk es (sh6 gs i).1 (loudL gs) (i : Int) false (0, 0)) := by
 have hsh : sh6 gs i = (shL i (sumI gs i) gs, 0) := by
  rw [H.sh hi, show (sumI gs i == 0) = false by simp; omega]; rfl
 have hl : (shL i (sumI gs i) gs).length = gs.length := by unfold shL; simp
 have h4 := len4_le H.few
 unfold ld12
 rw [hsh]
 have hrun : rgRun 12 (fun (k : Nat) (part : Int) => (X.normal, IntKind.i64.wrap (part + prt (addG gs) (shL i (sumI gs i) gs) (i : Int) (k : Int)))) (shL i (sumI gs i) gs).length 0 0 = (.exit 12, ((gs.length : Int), sumI gs i)) := by
  rw [rgRun_fold 12 (h := fun (k : Nat) (part : Int) => IntKind.i64.wrap (part + prt (addG gs) (shL i (sumI gs i) gs) (i : Int) (k : Int))) _ _ _ (fun _ _ _ _ => rfl), hl, Nat.zero_add]
  congr 2
  have key : ∀ n, n ≤ gs.length → (List.range' 0 n).foldl (fun (part : Int) (k : Nat) => IntKind.i64.wrap (part + prt (addG gs) (shL i (sumI gs i) gs) (i : Int) (k : Int))) 0 = sumT (gs.take n) i := fun n => by
   induction n with
   | zero => intro _; rfl
   | succ n ih =>
     intro hn
     obtain ⟨g, hg⟩ : ∃ g, gs[n]? = some g := ⟨gs[n], List.getElem?_eq_getElem (by omega)⟩
     rw [show List.range' 0 (n + 1) = List.range' 0 n ++ [n] by rw [List.range'_concat]; simp, List.foldl_append, ih (by omega), sumT_take i hg]
     show IntKind.i64.wrap (_ + prt (addG gs) (shL i (sumI gs i) gs) (i : Int) (n : Int)) = _
     rw [(cell12 H hi hS hg none none none).2]
     have h1 := sumT_le (i := i) (gs := gs.take n) fun x hx => H.v (List.mem_of_mem_take hx) i
     have h2 := H.v (List.mem_of_getElem? hg) i
     rw [List.length_take] at h1
     exact W_big (by have : big = 1000000000000000 := rfl; omega)
  rw [key _ (Nat.le_refl _), List.take_length, (H.sum i).1]
 have key := ldT_rg (ok6a w0) (sp6a h0) (N := (fnOf Tryz.f6).ntmps) (rel := rg12) (B := lpB 12 (fnOf Tryz.f6).body) (id := 12) (k := (shL i (sumI gs i) gs).length) (by omega) (fun p => sg12 gs (addG gs) th bk es (shL i (sumI gs i) gs) (loudL gs) (i : Int) false p)
  (fun (k : Nat) (part : Int) => (X.normal, IntKind.i64.wrap (part + prt (addG gs) (shL i (sumI gs i) gs) (i : Int) (k : Int)))) (fun _ _ => True)
  (fun k part hk _ => .leaf (n := 60) (m := 60) (L := []) (by
   obtain ⟨g, hg⟩ : ∃ g, gs[k]? = some g := ⟨gs[k], List.getElem?_eq_getElem (by omega)⟩
   refine (rnd12 H.few H.ne (k := k) (by omega) (addG gs) th bk es (shL i (sumI gs i) gs) (loudL gs) (i : Int) part).trans ?_
   rw [(cell12 H hi hS hg _ _ _).1]; rfl)) (fun _ _ _ _ _ _ => trivial)
  (fun part _ => .leaf (n := 60) (m := 60) (L := []) (by
   refine (rnd12 H.few H.ne (k := (shL i (sumI gs i) gs).length) (by omega) (addG gs) th bk es (shL i (sumI gs i) gs) (loudL gs) (i : Int) part).trans ?_
   unfold r12T
   rw [ge_f]; rfl)) (a0 := 0) trivial hrun
 exact key
structure Fx (gs : List Gr) (th bk : List (Tup intK)) (es : Lv) : Prop where
 tl : th.length = hdL gs
 bl : bk.length = hdL gs
 t0 : ∀ i : Nat, i < hdL gs → 0 ≤ nI1 th (i : Int)
 tb : ∀ i : Nat, i < hdL gs → nI1 bk (i : Int) = IntKind.i64.wrap (0 - nI1 th (i : Int))
 zero : ∀ i : Nat, i < hdL gs → sumI gs i = 0 → lvT es gs (i : Int) = false
 lv : ∀ i : Nat, i < hdL gs → lvT es gs (i : Int) = true → vAt (hdG gs) i ≠ 0
theorem sumT_zero {i : Nat} {gs : List Gr} (h : ∀ g ∈ gs, vAt g i = 0) : sumT gs i = 0 := by
 induction gs with
 | nil => rfl
 | cons y r ih => rw [sumT_cons, h y (by simp), ih fun z hz => h z (by simp [hz])]; rfl
theorem rd10_ok (h0 : Lib0 w0) (H : OkGs gs) {th bk : List (Tup intK)} {es : Lv} (F : Fx gs th bk es) {i : Nat} (hi : i < hdL gs) :
  RdOK (C6 w0) (fnOf Tryz.f6).ntmps rg10 (lpB 10 (fnOf Tryz.f6).body) (sg10 gs (addG gs) th bk (loudL gs) es false (i : Int)) .normal (sg10 gs (addG gs) th bk (loudL gs) es false (IntKind.i64.wrap ((i : Int) + 1))) := by
 have hs := H.sum i
 have hw : (hdG gs).w ≠ 0 := by have := chk_len (H.all _ H.hd).1; omega
 have hiT : in1 th (i : Int) = true := in1_nat (by rw [F.tl]; exact hi)
 have hiB : in1 bk (i : Int) = true := in1_nat (by rw [F.bl]; exact hi)
 have hiL : in1 (loudL gs) (i : Int) = true := in1_nat (by rw [loudL_len]; exact hi)
 have hiA : in1 (addG gs).l (i : Int) = true := in1_nat (by rw [addG_len]; exact hi)
 have hg : (len17 gs && smGs gs) = true := by
  unfold len17 smGs
  rw [H.few, Bool.true_or, Bool.true_and, List.all_eq_true]
  intro g hg
  have h1 := H.len hg
  have h2 := H.small
  exact Nat.ble_eq_true_of_le (by omega)
 have hL := H.loud hi
 have lo1 : decide (nI1 (loudL gs) (i : Int) < -1) = false := decide_eq_false (by rcases hL with ⟨e, _⟩ | ⟨k, _, e, _⟩ <;> omega)
 have lo2 : decide (nI1 (loudL gs) (i : Int) ≥ (gs.length : Int)) = false := decide_eq_false (by
  rcases hL with ⟨e, _⟩ | ⟨k, _, e, h1, _⟩
  ·omega
  ·have := (List.getElem?_eq_some_iff.1 h1).1; omega)
 have hd : decide (nI1 th (i : Int) < 0) = false := decide_eq_false (by have := F.t0 i hi; omega)
 have hb : (nI1 bk (i : Int) != IntKind.i64.wrap (0 - nI1 th (i : Int))) = false := by rw [F.tb i hi]; simp
 by_cases hz : sumI gs i = 0
 ·refine .leaf (n := 60) (m := 60) (L := [ld12 gs (addG gs) th bk es (loudL gs) (i : Int) (0, 0)]) ((rnd10 H.few H.ne (addG gs) th bk (loudL gs) es (i : Int) (0, 0)).trans ?_)
  unfold t10 r10T
  rw [F.tl, lt_t hi, cond_true, gI_t hiT, zQ_f hw, zQ_f hw, nI_f hd, gI_t hiB, nI_f hb, gI_t hiL, nI_f lo1, gI_t hiL, nI_f lo2, gI_t hg, gI_t hg, H.sh hi, hz]
  show gI (in1 (addG gs).l (i : Int)) _ = _
  rw [gI_t hiA, H.nA hi, hz, nI_f (by decide), gI_t hiL, nI_f (by
   rcases hL with ⟨e, _⟩ | ⟨k, g, _, h1, h2, _⟩
   ·rw [e]; decide
   ·have := sumT_mem (fun g hg => (H.all g hg).1) h1 i
    omega), nI_f (F.zero i hi hz)]
 ·have hS : 0 < sumI gs i := by omega
  have hsh : sh6 gs i = (shL i (sumI gs i) gs, 0) := by
   rw [H.sh hi, show (sumI gs i == 0) = false by simp; omega]; rfl
  have hl : (shL i (sumI gs i) gs).length = gs.length := by unfold shL; simp
  refine .one (n := 60) (m := 60) (L := [ld12 gs (addG gs) th bk es (loudL gs) (i : Int) ((gs.length : Int), sumI gs i)]) ((rnd10 H.few H.ne (addG gs) th bk (loudL gs) es (i : Int) ((gs.length : Int), sumI gs i)).trans ?_) (ld12_ok h0 H hi hS th bk es)
  unfold t10 r10T
  rw [F.tl, lt_t hi, cond_true, gI_t hiT, zQ_f hw, zQ_f hw, nI_f hd, gI_t hiB, nI_f hb, gI_t hiL, nI_f lo1, gI_t hiL, nI_f lo2, gI_t hg, gI_t hg, hsh]
  rw [show (((shL i (sumI gs i) gs, (0 : Int)) : List (Tup ptK) × Int).2 == 6) = false from rfl, cond_false, nI_f (show (((shL i (sumI gs i) gs, (0 : Int)) : List (Tup ptK) × Int).2 != 0) = false from rfl), nI_f (by show (((shL i (sumI gs i) gs).length : Int) != (gs.length : Int)) = false; rw [hl]; simp), gI_t hiL, nI_f (decide_eq_false (by
   rcases hL with ⟨_, h1⟩ | ⟨k, _, e, _⟩
   ·exfalso
    have : sumT gs i = 0 := sumT_zero fun g hg => by have := H.v hg i; have := h1 g hg; omega
    omega
   ·omega))]
  have hfin : ((sumI gs i) != nI1 (addG gs).l (i : Int)) = false := by rw [H.nA hi]; simp
  cases hlv : lvT es gs (i : Int) with
  | false =>
    simp only [cond_false]
    rw [gI_t hiA, nI_f hfin]
    unfold ob12
    rw [hsh]
  | true =>
    simp only [cond_true]
    have hn : 0 < gs.length := List.length_pos_iff.2 H.ne
    rw [gI_t (show in0 (shL i (sumI gs i) gs) = true by unfold in0; rw [hl, decide_eq_true (show (0 : Int) < (gs.length : Int) by omega)]; rfl)]
    obtain ⟨r, hr⟩ : ∃ r, gs = hdG gs :: r := by
     have := H.ne
     cases gs with
     | nil => exact absurd rfl this
     | cons g r => exact ⟨r, rfl⟩
    have hv := H.v H.hd i
    obtain ⟨gg, a, b, g0, ha, hb, ev, eS, er⟩ := ratT_ok hv.1 hS
    have e0 : sN (shL i (sumI gs i) gs) 0 = a := by
     have : (shL i (sumI gs i) gs)[0]? = some (ratT (vAt (hdG gs) i) (sumI gs i)) := by
      unfold shL
      rw [List.getElem?_map, hr]; rfl
     show p1 (nth _ 0) = _
     rw [show nth (shL i (sumI gs i) gs) 0 = ratT (vAt (hdG gs) i) (sumI gs i) by simp [nth, this], er]; rfl
    have hne := F.lv i hi hlv
    rw [e0, nI_f (by
     have : a ≠ 0 := fun h => hne (by rw [ev, h, Int.mul_zero])
     simpa using this), gI_t hiA, nI_f hfin]
    unfold ob12
    rw [hsh]
theorem ld10_ok (h0 : Lib0 w0) (H : OkGs gs) {th bk : List (Tup intK)} {es : Lv} (F : Fx gs th bk es) :
  LdT (C6 w0) (ld10 gs (addG gs) th bk (loudL gs) es) (.loop (lpB 10 (fnOf Tryz.f6).body)) (sg10 gs (addG gs) th bk (loudL gs) es false 0) := by
 have hs := H.small
 have hrun : rgRun 10 (fun (_ : Nat) (_ : Unit) => (X.normal, ())) th.length 0 () = (.exit 10, ((th.length : Int), ())) := by
  rw [rgRun_fold 10 (h := fun (_ : Nat) (_ : Unit) => ()) _ _ _ (fun _ _ _ _ => rfl), Nat.zero_add]
 have key := ldT_rg (ok6 w0) (sp6 h0) (N := (fnOf Tryz.f6).ntmps) (rel := rg10) (B := lpB 10 (fnOf Tryz.f6).body) (id := 10) (k := th.length) (by rw [F.tl]; omega) (fun (p : Int × Unit) => sg10 gs (addG gs) th bk (loudL gs) es false p.1)
  (fun (_ : Nat) (_ : Unit) => (X.normal, ())) (fun _ _ => True)
  (fun i _ hi _ => rd10_ok h0 H F (by rw [F.tl] at hi; exact hi)) (fun _ _ _ _ _ _ => trivial)
  (fun _ _ => .leaf (n := 60) (m := 60) (L := [ld12 gs (addG gs) th bk es (loudL gs) (th.length : Int) (0, 0)]) (by
   refine (rnd10 H.few H.ne (addG gs) th bk (loudL gs) es (th.length : Int) (0, 0)).trans ?_
   unfold t10 r10T
   rw [ge_f]; rfl)) (a0 := ()) trivial hrun
 exact key
end Go.Proofs.YthcpfignhalffaaGreatDoor
namespace Go.Proofs.YthcpfignhalffaaGreatDoor
open Go Go.Am
set_option maxRecDepth 100000
variable {w0 : World} {gs : List Gr}
theorem ne_f {x : Int} (h : x = 0) : (x != 0) = false := by simp [h]
theorem e62_of {a b : Gr} (ha : chkG a = 0) (hb : chkG b = 0) (hw : a.w = b.w) (hh : a.h = b.h) : e62 a b = 0 := firstZ_all fun e he => by
 simp only [List.mem_cons, List.not_mem_nil, or_false] at he
 rcases he with rfl | rfl | rfl
 ·exact ha
 ·exact hb
 ·unfold sizeB
  rw [hw, hh]; simp [whenZ]
theorem OkGs.e1 (H : OkGs gs) : e62 (hdG gs) (addG gs) = 0 := e62_of (H.all _ H.hd).1 H.chkA rfl rfl
theorem OkGs.e2 (H : OkGs gs) : e62 (addG gs) (hdG gs) = 0 := e62_of H.chkA (H.all _ H.hd).1 rfl rfl
theorem dif_nth {a b : Gr} (h : e62 a b = 0) {i : Nat} (hi : i < b.l.length) : nI1 (difX a b) (i : Int) = W (levR (vAt b i) - levR (vAt a i)) := by
 unfold difX
 rw [ne_f h, nI1_nat]
 show i1 (nth (updL (dfE a.l) 0 (b.l.map leE)) i) = _
 rw [nth_upd (by simpa using hi), show nth (b.l.map leE) i = leE (nth b.l i) by simp [nth, hi]]
 rfl
theorem difX_len {a b : Gr} (h : e62 a b = 0) : (difX a b).length = b.l.length := by
 unfold difX
 rw [ne_f h]
 show (updL (dfE a.l) 0 (b.l.map leE)).length = _
 rw [updL_len, List.length_map]
theorem lev_rng (e : Int) : -1 ≤ levB e ∧ levB e ≤ 120 := ⟨(levB_lv e).1, (levB_lv e).2.1⟩
theorem OkGs.vS (H : OkGs gs) (i : Nat) : vAt (hdG gs) i ≤ sumI gs i := by
 obtain ⟨r, hr⟩ : ∃ r, gs = hdG gs :: r := by
  have := H.ne
  cases gs with
  | nil => exact absurd rfl this
  | cons g r => exact ⟨r, rfl⟩
 have h0 : gs[0]? = some (hdG gs) := by rw [hr]; rfl
 rw [(H.sum i).1]
 exact sumT_mem (fun g hg => (H.all g hg).1) h0 i
theorem OkGs.lv0 (H : OkGs gs) (i : Nat) : levR (vAt (hdG gs) i) = levB (vAt (hdG gs) i) := by
 have := H.v H.hd i
 exact levR_eq this.1 (by have : maxE = 10000000000000 := rfl; omega)
theorem OkGs.lvS (H : OkGs gs) (i : Nat) : levR (sumI gs i) = levB (sumI gs i) := by
 have := H.sum i
 exact levR_eq (by omega) (by have : maxE = 10000000000000 := rfl; omega)
theorem OkGs.lvW (H : OkGs gs) (i : Nat) : levR (sumI gs i - vAt (hdG gs) i) = levB (sumI gs i - vAt (hdG gs) i) := by
 have := H.sum i
 have := H.vS i
 have := H.v H.hd i
 exact levR_eq (by omega) (by have : maxE = 10000000000000 := rfl; omega)
theorem OkGs.vA (H : OkGs gs) {i : Nat} (hi : i < hdL gs) : vAt (addG gs) i = sumI gs i := H.nthA hi
theorem cell_eq {w : Int} (hw : 0 < w) (i j : Nat) (h : i ≤ 100000) (h' : j ≤ 100000) (hx : p1 (cellP w (j : Int)) = (i : Int).tmod w) (hy : p2 (cellP w (j : Int)) = W ((i : Int).tdiv w)) : j = i := by
 have hx : (j : Int).tmod w = (i : Int).tmod w := hx
 have hy : W ((j : Int).tdiv w) = W ((i : Int).tdiv w) := hy
 have q : ∀ k : Nat, k ≤ 100000 → W ((k : Int).tdiv w) = (k : Int) / w := fun k hk => by
  rw [Int.tdiv_eq_ediv_of_nonneg (by omega)]
  have h1 : 0 ≤ (k : Int) / w := Int.ediv_nonneg (by omega) (by omega)
  have h2 : (k : Int) / w ≤ k := Int.ediv_le_self _ (by omega)
  exact W_in (by omega)
 rw [q j h', q i h] at hy
 rw [Int.tmod_eq_emod_of_nonneg (by omega), Int.tmod_eq_emod_of_nonneg (by omega)] at hx
 have e1 := Int.mul_ediv_add_emod (j : Int) w
 have e2 := Int.mul_ediv_add_emod (i : Int) w
 rw [hx, hy] at e1
 omega
theorem pick_any (P : Nat → Bool) {w : Int} (hw : 0 < w) {n i : Nat} (hi : i < n) (hn : n ≤ 100000) : (pick P w n).any (eqP ((i : Int).tmod w, W ((i : Int).tdiv w))) = P i := by
 unfold pick
 rw [List.any_map, Bool.eq_iff_iff, List.any_eq_true]
 constructor
 ·rintro ⟨j, hj, he⟩
  obtain ⟨hj, hp⟩ := List.mem_filter.1 hj
  have hjn : j < n := by simpa using hj
  have he : eqP ((i : Int).tmod w, W ((i : Int).tdiv w)) (cellP w (j : Int)) = true := he
  unfold eqP at he
  simp only [Bool.and_eq_true, beq_iff_eq] at he
  have := cell_eq hw i j (by omega) (by omega) he.1 he.2
  subst this
  exact hp
 ·intro hp
  refine ⟨i, List.mem_filter.2 ⟨by simpa using hi, hp⟩, ?_⟩
  show eqP ((i : Int).tmod w, W ((i : Int).tdiv w)) (cellP w (i : Int)) = true
  unfold eqP
  simp only [Bool.and_eq_true, beq_iff_eq]
  exact ⟨rfl, rfl⟩
theorem OkGs.with (H : OkGs gs) {v : Int} (h1 : 0 ≤ v) (h2 : v ≤ 120) : withX gs 0 v = (leavesP gs v (hdG gs).l, 0) := by
 have hn : 0 < gs.length := List.length_pos_iff.2 H.ne
 have ho : oob gs 0 = false := by
  unfold oob
  rw [decide_eq_false (by omega), decide_eq_false (by omega)]; rfl
 have he : e47 gs false v = 0 := firstZ_all fun e he => by
  simp only [List.mem_cons, List.not_mem_nil, or_false] at he
  rcases he with rfl | rfl | rfl
  ·exact H.chk
  ·rfl
  ·exact within_in h1 h2
 have ha : atL gs 0 = (hdG gs).l := by
  have := H.ne
  cases gs with
  | nil => exact absurd rfl this
  | cons g r => rfl
 unfold withX
 rw [ho, ne_f he, H.large, ha]; rfl
theorem OkGs.leave (H : OkGs gs) {v : Int} {i : Nat} (hi : i < hdL gs) : pP v (sumL gs) (lessL gs (hdG gs).l) i = (decide (levB (sumI gs i) ≥ v) && !decide (levB (sumI gs i - vAt (hdG gs) i) ≥ v)) := by
 have hs := H.sum i
 have hv := H.v H.hd i
 have hvs := H.vS i
 have mapn : ∀ (l : List (Tup intK)), l.length = hdL gs → b1 (nth (l.map (abE v)) i) = decide (levR (i1 (nth l i)) ≥ v) := fun l hl => by
  rw [nthF (by simpa [hl] using hi), nthI (by rw [hl]; exact hi)]
  simp [b1, abE, tb1]
 have hless : i1 (nth (lessL gs (hdG gs).l) i) = sumI gs i - vAt (hdG gs) i := by
  unfold lessL
  rw [nth_upd (by rw [sumL_len]; exact hi), nth_sumL hi]
  show W (sumI gs i - vAt (hdG gs) i) = _
  exact W_big (by have : big = 1000000000000000 := rfl; omega)
 unfold pP
 rw [mapn _ (sumL_len gs), mapn _ (by unfold lessL; rw [updL_len, sumL_len]), hless, nth_sumL hi]
 show (decide (levR (sumI gs i) ≥ v) && !decide (levR (sumI gs i - vAt (hdG gs) i) ≥ v)) = _
 rw [H.lvS, H.lvW]
theorem OkGs.fx (H : OkGs gs) {v : Int} (h1 : 0 ≤ v) (h2 : v ≤ 120) : Fx gs (difX (hdG gs) (addG gs)) (difX (addG gs) (hdG gs)) ((withX gs 0 v).1.foldl put1 []) := by
 have hsm := H.small
 have hw : 0 < (hdG gs).w := by have := chk_len (H.all _ H.hd).1; omega
 have hlv : ∀ i : Nat, i < hdL gs → lvT ((withX gs 0 v).1.foldl put1 []) gs (i : Int) = (decide (levB (sumI gs i) ≥ v) && !decide (levB (sumI gs i - vAt (hdG gs) i) ≥ v)) := fun i hi => by
  have h := get_puts (cX6 gs (i : Int), cY6 gs (i : Int)) (withX gs 0 v).1 []
  refine (show lvT ((withX gs 0 v).1.foldl put1 []) gs (i : Int) = _ from h).trans ?_
  rw [H.with h1 h2, show gt6 (cX6 gs (i : Int), cY6 gs (i : Int)) [] = false from rfl, Bool.or_false]
  show (pick (pP v (sumL gs) (lessL gs (hdG gs).l)) (hdG gs).w (hdL gs)).any (eqP ((i : Int).tmod (hdG gs).w, W ((i : Int).tdiv (hdG gs).w))) = _
  rw [pick_any _ hw hi (by omega), H.leave hi]
 have hd : ∀ i : Nat, i < hdL gs → nI1 (difX (hdG gs) (addG gs)) (i : Int) = levB (sumI gs i) - levB (vAt (hdG gs) i) := fun i hi => by
  rw [dif_nth H.e1 (by rw [addG_len]; exact hi), H.vA hi, H.lvS, H.lv0]
  have := lev_rng (sumI gs i)
  have := lev_rng (vAt (hdG gs) i)
  exact W_in (by omega)
 have hb : ∀ i : Nat, i < hdL gs → nI1 (difX (addG gs) (hdG gs)) (i : Int) = levB (vAt (hdG gs) i) - levB (sumI gs i) := fun i hi => by
  rw [dif_nth H.e2 (by rw [← H.hdl]; exact hi), H.vA hi, H.lvS, H.lv0]
  have := lev_rng (sumI gs i)
  have := lev_rng (vAt (hdG gs) i)
  exact W_in (by omega)
 refine ⟨by rw [difX_len H.e1, addG_len], by rw [difX_len H.e2, ← H.hdl], fun i hi => ?_, fun i hi => ?_, fun i hi hz => ?_, fun i hi hl hz => ?_⟩
 ·rw [hd i hi]
  have := lev_mono (H.vS i)
  omega
 ·rw [hb i hi, hd i hi]
  have := lev_rng (sumI gs i)
  have := lev_rng (vAt (hdG gs) i)
  rw [show IntKind.i64.wrap (0 - (levB (sumI gs i) - levB (vAt (hdG gs) i))) = 0 - (levB (sumI gs i) - levB (vAt (hdG gs) i)) from W_in (by omega)]
  omega
 ·rw [hlv i hi, hz, lev_zero, decide_eq_false (by omega)]; rfl
 ·rw [hlv i hi, hz, Int.sub_zero] at hl
  cases h : decide (levB (sumI gs i) ≥ v) <;> rw [h] at hl <;> cases hl
theorem OkGs.pe (H : OkGs gs) {pp : List (Tup ptK)} (hp : chkPe (hdG gs) pp = 0) : chkPe (addG gs) pp = 0 := by
 unfold chkPe at hp ⊢
 rw [addG_len, H.hdl]
 exact hp
theorem ex_of {g : Gr} {pp : List (Tup ptK)} {v : Int} (hg : chkG g = 0) (hp : chkPe g pp = 0) (h1 : 0 ≤ v) (h2 : v ≤ 120) : exX g pp v = (accX (abP g v) pp, 0) := by
 have he : e31 g pp v = 0 := firstZ_all fun e he => by
  simp only [List.mem_cons, List.not_mem_nil, or_false] at he
  rcases he with rfl | rfl
  ·exact hp
  ·exact within_in h1 h2
 unfold exX
 rw [ne_f hg, ne_f he]; rfl
theorem abP_at {g : Gr} {v : Int} {j : Nat} (hg : chkG g = 0) (hj : j < g.l.length) : abP g v j = decide (levB (vAt g j) ≥ v) := by
 have h := vAt_ok hg j
 unfold abP
 rw [nthF (by simpa using hj)]
 simp only [b1, abE, tb1, List.getElem_map]
 rw [show i1 g.l[j] = vAt g j by unfold vAt; rw [nthI hj], levR_eq h.1 h.2]
theorem prB_at {g : Gr} {n e : Int} {j : Nat} (hg : chkG g = 0) : prB g n e j = (decide (levB (vAt g j) ≥ n) && decide (levB (vAt g j) < e)) := by
 have h := vAt_ok hg j
 unfold prB
 rw [show i1 (nth g.l j) = vAt g j from rfl, levR_eq h.1 h.2]
theorem cl_of {g : Gr} {pp : List (Tup ptK)} {x y z : Int} (hg : chkG g = 0) (hp : chkPe g pp = 0) (h0 : 0 ≤ x) (h1 : x < y) (h2 : y < z) (h3 : z ≤ 120) : clX g pp [t1 x, t1 y, t1 z] = (clsP g pp [t1 x, t1 y, t1 z], 0) := by
 have hl : chkL [t1 x, t1 y, t1 z] = 0 := by
  have e : ∀ n l : Int, 0 ≤ n → n ≤ 120 → l < n → lvE n l = 0 := fun n l a b c => firstZ_all fun e he => by
   simp only [List.mem_cons, List.not_mem_nil, or_false] at he
   rcases he with rfl | rfl
   ·exact within_in a b
   ·rw [decide_eq_false (by omega)]; rfl
  show (bif lvL [t1 x, t1 y, t1 z] != 0 then lvL [t1 x, t1 y, t1 z] else lvF (-1) [x, y, z]) = 0
  rw [show lvL [t1 x, t1 y, t1 z] = 0 from rfl]
  show (bif lvE x (-1) != 0 then lvE x (-1) else bif lvE y x != 0 then lvE y x else bif lvE z y != 0 then lvE z y else 0) = 0
  rw [e x (-1) h0 (by omega) (by omega), e y x (by omega) (by omega) h1, e z y (by omega) h3 h2]; rfl
 have he : e33 g pp [t1 x, t1 y, t1 z] = 0 := firstZ_all fun e he => by
  simp only [List.mem_cons, List.not_mem_nil, or_false] at he
  rcases he with rfl | rfl
  ·exact hp
  ·exact hl
 unfold clX
 rw [ne_f hg, ne_f he]; rfl
theorem q6_three (a b c : Int × Int) : q6 [iT a, iT b, iT c] = (W (W (W (0 + a.1) + b.1) + c.1), W (W (W (0 + a.2) + b.2) + c.2)) := rfl
theorem sum_eq {g : Gr} {pp : List (Tup ptK)} {x y z : Int} (hg : chkG g = 0) (hp : chkPe g pp = 0) (hl : pp.length ≤ 1000) (h1 : x < y) (h2 : y < z) : q6 (clsP g pp [t1 x, t1 y, t1 z]) = accX (abP g x) pp := by
 have hb := pe_ok hp
 have hlen := (chkPe_zero hp).1
 have va := fun p => accX_val (p := p) hl hb
 show q6 [iT (accX (prB g x y) pp), iT (accX (prB g y z) pp), iT (accX (prB g z 121) pp)] = _
 rw [q6_three, va, va, va, va]
 have f1 := fun p => acN_le (p := p) (f := fun j => p1 (nth pp j)) (n := pp.length) fun j hj => (hb j hj).1
 have f2 := fun p => acN_le (p := p) (f := fun j => p2 (nth pp j)) (n := pp.length) fun j hj => (hb j hj).2
 have part : ∀ f : Nat → Int, acN (abP g x) f pp.length = acN (prB g x y) f pp.length + acN (prB g y z) f pp.length + acN (prB g z 121) f pp.length := fun f => acN_add fun j hj => by
  rw [abP_at hg (by omega), prB_at hg, prB_at hg, prB_at hg]
  have := lev_rng (vAt g j)
  generalize levB (vAt g j) = e at *
  by_cases c1 : e ≥ x
  ·rw [decide_eq_true c1]
   by_cases c2 : e < y
   ·rw [decide_eq_true c2, decide_eq_false (show ¬ e ≥ y by omega), decide_eq_false (show ¬ e ≥ z by omega)]; simp
   ·by_cases c3 : e < z
    ·rw [decide_eq_false c2, decide_eq_true (show e ≥ y by omega), decide_eq_true c3, decide_eq_false (show ¬ e ≥ z by omega)]; simp
    ·rw [decide_eq_false c2, decide_eq_false c3, decide_eq_true (show e ≥ z by omega), decide_eq_true (show e < 121 by omega)]; simp
  ·rw [decide_eq_false c1, decide_eq_false (show ¬ e ≥ y by omega), decide_eq_false (show ¬ e ≥ z by omega)]; simp
 rw [part, part]
 have a1 := f1 (prB g x y)
 have a2 := f1 (prB g y z)
 have a3 := f1 (prB g z 121)
 have b1 := f2 (prB g x y)
 have b2 := f2 (prB g y z)
 have b3 := f2 (prB g z 121)
 have hbig : big = 1000000000000000 := rfl
 simp only
 generalize acN (prB g x y) (fun j => p1 (nth pp j)) pp.length = x1 at *
 generalize acN (prB g y z) (fun j => p1 (nth pp j)) pp.length = x2 at *
 generalize acN (prB g z 121) (fun j => p1 (nth pp j)) pp.length = x3 at *
 generalize acN (prB g x y) (fun j => p2 (nth pp j)) pp.length = y1 at *
 generalize acN (prB g y z) (fun j => p2 (nth pp j)) pp.length = y2 at *
 generalize acN (prB g z 121) (fun j => p2 (nth pp j)) pp.length = y3 at *
 rw [Int.zero_add, Int.zero_add, W_big (n := x1) (by omega), W_big (n := x1 + x2) (by omega), W_big (n := x1 + x2 + x3) (by omega), W_big (n := y1) (by omega), W_big (n := y1 + y2) (by omega), W_big (n := y1 + y2 + y3) (by omega)]
theorem OkGs.more (H : OkGs gs) {pp : List (Tup ptK)} (hp : chkPe (hdG gs) pp = 0) (hl : pp.length ≤ 1000) (v : Int) : (accX (abP (hdG gs) v) pp).1 ≤ (accX (abP (addG gs) v) pp).1 ∧ (accX (abP (hdG gs) v) pp).2 ≤ (accX (abP (addG gs) v) pp).2 := by
 have hb := pe_ok hp
 have hlen := (chkPe_zero hp).1
 have va := fun p => accX_val (p := p) hl hb
 rw [va, va]
 have imp : ∀ j, j < pp.length → abP (hdG gs) v j = true → abP (addG gs) v j = true := fun j hj h => by
  have hj' : j < hdL gs := by rw [H.hdl]; omega
  rw [abP_at (H.all _ H.hd).1 (by omega)] at h
  rw [abP_at H.chkA (by rw [addG_len]; exact hj'), H.vA hj']
  have h := of_decide_eq_true h
  have := lev_mono (H.vS j)
  exact decide_eq_true (by omega)
 exact ⟨acN_mono (fun j hj => (hb j hj).1.1) imp, acN_mono (fun j hj => (hb j hj).2.1) imp⟩
end Go.Proofs.YthcpfignhalffaaGreatDoor
namespace Go.Proofs.YthcpfignhalffaaGreatDoor
open Go Go.Am
set_option maxRecDepth 100000
variable {w0 : World} {gs : List Gr}
theorem gW_t {b : Bool} {k : Ro6} (h : b = true) : gW6 b k = k := by rw [h]; rfl
theorem nW_f {ob : Obs} {b : Bool} {k : Ro6} (h : b = false) : nW6 ob b k = k := by rw [h]; rfl
theorem aW_f {ob : Obs} {b : Bool} {k : Ro6} (h : b = false) : aW6 ob b k = k := by rw [h]; rfl
theorem aW_t {ob : Obs} {b : Bool} {k : Ro6} (h : b = true) : aW6 ob b k = some (ob, Bo true) := by rw [h]; rfl
theorem lvs_ok {a b c : Int} (ha : 0 ≤ a ∧ a ≤ 255) (hb : 0 ≤ b ∧ b ≤ 255) (hc : 0 ≤ c ∧ c ≤ 255) : 0 ≤ low6 a ∧ low6 a ≤ 99 ∧ low6 a < mid6 a b ∧ mid6 a b < hig6 a b c ∧ hig6 a b c ≤ 120 := by
 have e : ∀ x m : Int, 0 ≤ x ∧ x ≤ 255 → 0 < m → (IntKind.i64.wrap x).tmod m = x % m ∧ 0 ≤ x % m ∧ x % m < m := fun x m hx hm => by
  rw [show IntKind.i64.wrap x = x from W_in (by omega)]
  exact ⟨Int.tmod_eq_emod_of_nonneg hx.1, Int.emod_nonneg x (by omega), Int.emod_lt_of_pos x hm⟩
 obtain ⟨a1, a2, a3⟩ := e a 100 ha (by decide)
 obtain ⟨b1, b2, b3⟩ := e b 10 hb (by decide)
 obtain ⟨c1, c2, c3⟩ := e c 10 hc (by decide)
 have l : low6 a = a % 100 := a1
 have m : mid6 a b = a % 100 + 1 + b % 10 := by
  unfold mid6
  rw [l, b1, show IntKind.i64.wrap (a % 100 + 1) = a % 100 + 1 from W_in (by omega)]
  exact W_in (by omega)
 have h : hig6 a b c = a % 100 + 1 + b % 10 + 1 + c % 10 := by
  unfold hig6
  rw [m, c1, show IntKind.i64.wrap (a % 100 + 1 + b % 10 + 1) = a % 100 + 1 + b % 10 + 1 from W_in (by omega)]
  exact W_in (by omega)
 omega
theorem OkGs.gL (H : OkGs gs) : (len17 gs && smGs gs) = true := by
 unfold len17 smGs
 rw [H.few, Bool.true_or, Bool.true_and, List.all_eq_true]
 intro g hg
 have h1 := H.len hg
 have h2 := H.small
 exact Nat.ble_eq_true_of_le (by omega)
theorem K6_ok (h0 : Lib0 w0) (H : OkGs gs) {pp : List (Tup ptK)} {a b c : Int} (ha : 0 ≤ a ∧ a ≤ 255) (hb : 0 ≤ b ∧ b ≤ 255) (hc : 0 ≤ c ∧ c ≤ 255) (hf : gs.all few = true) (hl : pp.length ≤ 37) (hp : chkPe (hdG gs) pp = 0) (ob : Obs) (hO : Owed (C6 w0) ob) :
  ∃ o, K6 gs pp a b c (q6 (clX (hdG gs) pp (lvs6 a b c)).1) ((withX gs 0 (low6 a)).1.foldl put1 []) ob = some (o, Bo true) ∧ Owed (C6 w0) o := by
 obtain ⟨l0, l1, l2, l3, l4⟩ := lvs_ok ha hb hc
 have hhd := (H.all _ H.hd).1
 have hs := H.small
 have h36 := few_hd hf
 have hA := H.addX
 have hB : addX gs.reverse = (addG gs, 0) := by rw [H.rev.addX, H.add_rev]
 have hx : vs6 gs pp a b c = ⟨addG gs, addG gs, difX (hdG gs) (addG gs), difX (addG gs) (hdG gs), (loudX gs).1, (withX gs 0 (low6 a)).1, (clX (hdG gs) pp (lvs6 a b c)).1, (exX (hdG gs) pp (low6 a)).1, (exX (addG gs) pp (low6 a)).1⟩ := by
  unfold vs6
  rw [hA, hB]
 have sA : smG (addG gs) = true := Nat.ble_eq_true_of_le (by rw [addG_len]; omega)
 have s0 : smG (hdG gs) = true := Nat.ble_eq_true_of_le (by rw [← H.hdl]; omega)
 have sp : smP pp = true := Nat.ble_eq_true_of_le (by omega)
 have gl := H.gL
 have gr := H.rev.gL
 have pe2 := H.pe hp
 have ex1 := ex_of hhd hp l0 (show low6 a ≤ 120 by omega)
 have ex2 := ex_of H.chkA pe2 l0 (show low6 a ≤ 120 by omega)
 have cl1 : clX (hdG gs) pp (lvs6 a b c) = (clsP (hdG gs) pp (lvs6 a b c), 0) := cl_of hhd hp l0 l2 l3 l4
 have hL : loudX gs = (loudL gs, 0) := by
  unfold loudX
  rw [ne_f H.chk]; rfl
 have wi := H.with l0 (show low6 a ≤ 120 by omega)
 have F := H.fx l0 (show low6 a ≤ 120 by omega)
 have hsum : q6 (clsP (hdG gs) pp (lvs6 a b c)) = accX (abP (hdG gs) (low6 a)) pp := sum_eq hhd hp (by omega) l2 l3
 have hmore := H.more hp (show pp.length ≤ 1000 by omega) (low6 a)
 have hsame : sameG (addG gs) (addG gs) = true := same_refl _
 have hsz : sizeB (addG gs) (hdG gs) = true := by unfold sizeB; simp [addG]
 have hgn : (withX gs 0 (low6 a)).1.length ≤ 100000 := by
  rw [wi]
  have := pick_len (pP (low6 a) (sumL gs) (lessL gs (hdG gs).l)) (hdG gs).w (hdL gs)
  show (leavesP gs (low6 a) (hdG gs).l).length ≤ _
  unfold leavesP; omega
 have hcl3 : (clX (hdG gs) pp (lvs6 a b c)).1.length = 3 := by rw [cl1]; rfl
 have e1 : ((exX (hdG gs) pp (low6 a)).1) = accX (abP (hdG gs) (low6 a)) pp := by rw [ex1]
 have e2 : ((exX (addG gs) pp (low6 a)).1) = accX (abP (addG gs) (low6 a)) pp := by rw [ex2]
 refine ⟨ob10 gs (addG gs) (difX (hdG gs) (addG gs)) (difX (addG gs) (hdG gs)) (loudX gs).1 ((withX gs 0 (low6 a)).1.foldl put1 []) ::
  ob8 gs (addG gs) (difX (hdG gs) (addG gs)) (difX (addG gs) (hdG gs)) (loudX gs).1 (withX gs 0 (low6 a)).1 ((withX gs 0 (low6 a)).1.foldl put1 []) ::
  ob6 gs (addG gs) (difX (hdG gs) (addG gs)) (difX (addG gs) (hdG gs)) (loudX gs).1 (withX gs 0 (low6 a)).1 (clX (hdG gs) pp (lvs6 a b c)).1 (exX (hdG gs) pp (low6 a)).1 (q6 (clX (hdG gs) pp (lvs6 a b c)).1) :: ob, ?_, ?_, ?_, ?_, hO⟩
 ·unfold K6
  rw [hx]
  unfold mdA6 gL6
  rw [gW_t gl, gW_t gl, gW_t gr, gW_t gr, nW_f (by rw [hA]; rfl), nW_f (by rw [hB]; rfl)]
  simp only
  rw [gW_t sA, nW_f (by rw [hsame]; rfl), decide_eq_true (show (((addG gs).l.length : Nat) : Int) ≤ 36 by rw [addG_len]; omega), cond_true, gW_t sA, nW_f (by rw [H.chkA]; rfl), nW_f (by rw [hsz]; rfl)]
  unfold mdB6 gL6
  simp only
  rw [s0, sA, sp, gl]
  simp only [Bool.and_self, gW_t]
  rw [gW_t (by decide)]
  unfold mdC6
  simp only
  rw [nW_f (ne_f H.e1), nW_f (ne_f H.e2), nW_f (by rw [wi]; rfl), nW_f (by rw [ex1]; rfl), nW_f (by rw [ex2]; rfl), nW_f (by rw [cl1]; rfl), nW_f (by rw [hL]; rfl),
   nW_f (by rw [F.tl, addG_len]; simp), nW_f (by rw [F.tl, F.bl]; simp), nW_f (by rw [hcl3]; rfl), nW_f (by rw [hL, F.tl]; show (((loudL gs).length : Int) != _) = false; rw [loudL_len]; simp),
   nW_f (by rw [e1, e2]; exact decide_eq_false (by omega)), nW_f (by rw [e1, e2]; exact decide_eq_false (by omega))]
  unfold end6
  simp only
  rw [nW_f (by rw [e1, cl1]; show (!((q6 (clsP (hdG gs) pp (lvs6 a b c))).1 == _ && ((q6 (clsP (hdG gs) pp (lvs6 a b c))).2 == _ && true))) = false; rw [hsum]; simp)]
 ·have h := ld10_ok h0 H F
  have e : (loudX gs).1 = loudL gs := by rw [hL]
  show LdT (C6 w0) (ld10 gs (addG gs) _ _ (loudX gs).1 _) _ (sg10 gs (addG gs) _ _ (loudX gs).1 _ false 0)
  rw [e]
  exact h
 ·exact ld8_ok h0 H.few H.ne _ _ _ _ _ hgn
 ·exact ld6_ok h0 H.few H.ne _ _ _ _ _ _ _ (by rw [hcl3]; decide)
theorem any_low {l : List (Tup intK)} (h : anyB l = false) : ∀ x ∈ l, i1 x ≤ 1000000000000 := fun x hx => by
 obtain ⟨j, hj, rfl⟩ := List.getElem_of_mem hx
 unfold anyB at h
 rw [List.any_eq_false] at h
 have := h j (by simpa using hj)
 unfold bgI at this
 rw [nI1_nat, nthI hj] at this
 simpa using this
theorem Gs6_ok (h0 : Lib0 w0) {all : List Gr} (h4 : len4 all = true) (hne : all ≠ []) {pp : List (Tup ptK)} {v : Int} {vs : List (Tup intK)} {a b c : Int} {q : Int × Int} {es : Lv}
  (hK : (∀ g ∈ all, anyB g.l = false) → ∀ ob, Owed (C6 w0) ob → ∃ o, K6 all pp a b c q es ob = some (o, Bo true) ∧ Owed (C6 w0) o) :
  ∀ (rest pre : List Gr) (k : Nat) (ob : Obs), all = pre ++ rest → (∀ g ∈ pre, anyB g.l = false) → (∀ g ∈ rest, g.l.length ≤ 100000) → Owed (C6 w0) ob → ∃ o, Gs6 all pp v vs a b c q es k ob rest = some (o, Bo true) ∧ Owed (C6 w0) o
 | [], pre, k, ob, he, hp, _, hO => hK (fun g hg => hp g (by rw [he] at hg; simpa using hg)) ob hO
 | g :: rest, pre, k, ob, he, hp, hl, hO => by
   have hg := hl g (by simp)
   have o2 := ld2_ok (w0 := w0) h0 h4 hne pp v vs a b c g.l (k : Int) hg
   unfold Gs6
   rw [gW_t ((Nat.ble_eq ..).mpr hg)]
   cases hb : anyB g.l with
   | true => exact ⟨_, aW_t rfl, o2, hO⟩
   | false =>
     rw [aW_f rfl]
     exact Gs6_ok h0 h4 hne hK rest (pre ++ [g]) (k + 1) _ (by rw [he]; simp) (fun x hx => by
      rcases List.mem_append.1 hx with hx | hx
      ·exact hp x hx
      ·simp only [List.mem_singleton] at hx; rw [hx]; exact hb) (fun x hx => hl x (by simp [hx])) ⟨o2, hO⟩
theorem law6_fn (h0 : Lib0 w0) (h4 : len4 gs = true) (hne : gs ≠ []) (pp : List (Tup ptK)) (v : Int) (vs : List (Tup intK)) {a b c : Int} (ha : 0 ≤ a ∧ a ≤ 255) (hb : 0 ≤ b ∧ b ≤ 255) (hc : 0 ≤ c ∧ c ≤ 255) :
  FnD (cfg w0) 6 [slG gs, .agg [.vec ptK pp, I v, .vec intK vs], .agg [.val (.int .u8 a), .val (.int .u8 b), .val (.int .u8 c)]] (Bo true) := by
 have fin : (∃ o, law6T gs pp v vs a b c (q6 (clX (hdG gs) pp (lvs6 a b c)).1) ((withX gs 0 (low6 a)).1.foldl put1 []) = some (o, Bo true) ∧ Owed (C6 w0) o) → FnD (cfg w0) 6 [slG gs, .agg [.vec ptK pp, I v, .vec intK vs], .agg [.val (.int .u8 a), .val (.int .u8 b), .val (.int .u8 c)]] (Bo true) := fun ⟨o, h, hO⟩ =>
  fnD_di (cfg_ok w0) h0 (cs6_gd h0) (fd := fnOf Tryz.f6) rfl ((bd6_all h4 hne pp v vs a b c _ _).trans h) hO
 refine fin ?_
 unfold law6T gL6
 cases hf : gs.all few with
 | false => exact ⟨[], aW_t rfl, trivial⟩
 | true =>
   rw [aW_f (by rfl), gW_t (by unfold len17; rw [h4, few_sm hf]; rfl)]
   by_cases hz : chkGs gs = 0
   ·rw [aW_f (ne_f hz)]
    by_cases hl : (pp.length : Int) > 37
    ·exact ⟨[], aW_t (decide_eq_true hl), trivial⟩
    ·rw [aW_f (decide_eq_false hl), gW_t (show smP pp = true from Nat.ble_eq_true_of_le (by omega))]
     by_cases hp : chkPe (hdG gs) pp = 0
     ·rw [aW_f (ne_f hp)]
      refine Gs6_ok h0 h4 hne (fun hall ob hO => K6_ok h0 ⟨hz, h4, fun g hg => any_low (hall g hg)⟩ ha hb hc hf (by omega) hp ob hO) gs [] 0 [] rfl (by simp) (fun g hg => ?_) trivial
      have := List.all_eq_true.1 hf g hg
      have := of_decide_eq_true this
      omega
     ·exact ⟨[], aW_t (by simpa using hp), trivial⟩
   ·exact ⟨[], aW_t (by simpa using hz), trivial⟩
end Go.Proofs.YthcpfignhalffaaGreatDoor
