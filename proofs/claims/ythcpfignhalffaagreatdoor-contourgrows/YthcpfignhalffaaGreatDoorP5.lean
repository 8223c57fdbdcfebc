/-
 A part of the proof of the statement that the claim names: see the last file.
-/
import Derived.Test.YthcpfignhalffaaGreatDoorP4
import Derived.Test.YthcpfignhalffaaGreatDoorAm4
import Derived.Test.YthcpfignhalffaaGreatDoorP3
namespace Go.Proofs.YthcpfignhalffaaGreatDoor
open Go Go.Am
set_option maxRecDepth 100000
variable {w0 : World}
noncomputable section
def hdG (gs : List Gr) : Gr := match gs with
 | [] => g0
 | g :: _ => g
def cs43 : List Ct := [chkGsC 127, c128]
def T43 (gs : List Gr) : Option D := bif smGs gs then bif chkGs gs != 0 then some (.tup [nilG, I (chkGs gs)]) else
  bif g128 gs then bif large gs then some (.tup [nilG, I 4]) else some (.tup [.agg [I (hdG gs).w, I (hdG gs).h, .vec intK (sumL gs)], I 0]) else none else none
def T46e (gs : List Gr) : Option D := bif smGs gs then some (.tup [nilD, I (chkGs gs)]) else none
def ixG (g : Gr) (x y : Int) : Int := W (W (y * g.w) + x)
def e45 (S : Int) : Int := firstZ [whenZ (decide (S > maxE)) 4, whenZ (S == 0) 6]
def G45 (i S : Int) (k : Option D) : List Gr → Option D
 | [] => k
 | g :: gs => bif inK g i then bif pos2 (i1 (nth g.l i.toNat)) S then G45 i S k gs else none else none
def shC (i S : Int) : List Gr → List D
 | [] => []
 | g :: gs => I ((i1 (nth g.l i.toNat)).tdiv (gc (i1 (nth g.l i.toNat)) S)) :: I (S.tdiv (gc (i1 (nth g.l i.toNat)) S)) :: shC i S gs
def cs45 : List Ct := [chkGsC 127, hasC 129, c131, whenC 132, firstC 99, lowC 135]
def T45 (gs : List Gr) (x y : Int) : Option D := bif smGs gs then bif chkGs gs != 0 then some (.tup [nilD, I (chkGs gs)]) else
  bif !hasB (hdG gs) x y then some (.tup [nilD, I 10]) else
  bif inAll gs (ixG (hdG gs) x y) then
   bif e45 (sumI gs (ixG (hdG gs) x y).toNat) != 0 then some (.tup [nilD, I (e45 (sumI gs (ixG (hdG gs) x y).toNat))]) else
   G45 (ixG (hdG gs) x y) (sumI gs (ixG (hdG gs) x y).toNat) (some (.tup [.sl gs.length 2 (shC (ixG (hdG gs) x y) (sumI gs (ixG (hdG gs) x y).toNat) gs), I 0])) gs
  else none else none
def badC (g : Nat) : Ct := ⟨g, fun _ => .bad⟩
def e47 (gs : List Gr) (b : Bool) (v : Int) : Int := firstZ [chkGs gs, whenZ b 10, withinZ v 0 maxL]
def cs47e : List Ct := [chkGsC 127, whenC 132, firstC 99, rangeC 100 0 maxL, badC 128]
def h47e (gs : List Gr) (b : Bool) (v : Int) : Option D := bif e47 gs b v != 0 then some (.tup [nilD, I (e47 gs b v)]) else none
def T47e (gs : List Gr) (i v : Int) : Option D := bif smGs gs then bif decide (i < 0) then h47e gs true v else h47e gs (decide (i ≥ (gs.length : Int))) v else none
theorem run43_n  : bodyK ((cfg w0).at cs43) 60 (fnOf Tryz.f43) [nilD] = T43 [] := by kernel_rfl
theorem run43_e  : bodyK ((cfg w0).at cs43) 60 (fnOf Tryz.f43) [(.emp 3)] = T43 [] := by kernel_rfl
theorem run43_1 (g1 : Gr) : bodyK ((cfg w0).at cs43) 60 (fnOf Tryz.f43) [(slG [g1])] = T43 [g1] := by kernel_rfl
theorem run43_2 (g1 g2 : Gr) : bodyK ((cfg w0).at cs43) 60 (fnOf Tryz.f43) [(slG [g1, g2])] = T43 [g1, g2] := by kernel_rfl
theorem run43_3 (g1 g2 g3 : Gr) : bodyK ((cfg w0).at cs43) 60 (fnOf Tryz.f43) [(slG [g1, g2, g3])] = T43 [g1, g2, g3] := by kernel_rfl
theorem run43_4 (g1 g2 g3 g4 : Gr) : bodyK ((cfg w0).at cs43) 60 (fnOf Tryz.f43) [(slG [g1, g2, g3, g4])] = T43 [g1, g2, g3, g4] := by kernel_rfl
theorem run43_17 (g1 g2 g3 g4 g5 g6 g7 g8 g9 g10 g11 g12 g13 g14 g15 g16 g17 : Gr) : bodyK ((cfg w0).at cs43) 60 (fnOf Tryz.f43) [(slG [g1, g2, g3, g4, g5, g6, g7, g8, g9, g10, g11, g12, g13, g14, g15, g16, g17])] = T43 [g1, g2, g3, g4, g5, g6, g7, g8, g9, g10, g11, g12, g13, g14, g15, g16, g17] := by kernel_rfl
theorem run46_n  : bodyK ((cfg w0).at cs46) 60 (fnOf Tryz.f46) [nilD] = T46e [] := by kernel_rfl
theorem run46_e  : bodyK ((cfg w0).at cs46) 60 (fnOf Tryz.f46) [(.emp 3)] = T46e [] := by kernel_rfl
theorem run46_17 (g1 g2 g3 g4 g5 g6 g7 g8 g9 g10 g11 g12 g13 g14 g15 g16 g17 : Gr) : bodyK ((cfg w0).at cs46) 60 (fnOf Tryz.f46) [(slG [g1, g2, g3, g4, g5, g6, g7, g8, g9, g10, g11, g12, g13, g14, g15, g16, g17])] = T46e [g1, g2, g3, g4, g5, g6, g7, g8, g9, g10, g11, g12, g13, g14, g15, g16, g17] := by kernel_rfl
theorem run45_n  (x y : Int) : bodyK ((cfg w0).at cs45) 60 (fnOf Tryz.f45) [nilD, .agg [I x, I y]] = T45 [] x y := by kernel_rfl
theorem run45_e  (x y : Int) : bodyK ((cfg w0).at cs45) 60 (fnOf Tryz.f45) [(.emp 3), .agg [I x, I y]] = T45 [] x y := by kernel_rfl
theorem run45_1 (g1 : Gr) (x y : Int) : bodyK ((cfg w0).at cs45) 60 (fnOf Tryz.f45) [(slG [g1]), .agg [I x, I y]] = T45 [g1] x y := by kernel_rfl
theorem run45_2 (g1 g2 : Gr) (x y : Int) : bodyK ((cfg w0).at cs45) 60 (fnOf Tryz.f45) [(slG [g1, g2]), .agg [I x, I y]] = T45 [g1, g2] x y := by kernel_rfl
theorem run45_3 (g1 g2 g3 : Gr) (x y : Int) : bodyK ((cfg w0).at cs45) 60 (fnOf Tryz.f45) [(slG [g1, g2, g3]), .agg [I x, I y]] = T45 [g1, g2, g3] x y := by kernel_rfl
theorem run45_4 (g1 g2 g3 g4 : Gr) (x y : Int) : bodyK ((cfg w0).at cs45) 60 (fnOf Tryz.f45) [(slG [g1, g2, g3, g4]), .agg [I x, I y]] = T45 [g1, g2, g3, g4] x y := by kernel_rfl
theorem run45_17 (g1 g2 g3 g4 g5 g6 g7 g8 g9 g10 g11 g12 g13 g14 g15 g16 g17 : Gr) (x y : Int) : bodyK ((cfg w0).at cs45) 60 (fnOf Tryz.f45) [(slG [g1, g2, g3, g4, g5, g6, g7, g8, g9, g10, g11, g12, g13, g14, g15, g16, g17]), .agg [I x, I y]] = T45 [g1, g2, g3, g4, g5, g6, g7, g8, g9, g10, g11, g12, g13, g14, g15, g16, g17] x y := by kernel_rfl
theorem run47_n  (i v : Int) : bodyK ((cfg w0).at cs47e) 60 (fnOf Tryz.f47) [nilD, I i, I v] = T47e [] i v := by kernel_rfl
theorem run47_e  (i v : Int) : bodyK ((cfg w0).at cs47e) 60 (fnOf Tryz.f47) [(.emp 3), I i, I v] = T47e [] i v := by kernel_rfl
theorem run47_1 (g1 : Gr) (i v : Int) : bodyK ((cfg w0).at cs47e) 60 (fnOf Tryz.f47) [(slG [g1]), I i, I v] = T47e [g1] i v := by kernel_rfl
theorem run47_2 (g1 g2 : Gr) (i v : Int) : bodyK ((cfg w0).at cs47e) 60 (fnOf Tryz.f47) [(slG [g1, g2]), I i, I v] = T47e [g1, g2] i v := by kernel_rfl
theorem run47_3 (g1 g2 g3 : Gr) (i v : Int) : bodyK ((cfg w0).at cs47e) 60 (fnOf Tryz.f47) [(slG [g1, g2, g3]), I i, I v] = T47e [g1, g2, g3] i v := by kernel_rfl
theorem run47_4 (g1 g2 g3 g4 : Gr) (i v : Int) : bodyK ((cfg w0).at cs47e) 60 (fnOf Tryz.f47) [(slG [g1, g2, g3, g4]), I i, I v] = T47e [g1, g2, g3, g4] i v := by kernel_rfl
theorem run47_17 (g1 g2 g3 g4 g5 g6 g7 g8 g9 g10 g11 g12 g13 g14 g15 g16 g17 : Gr) (i v : Int) : bodyK ((cfg w0).at cs47e) 60 (fnOf Tryz.f47) [(slG [g1, g2, g3, g4, g5, g6, g7, g8, g9, g10, g11, g12, g13, g14, g15, g16, g17]), I i, I v] = T47e [g1, g2, g3, g4, g5, g6, g7, g8, g9, g10, g11, g12, g13, g14, g15, g16, g17] i v := by kernel_rfl
end
end Go.Proofs.YthcpfignhalffaaGreatDoor
namespace Go.Proofs.YthcpfignhalffaaGreatDoor
open Go Go.Am
set_option maxRecDepth 100000
variable {w0 : World}
noncomputable section
theorem firstZ_nil : ∀ {l : List Int}, firstZ l = 0 → ∀ e ∈ l, e = 0
 | [], _, e, he => by cases he
 | x :: xs, h, e, he => by
   unfold firstZ at h
   cases hx : (x != 0) with
   | true => rw [hx] at h; simp only [cond_true] at h; rw [h] at hx; cases hx
   | false =>
     rw [hx] at h
     rcases List.mem_cons.1 he with rfl | he
     ·simpa using hx
     ·exact firstZ_nil h e he
theorem when_zero {b : Bool} {e : Int} (he : e ≠ 0) (h : whenZ b e = 0) : b = false := by
 cases b with
 | true => exact absurd h he
 | false => rfl
theorem err_zero {a g : Gr} (h : errG a g = 0) : chkG g = 0 ∧ g.w = a.w ∧ g.h = a.h := by
 have h := firstZ_nil h
 refine ⟨h _ (by simp), ?_⟩
 have hs := when_zero (by decide) (h (whenZ (!sizeB g a) 2) (by simp))
 simp only [Bool.not_eq_false', sizeB, Bool.and_true, Bool.and_eq_true, beq_iff_eq] at hs
 exact hs
theorem chkGs_zero {gs : List Gr} (h : chkGs gs = 0) : gs ≠ [] ∧ gs.length ≤ 16 ∧ ∀ g ∈ gs, chkG g = 0 ∧ g.w = (hdG gs).w ∧ g.h = (hdG gs).h := by
 cases gs with
 | nil => cases h
 | cons g r =>
   have h : (bif Nat.blt 16 (g :: r).length then (5 : Int) else firstZ ((g :: r).map (errG g))) = 0 := h
   cases hb : Nat.blt 16 (g :: r).length with
   | true => rw [hb] at h; cases h
   | false =>
     rw [hb] at h
     refine ⟨by simp, Nat.ge_of_not_lt fun hc => ?_, fun x hx => err_zero (firstZ_nil h (errG g x) (List.mem_map_of_mem hx))⟩
     rw [show Nat.blt 16 (g :: r).length = true by rw [Nat.blt_eq]; exact hc] at hb
     cases hb
theorem chk_g128 {gs : List Gr} (h4 : len17 gs = true) (h : chkGs gs = 0) : g128 gs = true := by
 obtain ⟨hne, h16, hall⟩ := chkGs_zero h
 unfold g128
 unfold len17 at h4
 rw [Bool.or_eq_true] at h4
 have h4 : len4 gs = true := h4.elim id fun h => by have := Nat.eq_of_beq_eq_true h; omega
 cases gs with
 | nil => exact absurd rfl hne
 | cons g r =>
   have hg := hall g (by simp)
   simp only [Bool.and_eq_true, Nat.ble_eq, Nat.blt_eq]
   refine ⟨h4, by simp, List.all_eq_true.2 fun x hx => ?_, ?_⟩
   ·obtain ⟨c1, c2, c3⟩ := hall x hx
    exact (Nat.beq_eq ..).mpr (same_len c1 hg.1 c2 c3)
   ·have := (chk_len hg.1)
    have hm := mul_bound (a := g.w) (b := g.h) (by omega) this.2.2.1 (by omega) this.2.2.2.2.1
    have hl := this.1
    rw [W_in (by omega)] at hl
    show g.l.length ≤ 100000
    omega
def vAt (g : Gr) (i : Nat) : Int := i1 (nth g.l i)
theorem vAt_ok {g : Gr} (h : chkG g = 0) (i : Nat) : 0 ≤ vAt g i ∧ vAt g i ≤ maxE := by
 unfold vAt
 rcases Nat.lt_or_ge i g.l.length with hi | hi
 ·rw [show nth g.l i = g.l[i] by simp [nth, hi]]
  exact (chk_len h).2.2.2.2.2 _ (List.getElem_mem hi)
 ·rw [show nth g.l i = t1 0 by simp [nth, hi]; rfl]
  exact ⟨by decide, by decide⟩
def sumT (gs : List Gr) (i : Nat) : Int := (gs.map fun g => vAt g i).sum
theorem sumT_ok {i : Nat} : ∀ {gs : List Gr}, (∀ g ∈ gs, chkG g = 0) → 0 ≤ sumT gs i ∧ sumT gs i ≤ gs.length * maxE
 | [], _ => ⟨by simp [sumT], by simp [sumT]⟩
 | g :: gs, h => by
   have h1 := vAt_ok (h g (by simp)) i
   have h2 := sumT_ok (i := i) (gs := gs) fun x hx => h x (by simp [hx])
   have e : sumT (g :: gs) i = vAt g i + sumT gs i := by simp [sumT]
   rw [e, List.length_cons]
   constructor
   ·omega
   ·rw [Int.natCast_add, Int.add_mul]; omega
theorem sumZ_eq {i : Nat} : ∀ {gs : List Gr} (s : Int), (∀ g ∈ gs, chkG g = 0) → 0 ≤ s → s + gs.length * maxE ≤ big → sumZ i s gs = s + sumT gs i
 | [], s, _, _, _ => by simp [sumZ, sumT]
 | g :: gs, s, h, hs, hb => by
   have h1 := vAt_ok (h g (by simp)) i
   have hm : (0 : Int) ≤ gs.length * maxE := Int.mul_nonneg (by omega) (by decide)
   rw [List.length_cons, Int.natCast_add, Int.add_mul] at hb
   unfold sumZ
   rw [show W (s + i1 (nth g.l i)) = s + vAt g i from W_big (by unfold vAt at *; omega), sumZ_eq (gs := gs) _ (fun x hx => h x (by simp [hx])) (by omega) (by omega)]
   simp [sumT, Int.add_assoc]
theorem sumI_eq {gs : List Gr} (h : chkGs gs = 0) (i : Nat) : sumI gs i = sumT gs i := by
 obtain ⟨_, h16, hall⟩ := chkGs_zero h
 unfold sumI
 have hm : (gs.length : Int) * maxE ≤ 16 * maxE := Int.mul_le_mul_of_nonneg_right (by omega) (by decide)
 have : (16 : Int) * maxE ≤ big := by decide
 rw [sumZ_eq 0 (fun g hg => (hall g hg).1) (by omega) (by omega)]
 omega
theorem sumI_ok {gs : List Gr} (h : chkGs gs = 0) (i : Nat) : 0 ≤ sumI gs i ∧ sumI gs i ≤ big := by
 obtain ⟨_, h16, hall⟩ := chkGs_zero h
 have h1 := sumT_ok (i := i) fun g hg => (hall g hg).1
 have hm : (gs.length : Int) * maxE ≤ 16 * maxE := Int.mul_le_mul_of_nonneg_right (by omega) (by decide)
 have : (16 : Int) * maxE ≤ big := by decide
 rw [sumI_eq h]
 omega
def liE (p : List (Tup intK) × Int) : D := .tup [.vec intK p.1, I p.2]
def ptE (p : List (Tup ptK) × Int) : D := .tup [.vec ptK p.1, I p.2]
theorem fn_nilI {g : FuncId} {ds : List D} {e : Int} (h : FnD (cfg w0) g ds (.tup [nilD, I e])) : FnD (cfg w0) g ds (liE ([], e)) := FnD.nil_vec (vs := [.int .i64 e]) rfl (by decide) h
theorem fn_nilP {g : FuncId} {ds : List D} {e : Int} (h : FnD (cfg w0) g ds (.tup [nilD, I e])) : FnD (cfg w0) g ds (ptE ([], e)) := FnD.nil_vec (vs := [.int .i64 e]) rfl (by decide) h
theorem gd_run17' (h0 : Lib0 w0) {cs : List Ct} (hcs : Gds (cfg w0) cs) {g : Nat} {fd : AFn} (hfd : fnTr.get g = some fd) {ss : List Sh} {F : List Gr → ArgT ss → FT D} {T : List Gr → ArgT ss → Option D}
  (hF : ∀ gs a d, (F gs a).run = some d → len17 gs = true ∧ ∃ d', T gs a = some d' ∧ ∀ ds, FnD (cfg w0) g ds d' → FnD (cfg w0) g ds d)
  (rn : ∀ x, bodyK ((cfg w0).at cs) 60 fd (nilD :: toShs ss x) = T [] x) (re : ∀ x, bodyK ((cfg w0).at cs) 60 fd (.emp 3 :: toShs ss x) = T [] x)
  (r1 : ∀ a x, bodyK ((cfg w0).at cs) 60 fd (slG [a] :: toShs ss x) = T [a] x) (r2 : ∀ a b x, bodyK ((cfg w0).at cs) 60 fd (slG [a, b] :: toShs ss x) = T [a, b] x)
  (r3 : ∀ a b c x, bodyK ((cfg w0).at cs) 60 fd (slG [a, b, c] :: toShs ss x) = T [a, b, c] x) (r4 : ∀ a b c d x, bodyK ((cfg w0).at cs) 60 fd (slG [a, b, c, d] :: toShs ss x) = T [a, b, c, d] x)
  (r17 : ∀ gs, gs.length = 17 → ∀ x, bodyK ((cfg w0).at cs) 60 fd (slG gs :: toShs ss x) = T gs x) : Gd (cfg w0) (gsK g ss F) := by
 have go := fun {ds : List D} {d : D} (h : bodyK ((cfg w0).at cs) 60 fd ds = some d) => fnD_k (cfg_ok w0) h0 hcs (g := g) hfd h
 have fin : ∀ {gs x d} {ds : List D}, (F gs x).run = some d → bodyK ((cfg w0).at cs) 60 fd ds = T gs x → FnD (cfg w0) g ds d := fun hd hr => by
  obtain ⟨_, d', h1, h2⟩ := hF _ _ _ hd
  exact h2 _ (go (hr.trans h1))
 refine gd_gs (fun x d hd => fin hd (rn x)) (fun x d hd => fin hd (re x)) fun gs hne x d hd => ?_
 have h4 := (hF _ _ _ hd).1
 unfold len17 at h4
 rw [Bool.or_eq_true] at h4
 rcases h4 with h4 | h4
 ·rcases four h4 hne with ⟨a, rfl⟩ | ⟨a, b, rfl⟩ | ⟨a, b, c, rfl⟩ | ⟨a, b, c, e, rfl⟩
  ·exact fin hd (r1 a x)
  ·exact fin hd (r2 a b x)
  ·exact fin hd (r3 a b c x)
  ·exact fin hd (r4 a b c e x)
 ·exact fin hd (r17 gs (Nat.eq_of_beq_eq_true h4) x)
def addG (gs : List Gr) : Gr := ⟨(hdG gs).w, (hdG gs).h, sumL gs⟩
def addX (gs : List Gr) : Gr × Int := bif chkGs gs != 0 then (g0, chkGs gs) else bif large gs then (g0, 4) else (addG gs, 0)
def c43 : Ct := gsK 43 [] fun gs _ => .br (len17 gs && smGs gs) (.leaf (grE (addX gs))) .bad
theorem gd43 (h0 : Lib0 w0) : Gd (cfg w0) c43 := gd_run17' h0 (cs := cs43) ⟨gd127 h0, gd128 h0, trivial⟩ (fd := fnOf Tryz.f43) rfl (ss := []) (T := fun gs _ => T43 gs)
 (fun gs a d hd => by
  obtain ⟨hg, hd⟩ := br_run hd
  cases hd
  rw [Bool.and_eq_true] at hg
  refine ⟨hg.1, ?_⟩
  unfold T43 addX
  rw [hg.2]
  cases hc : (chkGs gs != 0) with
  | true => exact ⟨_, rfl, fun ds h => fnD_nilG h⟩
  | false =>
    rw [chk_g128 hg.1 (by simpa using hc)]
    cases large gs with
    | true => exact ⟨_, rfl, fun ds h => fnD_nilG h⟩
    | false => exact ⟨_, rfl, fun ds h => h⟩)
 (fun _ => run43_n) (fun _ => run43_e) (fun a _ => run43_1 a) (fun a b _ => run43_2 a b) (fun a b c _ => run43_3 a b c) (fun a b c d _ => run43_4 a b c d)
 (fun gs h _ => by obtain ⟨g1, g2, g3, g4, g5, g6, g7, g8, g9, g10, g11, g12, g13, g14, g15, g16, g17, rfl⟩ := seventeen h; exact run43_17 ..)
def loudX (gs : List Gr) : List (Tup intK) × Int := bif chkGs gs != 0 then ([], chkGs gs) else (loudL gs, 0)
def c46 : Ct := gsK 46 [] fun gs _ => .br (len17 gs && smGs gs) (.leaf (liE (loudX gs))) .bad
theorem fn46e (h0 : Lib0 w0) {gs : List Gr} (hs : smGs gs = true) (hc : chkGs gs ≠ 0) (hn : ∀ p, bodyT ((cfg w0).at cs46) 40 [ldP 0 (fnOf Tryz.f46).ntmps rel46 .normal (st46 gs (hdL gs) p)] 40 (fnOf Tryz.f46) [slG gs] = tb46 gs p) : FnD (cfg w0) 46 [slG gs] (.tup [nilD, I (chkGs gs)]) := by
 refine fnD_t (cfg_ok w0) h0 (cs46_gd h0) (fd := fnOf Tryz.f46) rfl (o := []) ((hn (0, [])).trans ?_) trivial
 unfold tb46
 rw [hs, show (chkGs gs != 0) = true by simpa using hc]; rfl
theorem gd46 (h0 : Lib0 w0) : Gd (cfg w0) c46 := by
 have go := fun {ds : List D} {d : D} (h : bodyK ((cfg w0).at cs46) 60 (fnOf Tryz.f46) ds = some d) => fnD_k (cfg_ok w0) h0 (cs46_gd h0) (g := 46) (fd := fnOf Tryz.f46) rfl h
 refine gd_gs (fun _ d hd => by cases hd; exact fn_nilI (go run46_n)) (fun _ d hd => by cases hd; exact fn_nilI (go run46_e)) fun gs hne a d hd => ?_
 obtain ⟨hg, hd⟩ := br_run hd
 cases hd
 rw [Bool.and_eq_true] at hg
 have key : (∀ n j o, rndD ((cfg w0).at cs46) 60 [] 60 (fnOf Tryz.f46).ntmps rel46 (lpB 0 (fnOf Tryz.f46).body) (st46 gs n (j, o)) = tree46 gs n j o) →
   (∀ p, bodyT ((cfg w0).at cs46) 40 [ldP 0 (fnOf Tryz.f46).ntmps rel46 .normal (st46 gs (hdL gs) p)] 40 (fnOf Tryz.f46) [slG gs] = tb46 gs p) → FnD (cfg w0) 46 [slG gs] (liE (loudX gs)) := fun hr hn => by
  unfold loudX
  cases hc : (chkGs gs != 0) with
  | true => exact fn_nilI (fn46e h0 hg.2 (by simpa using hc) hn)
  | false =>
    have hz : chkGs gs = 0 := by simpa using hc
    have h8 := chk_g128 hg.1 hz
    unfold g128 at h8
    simp only [Bool.and_eq_true, Nat.ble_eq] at h8
    exact fn46 h0 h8.2.2.1 h8.2.2.2 hg.2 hz hr hn
 have h4 := hg.1
 unfold len17 at h4
 rw [Bool.or_eq_true] at h4
 rcases h4 with h4 | h4
 ·rcases four h4 hne with ⟨a, rfl⟩ | ⟨a, b, rfl⟩ | ⟨a, b, c, rfl⟩ | ⟨a, b, c, e, rfl⟩
  ·exact key (fun n j o => round46_1 ..) (fun p => body46_1 ..)
  ·exact key (fun n j o => round46_2 ..) (fun p => body46_2 ..)
  ·exact key (fun n j o => round46_3 ..) (fun p => body46_3 ..)
  ·exact key (fun n j o => round46_4 ..) (fun p => body46_4 ..)
 ·obtain ⟨g1, g2, g3, g4, g5, g6, g7, g8, g9, g10, g11, g12, g13, g14, g15, g16, g17, rfl⟩ := seventeen (Nat.eq_of_beq_eq_true h4)
  refine fn_nilI (go ((run46_17 ..).trans ?_))
  unfold T46e
  rw [hg.2]; rfl
def shL (i : Nat) (S : Int) (gs : List Gr) : List (Tup ptK) := gs.map fun g => ratT (vAt g i) S
def shX (gs : List Gr) (x y : Int) : List (Tup ptK) × Int := bif chkGs gs != 0 then ([], chkGs gs) else bif !hasB (hdG gs) x y then ([], 10) else
 bif e45 (sumI gs (ixG (hdG gs) x y).toNat) != 0 then ([], e45 (sumI gs (ixG (hdG gs) x y).toNat)) else (shL (ixG (hdG gs) x y).toNat (sumI gs (ixG (hdG gs) x y).toNat) gs, 0)
theorem ix_ok {g : Gr} (h : chkG g = 0) {x y : Int} (hb : hasB g x y = true) : ixG g x y = y * g.w + x ∧ 0 ≤ y * g.w + x ∧ y * g.w + x < g.l.length := by
 obtain ⟨h1, h2, h3, h4, h5, _⟩ := chk_len h
 unfold hasB at hb
 simp only [Bool.and_eq_true, decide_eq_true_eq] at hb
 obtain ⟨b1, b2, b3, b4⟩ := hb
 have hm := mul_bound (a := g.w) (b := g.h) (by omega) h3 (by omega) h5
 rw [W_in (by omega)] at h1
 have hy : y * g.w ≤ (g.h - 1) * g.w := Int.mul_le_mul_of_nonneg_right (by omega) (by omega)
 have h0 : 0 ≤ y * g.w := Int.mul_nonneg b2 (by omega)
 have hw : (g.h - 1) * g.w = g.w * g.h - g.w := by rw [Int.sub_mul, Int.mul_comm, Int.one_mul]
 unfold ixG
 rw [W_in (n := y * g.w) (by omega), W_in (by omega)]
 omega
theorem inAll_ix {gs : List Gr} (h : chkGs gs = 0) {x y : Int} (hb : hasB (hdG gs) x y = true) : inAll gs (ixG (hdG gs) x y) = true := by
 obtain ⟨hne, _, hall⟩ := chkGs_zero h
 have hd : chkG (hdG gs) = 0 := by
  cases gs with
  | nil => exact absurd rfl hne
  | cons g r => exact (hall g (by simp)).1
 obtain ⟨e, i0, i1⟩ := ix_ok hd hb
 refine List.all_eq_true.2 fun g hg => ?_
 obtain ⟨c1, c2, c3⟩ := hall g hg
 have := same_len c1 hd c2 c3
 rw [e]
 unfold inK
 simp only [Bool.and_eq_true, decide_eq_true_eq]
 exact ⟨rfl, i0, by omega⟩
theorem e45_zero {S : Int} (h : e45 S = 0) : S ≤ maxE ∧ S ≠ 0 := by
 have h := firstZ_nil h
 have h1 := when_zero (by decide) (h (whenZ (decide (S > maxE)) 4) (by simp))
 have h2 := when_zero (by decide) (h (whenZ (S == 0) 6) (by simp))
 exact ⟨by have := of_decide_eq_false h1; omega, by simpa using h2⟩
theorem pos2_of {a b : Int} (h1 : 0 ≤ a) (h2 : 0 < b) (h3 : a ≤ big) (h4 : b ≤ big) : pos2 a b = true := by
 unfold pos2
 simp only [Bool.and_eq_true, decide_eq_true_eq]
 exact ⟨h1, h2, h3, h4⟩
theorem G45_eq {i S : Int} {k : Option D} (hS : 0 < S) (hB : S ≤ big) : ∀ {gs : List Gr}, (∀ g ∈ gs, chkG g = 0) → inAll gs i = true → G45 i S k gs = k
 | [], _, _ => rfl
 | g :: gs, h, hi => by
   unfold inAll at hi
   rw [List.all_cons, Bool.and_eq_true] at hi
   have h1 := vAt_ok (h g (by simp)) i.toNat
   unfold vAt at h1
   have hb : maxE ≤ big := by decide
   unfold G45
   rw [hi.1, pos2_of h1.1 hS (by omega) hB]
   exact G45_eq hS hB (fun x hx => h x (by simp [hx])) hi.2
theorem ofRows_pt : ∀ l : List (Tup ptK), ofRows ptK l.length (l.flatMap fun p => toVs ptK p) = some l
 | [] => rfl
 | p :: l => by
   have h := ofRows_pt l
   rw [List.length_cons, List.flatMap_cons]
   have e1 : (toVs ptK p ++ l.flatMap fun p => toVs ptK p).take ptK.length = toVs ptK p := rfl
   have e2 : (toVs ptK p ++ l.flatMap fun p => toVs ptK p).drop ptK.length = l.flatMap fun p => toVs ptK p := rfl
   unfold ofRows
   rw [e1, e2, h]
   rfl
theorem ofRows_sh (i : Nat) (S : Int) (gs : List Gr) : ofRows ptK gs.length ((shL i S gs).flatMap fun p => toVs ptK p) = some (shL i S gs) := by
 have := ofRows_pt (shL i S gs)
 rwa [show (shL i S gs).length = gs.length by simp [shL]] at this
theorem shC_eq (i S : Int) : ∀ gs : List Gr, shC i S gs = ((shL i.toNat S gs).flatMap fun p => toVs ptK p).map .val
 | [] => rfl
 | g :: gs => by
   unfold shC
   rw [shC_eq i S gs]; rfl
theorem pt_len : ∀ l : List (Tup ptK), (l.flatMap fun p => toVs ptK p).length = l.length * 2
 | [] => rfl
 | p :: l => by
   rw [List.flatMap_cons, List.length_append, pt_len l, toVs_len, show (p :: l).length = l.length + 1 from rfl]
   show 2 + _ = _
   omega
theorem sh_len (i : Nat) (S : Int) (gs : List Gr) : ((shL i S gs).flatMap fun p => toVs ptK p).length = gs.length * 2 := by
 rw [pt_len]; simp [shL]
theorem fn_slP {g : FuncId} {ds : List D} {gs : List Gr} {i : Nat} {S e : Int} (hne : gs ≠ []) (h : FnD (cfg w0) g ds (.tup [.sl gs.length 2 (((shL i S gs).flatMap fun p => toVs ptK p).map .val), I e])) : FnD (cfg w0) g ds (ptE (shL i S gs, e)) :=
 FnD.sl_tup (xs := [.int .i64 e]) (n := gs.length) rfl (by decide) (List.length_pos_iff.2 hne) (sh_len i S gs) (ofRows_sh i S gs) rfl h
def c45 : Ct := gsK 45 [.b ptK] fun gs a => .br (len17 gs && smGs gs) (.leaf (ptE (shX gs a.1.1 a.1.2.1))) .bad
theorem gd45 (h0 : Lib0 w0) : Gd (cfg w0) c45 := gd_run17' h0 (cs := cs45) ⟨gd127 h0, gd129 h0, gd131 h0, gd132 h0, gd99 h0, gd135 h0, trivial⟩ (fd := fnOf Tryz.f45) rfl (ss := [.b ptK]) (T := fun gs a => T45 gs a.1.1 a.1.2.1)
 (fun gs a d hd => by
  obtain ⟨hg, hd⟩ := br_run hd
  cases hd
  rw [Bool.and_eq_true] at hg
  refine ⟨hg.1, ?_⟩
  obtain ⟨⟨x, y, _⟩, u⟩ := a
  show ∃ d', T45 gs x y = some d' ∧ ∀ ds, FnD (cfg w0) 45 ds d' → FnD (cfg w0) 45 ds (ptE (shX gs x y))
  unfold T45 shX
  rw [hg.2]
  cases hc : (chkGs gs != 0) with
  | true => exact ⟨_, rfl, fun ds h => fn_nilP h⟩
  | false =>
    have hz : chkGs gs = 0 := by simpa using hc
    cases hb : hasB (hdG gs) x y with
    | false => exact ⟨_, rfl, fun ds h => fn_nilP h⟩
    | true =>
      have hi := inAll_ix hz hb
      rw [hi]
      cases he : (e45 (sumI gs (ixG (hdG gs) x y).toNat) != 0) with
      | true => exact ⟨_, rfl, fun ds h => fn_nilP h⟩
      | false =>
        obtain ⟨hne, _, hall⟩ := chkGs_zero hz
        have h1 := sumI_ok hz (ixG (hdG gs) x y).toNat
        have h2 := e45_zero (S := sumI gs (ixG (hdG gs) x y).toNat) (by simpa using he)
        rw [G45_eq (by omega) h1.2 (fun g hg => (hall g hg).1) hi]
        refine ⟨_, rfl, fun ds h => fn_slP hne ?_⟩
        rw [shC_eq] at h
        exact h)
 (fun x => run45_n x.1.1 x.1.2.1) (fun x => run45_e x.1.1 x.1.2.1) (fun a x => run45_1 a x.1.1 x.1.2.1) (fun a b x => run45_2 a b x.1.1 x.1.2.1) (fun a b c x => run45_3 a b c x.1.1 x.1.2.1) (fun a b c d x => run45_4 a b c d x.1.1 x.1.2.1)
 (fun gs h x => by obtain ⟨g1, g2, g3, g4, g5, g6, g7, g8, g9, g10, g11, g12, g13, g14, g15, g16, g17, rfl⟩ := seventeen h; exact run45_17 (x := x.1.1) (y := x.1.2.1) ..)
end
end Go.Proofs.YthcpfignhalffaaGreatDoor
namespace Go.Proofs.YthcpfignhalffaaGreatDoor
open Go Go.Am
set_option maxRecDepth 100000
variable {w0 : World}
noncomputable section
def p1 (x : Tup ptK) : Int := x.1
def p2 (x : Tup ptK) : Int := x.2.1
def pr (x : Tup ptK) : Int × Int := (p1 x, p2 x)
def sameP (a b : List (Tup ptK)) : Bool := decide (a.map pr = b.map pr)
def inP (o : List (Tup ptK)) (j : Int) : Bool := Nat.beq 2 2 && (decide (0 ≤ j) && decide (j < o.length))
theorem inP_nat {o : List (Tup ptK)} {j : Nat} (h : j < o.length) : inP o (j : Int) = true := inb 2 h
def cellsB (l : List (Tup ptK)) (e bad : Int) (want : List (Tup ptK)) : Bool := sameP l (bif bad != 0 then [] else want) && (e == bad)
end
end Go.Proofs.YthcpfignhalffaaGreatDoor
namespace Go.Proofs.YthcpfignhalffaaGreatDoor
open Go Go.Am
set_option maxRecDepth 100000
variable {w0 : World}
noncomputable section
theorem g128_le {gs : List Gr} (h : g128 gs = true) : hdL gs ≤ 100000 ∧ len4 gs = true ∧ eqLn gs = true := by
 unfold g128 at h
 simp only [Bool.and_eq_true, Nat.ble_eq] at h
 exact ⟨h.2.2.2, h.1, h.2.2.1⟩
def addXR (gs : List Gr) : Gr × Int := bif anyL (refL gs (-1)) then (g0, 4) else (⟨(hdG gs).w, (hdG gs).h, refL gs (-1)⟩, 0)
def shT (gs : List Gr) (x y : Int) : List (Tup ptK) × Int := 
 bif e45 (sumI gs (ixG (hdG gs) x y).toNat) != 0 then ([], e45 (sumI gs (ixG (hdG gs) x y).toNat)) else (shL (ixG (hdG gs) x y).toNat (sumI gs (ixG (hdG gs) x y).toNat) gs, 0)
theorem e45_val {S : Int} : e45 S = bif decide (S > maxE) then 4 else bif S == 0 then 6 else 0 := by
 unfold e45 whenZ
 cases decide (S > maxE) <;> cases (S == 0) <;> rfl
end
end Go.Proofs.YthcpfignhalffaaGreatDoor
