/-
 A part of the proof of the statement that the claim names: see the last file.
-/
import Derived.Test.YthcpfignhalffaaGreatDoorP5
namespace Go.Proofs.YthcpfignhalffaaGreatDoor
open Go Go.Am
set_option maxRecDepth 100000
variable {w0 : World}
noncomputable section
def cs47 : List Ct := [chkGsC 127, whenC 132, firstC 99, rangeC 100 0 maxL, c128, c102]
def rel47a : List (Nat × Cv) := [(0, .id), (2, .id), (9, .id), (11, .id), (56, .id), (57, .id), (58, .id)]
def st47a (gs : List Gr) (v : Int) (all l : List (Tup intK)) (p : Int × List (Tup intK)) : List D := [slG gs, I v, .ovec intK all, .ovec intK p.2, .vec intK l, I l.length, I p.1]
def suE (l : List (Tup intK)) (j : Nat) (x : Tup intK) : Tup intK := t1 (W (i1 x - i1 (nth l j)))
def tree47a (gs : List Gr) (v : Int) (all l : List (Tup intK)) (j : Int) (o : List (Tup intK)) : Rn :=
 bif decide (j < l.length) then bif inO l j then bif inO o j then bif inO o j then
   some ([], .normal, st47a gs v all l (W (j + 1), o.set j.toNat (suE l j.toNat (nth o j.toNat))))
  else none else none else none
 else some ([], .exit 0, st47a gs v all l (j, o))
def roomQ (o : List (Tup ptK)) : Bool := Nat.ble (o.length * 16) 1000000000000 && Nat.ble o.length 1000000000000
def cellP (w j : Int) : Tup ptK := (j.tmod w, W (j.tdiv w), ())
def inF (o : List (Tup flK)) (j : Int) : Bool := Nat.beq 1 1 && (decide (0 ≤ j) && decide (j < o.length))
def rel47b : List (Nat × Cv) := [(14, .id), (16, .id), (96, .id), (97, .id), (98, .id), (17, .ov ptK)]
def st47b (g : Gr) (lf al : List (Tup flK)) (p : Int × List (Tup ptK)) : List D := [.obox [I g.w, I g.h, .ovec intK g.l], .ovec flK lf, .ovec flK al, I al.length, I p.1, .ovec ptK p.2]
def tree47b (g : Gr) (lf al : List (Tup flK)) (j : Int) (o : List (Tup ptK)) : Rn :=
 bif decide (j < al.length) then bif inF al j then
  bif b1 (nth al j.toNat) then
   bif inF lf j then
    bif !b1 (nth lf j.toNat) then
     bif decide (g.w = 0) then none else bif decide (g.w = 0) then none else
     bif roomQ (o ++ [cellP g.w j]) then some ([], .normal, st47b g lf al (W (j + 1), o ++ [cellP g.w j])) else none
    else some ([], .normal, st47b g lf al (W (j + 1), o))
   else none
  else some ([], .normal, st47b g lf al (W (j + 1), o))
  else none
 else some ([], .exit 2, st47b g lf al (j, o))
theorem round47b (g : Gr) (lf al : List (Tup flK)) (j : Int) (o : List (Tup ptK)) : rndD ((cfg w0).at cs47) 60 [] 60 (fnOf Tryz.f47).ntmps rel47b (lpB 2 (fnOf Tryz.f47).body) (st47b g lf al (j, o)) = tree47b g lf al j o := by cases g; kernel_rfl
def lds47 (gs : List Gr) (v : Int) (l : List (Tup intK)) (p : Int × List (Tup intK)) (q : Int × List (Tup ptK)) : List Ld :=
 [ldP 0 (fnOf Tryz.f47).ntmps rel47a .normal (st47a gs v (sumL gs) l p), ldP 2 (fnOf Tryz.f47).ntmps rel47b .normal (st47b ⟨(hdG gs).w, (hdG gs).h, sumL gs⟩ (p.2.map (abE v)) ((sumL gs).map (abE v)) q)]
def ob47 (gs : List Gr) (v : Int) (l : List (Tup intK)) (p : Int × List (Tup intK)) (q : Int × List (Tup ptK)) : Obs :=
 [(ldP 2 (fnOf Tryz.f47).ntmps rel47b .normal (st47b ⟨(hdG gs).w, (hdG gs).h, sumL gs⟩ (p.2.map (abE v)) ((sumL gs).map (abE v)) q), .loop (lpB 2 (fnOf Tryz.f47).body), st47b ⟨(hdG gs).w, (hdG gs).h, sumL gs⟩ (p.2.map (abE v)) ((sumL gs).map (abE v)) (0, [])),
   (ldP 0 (fnOf Tryz.f47).ntmps rel47a .normal (st47a gs v (sumL gs) l p), .loop (lpB 0 (fnOf Tryz.f47).body), st47a gs v (sumL gs) l (0, cp151 (sumL gs)))]
def tb47 (gs : List Gr) (v : Int) (l : List (Tup intK)) (p : Int × List (Tup intK)) (q : Int × List (Tup ptK)) : Option (Obs × D) :=
 bif smGs gs then bif e47 gs false v != 0 then some ([], .tup [nilD, I (e47 gs false v)]) else
 bif g128 gs then bif large gs then some ([], .tup [nilD, I 4]) else
 bif g151 (sumL gs) then
  bif smG ⟨(hdG gs).w, (hdG gs).h, p.2⟩ then bif smG ⟨(hdG gs).w, (hdG gs).h, sumL gs⟩ then
   some (ob47 gs v l p q, .tup [.vec ptK q.2, I 0])
  else none else none else none
 else none else none
theorem round47a_1 (g1 : Gr) (v j : Int) (all l o : List (Tup intK)) : rndD ((cfg w0).at cs47) 60 [] 60 (fnOf Tryz.f47).ntmps rel47a (lpB 0 (fnOf Tryz.f47).body) (st47a [g1] v all l (j, o)) = tree47a [g1] v all l j o := by kernel_rfl
theorem body47_1_0 (g1 : Gr) (v : Int) (p : Int × List (Tup intK)) (q : Int × List (Tup ptK)) : bodyT ((cfg w0).at cs47) 40 (lds47 [g1] v g1.l p q) 40 (fnOf Tryz.f47) [slG [g1], I 0, I v] = tb47 [g1] v g1.l p q := by kernel_rfl
theorem round47a_2 (g1 g2 : Gr) (v j : Int) (all l o : List (Tup intK)) : rndD ((cfg w0).at cs47) 60 [] 60 (fnOf Tryz.f47).ntmps rel47a (lpB 0 (fnOf Tryz.f47).body) (st47a [g1, g2] v all l (j, o)) = tree47a [g1, g2] v all l j o := by kernel_rfl
theorem body47_2_0 (g1 g2 : Gr) (v : Int) (p : Int × List (Tup intK)) (q : Int × List (Tup ptK)) : bodyT ((cfg w0).at cs47) 40 (lds47 [g1, g2] v g1.l p q) 40 (fnOf Tryz.f47) [slG [g1, g2], I 0, I v] = tb47 [g1, g2] v g1.l p q := by kernel_rfl
theorem body47_2_1 (g1 g2 : Gr) (v : Int) (p : Int × List (Tup intK)) (q : Int × List (Tup ptK)) : bodyT ((cfg w0).at cs47) 40 (lds47 [g1, g2] v g2.l p q) 40 (fnOf Tryz.f47) [slG [g1, g2], I 1, I v] = tb47 [g1, g2] v g2.l p q := by kernel_rfl
theorem round47a_3 (g1 g2 g3 : Gr) (v j : Int) (all l o : List (Tup intK)) : rndD ((cfg w0).at cs47) 60 [] 60 (fnOf Tryz.f47).ntmps rel47a (lpB 0 (fnOf Tryz.f47).body) (st47a [g1, g2, g3] v all l (j, o)) = tree47a [g1, g2, g3] v all l j o := by kernel_rfl
theorem body47_3_0 (g1 g2 g3 : Gr) (v : Int) (p : Int × List (Tup intK)) (q : Int × List (Tup ptK)) : bodyT ((cfg w0).at cs47) 40 (lds47 [g1, g2, g3] v g1.l p q) 40 (fnOf Tryz.f47) [slG [g1, g2, g3], I 0, I v] = tb47 [g1, g2, g3] v g1.l p q := by kernel_rfl
theorem body47_3_1 (g1 g2 g3 : Gr) (v : Int) (p : Int × List (Tup intK)) (q : Int × List (Tup ptK)) : bodyT ((cfg w0).at cs47) 40 (lds47 [g1, g2, g3] v g2.l p q) 40 (fnOf Tryz.f47) [slG [g1, g2, g3], I 1, I v] = tb47 [g1, g2, g3] v g2.l p q := by kernel_rfl
theorem body47_3_2 (g1 g2 g3 : Gr) (v : Int) (p : Int × List (Tup intK)) (q : Int × List (Tup ptK)) : bodyT ((cfg w0).at cs47) 40 (lds47 [g1, g2, g3] v g3.l p q) 40 (fnOf Tryz.f47) [slG [g1, g2, g3], I 2, I v] = tb47 [g1, g2, g3] v g3.l p q := by kernel_rfl
theorem round47a_4 (g1 g2 g3 g4 : Gr) (v j : Int) (all l o : List (Tup intK)) : rndD ((cfg w0).at cs47) 60 [] 60 (fnOf Tryz.f47).ntmps rel47a (lpB 0 (fnOf Tryz.f47).body) (st47a [g1, g2, g3, g4] v all l (j, o)) = tree47a [g1, g2, g3, g4] v all l j o := by kernel_rfl
theorem body47_4_0 (g1 g2 g3 g4 : Gr) (v : Int) (p : Int × List (Tup intK)) (q : Int × List (Tup ptK)) : bodyT ((cfg w0).at cs47) 40 (lds47 [g1, g2, g3, g4] v g1.l p q) 40 (fnOf Tryz.f47) [slG [g1, g2, g3, g4], I 0, I v] = tb47 [g1, g2, g3, g4] v g1.l p q := by kernel_rfl
theorem body47_4_1 (g1 g2 g3 g4 : Gr) (v : Int) (p : Int × List (Tup intK)) (q : Int × List (Tup ptK)) : bodyT ((cfg w0).at cs47) 40 (lds47 [g1, g2, g3, g4] v g2.l p q) 40 (fnOf Tryz.f47) [slG [g1, g2, g3, g4], I 1, I v] = tb47 [g1, g2, g3, g4] v g2.l p q := by kernel_rfl
theorem body47_4_2 (g1 g2 g3 g4 : Gr) (v : Int) (p : Int × List (Tup intK)) (q : Int × List (Tup ptK)) : bodyT ((cfg w0).at cs47) 40 (lds47 [g1, g2, g3, g4] v g3.l p q) 40 (fnOf Tryz.f47) [slG [g1, g2, g3, g4], I 2, I v] = tb47 [g1, g2, g3, g4] v g3.l p q := by kernel_rfl
theorem body47_4_3 (g1 g2 g3 g4 : Gr) (v : Int) (p : Int × List (Tup intK)) (q : Int × List (Tup ptK)) : bodyT ((cfg w0).at cs47) 40 (lds47 [g1, g2, g3, g4] v g4.l p q) 40 (fnOf Tryz.f47) [slG [g1, g2, g3, g4], I 3, I v] = tb47 [g1, g2, g3, g4] v g4.l p q := by kernel_rfl
end
end Go.Proofs.YthcpfignhalffaaGreatDoor
namespace Go.Proofs.YthcpfignhalffaaGreatDoor
open Go Go.Am
set_option maxRecDepth 100000
variable {w0 : World}
noncomputable section
def pick (p : Nat → Bool) (w : Int) (n : Nat) : List (Tup ptK) := ((List.range' 0 n).filter p).map fun (j : Nat) => cellP w (j : Int)
theorem fold_pick {τ ρ : Type} (p : τ → Bool) (f : τ → ρ) : ∀ (l : List τ) (o : List ρ), l.foldl (fun o j => bif p j then o ++ [f j] else o) o = o ++ (l.filter p).map f
 | [], o => by simp
 | x :: xs, o => by
   rw [List.foldl_cons, fold_pick p f xs]
   cases hp : p x <;> simp [hp]
theorem roomQ_ok {o : List (Tup ptK)} {x : Tup ptK} (h : o.length ≤ 1000000) : roomQ (o ++ [x]) = true := room h (by omega)
theorem inF_nat {o : List (Tup flK)} {j : Nat} (h : j < o.length) : inF o (j : Int) = true := inb 1 h
def lessL (gs : List Gr) (l : List (Tup intK)) : List (Tup intK) := updL (suE l) 0 (sumL gs)
def pP (v : Int) (all less : List (Tup intK)) (j : Nat) : Bool := b1 (nth (all.map (abE v)) j) && !b1 (nth (less.map (abE v)) j)
def leavesP (gs : List Gr) (v : Int) (l : List (Tup intK)) : List (Tup ptK) := pick (pP v (sumL gs) (lessL gs l)) (hdG gs).w (hdL gs)
theorem sumL_len (gs : List Gr) : (sumL gs).length = hdL gs := by unfold sumL; simp
theorem cs47_gd (h0 : Lib0 w0) : Gds (cfg w0) cs47 := ⟨gd127 h0, gd132 h0, gd99 h0, gd100 h0, gd128 h0, gd102 h0, trivial⟩
theorem g151_ok {l : List (Tup intK)} (h : l.length ≤ 100000) : g151 l = true := by
 unfold g151
 simp only [Int.toNat_natCast, Bool.and_eq_true, decide_eq_true_eq, Nat.ble_eq]
 exact ⟨by omega, trivial, by omega, by omega, by omega⟩
theorem fn47 (h0 : Lib0 w0) {gs : List Gr} {v : Int} {k : Int} {l : List (Tup intK)} (hs : smGs gs = true) (he : e47 gs false v = 0) (h8 : g128 gs = true) (hl : l.length = hdL gs) (hw : (hdG gs).w ≠ 0)
  (hr : ∀ v j all l o, rndD ((cfg w0).at cs47) 60 [] 60 (fnOf Tryz.f47).ntmps rel47a (lpB 0 (fnOf Tryz.f47).body) (st47a gs v all l (j, o)) = tree47a gs v all l j o)
  (hb : ∀ p q, bodyT ((cfg w0).at cs47) 40 (lds47 gs v l p q) 40 (fnOf Tryz.f47) [slG gs, I k, I v] = tb47 gs v l p q) :
  FnD (cfg w0) 47 [slG gs, I k, I v] (ptE (bif large gs then ([], 4) else (leavesP gs v l, 0))) := by
 have hd := (g128_le h8).1
 cases hL : large gs with
 | true =>
   refine fn_nilP (fnD_t (cfg_ok w0) h0 (cs47_gd h0) (fd := fnOf Tryz.f47) rfl (o := []) ((hb (0, []) (0, [])).trans ?_) trivial)
   unfold tb47
   rw [hs, he, h8, hL]; rfl
 | false =>
   have hz : cp151 (sumL gs) = sumL gs := cp151_eq _
   have hra : rgRun 0 (fun j (out : List (Tup intK)) => (X.normal, out.set j (suE l j (nth out j)))) l.length 0 (sumL gs) = (.exit 0, (((l.length : Nat) : Int), lessL gs l)) := by
    rw [rgRun_fold 0 (h := fun j (out : List (Tup intK)) => out.set j (suE l j (nth out j))) _ _ _ (fun _ _ _ _ => rfl)]
    have := fold_upd (suE l) (sumL gs) [] 0 rfl
    rw [List.nil_append, List.nil_append, sumL_len, ← hl] at this
    rw [this, Nat.zero_add]; rfl
   have la := ldT_rg (at_ok (cfg_ok w0) cs47) (at_sp h0 (cs47_gd h0)) (N := (fnOf Tryz.f47).ntmps) (rel := rel47a) (B := lpB 0 (fnOf Tryz.f47).body) (id := 0) (k := l.length) (by omega) (st47a gs v (sumL gs) l) (fun j (out : List (Tup intK)) => (X.normal, out.set j (suE l j (nth out j)))) (fun _ a => a.length = hdL gs)
    (fun j a hj hi => .leaf (by
     have hi : a.length = hdL gs := hi
     refine (hr ..).trans ?_
     unfold tree47a
     rw [lt_t hj, inO_nat hj, inO_nat (by omega), Int.toNat_natCast]
     rfl)) (fun j a a' _ hi h => by cases h; simpa using hi)
    (fun a _ => .leaf ((hr ..).trans (by unfold tree47a; rw [ge_f]; rfl))) (a0 := sumL gs) (sumL_len gs) hra
   have hll : (lessL gs l).length = hdL gs := by unfold lessL; rw [updL_len, sumL_len]
   have hrb : rgRun 2 (fun j (out : List (Tup ptK)) => (X.normal, bif pP v (sumL gs) (lessL gs l) j then out ++ [cellP (hdG gs).w (j : Int)] else out)) (hdL gs) 0 [] = (.exit 2, (((hdL gs : Nat) : Int), leavesP gs v l)) := by
    rw [rgRun_fold 2 (h := fun j (out : List (Tup ptK)) => bif pP v (sumL gs) (lessL gs l) j then out ++ [cellP (hdG gs).w (j : Int)] else out) _ _ _ (fun _ _ _ _ => rfl),
     fold_pick (pP v (sumL gs) (lessL gs l)) (fun j => cellP (hdG gs).w ((j : Nat) : Int)), Nat.zero_add, List.nil_append]; rfl
   have e1 : ((sumL gs).map (abE v)).length = hdL gs := by rw [List.length_map, sumL_len]
   have e2 : ((lessL gs l).map (abE v)).length = hdL gs := by rw [List.length_map, hll]
   have lb := ldT_rg (at_ok (cfg_ok w0) cs47) (at_sp h0 (cs47_gd h0)) (N := (fnOf Tryz.f47).ntmps) (rel := rel47b) (B := lpB 2 (fnOf Tryz.f47).body) (id := 2) (k := hdL gs) (by omega) (st47b ⟨(hdG gs).w, (hdG gs).h, sumL gs⟩ ((lessL gs l).map (abE v)) ((sumL gs).map (abE v))) (fun j (out : List (Tup ptK)) => (X.normal, bif pP v (sumL gs) (lessL gs l) j then out ++ [cellP (hdG gs).w (j : Int)] else out)) (fun j a => a.length ≤ j)
    (fun j a hj hi => .leaf (by
     have hi : a.length ≤ j := hi
     refine (round47b ..).trans ?_
     unfold tree47b
     rw [e1, lt_t hj, inF_nat (by omega), inF_nat (by omega), Int.toNat_natCast, roomQ_ok (by omega), decide_eq_false hw]
     unfold pP
     generalize b1 (nth ((sumL gs).map (abE v)) j) = c1
     generalize b1 (nth ((lessL gs l).map (abE v)) j) = c2
     cases c1 <;> cases c2 <;> rfl)) (fun j a a' _ hi h => by
      have hi : a.length ≤ j := hi
      cases h
      cases pP v (sumL gs) (lessL gs l) j
      ·show a.length ≤ j + 1; omega
      ·show (a ++ [cellP (hdG gs).w (j : Int)]).length ≤ j + 1
       rw [List.length_append]
       show a.length + 1 ≤ j + 1; omega)
    (fun a _ => .leaf ((round47b ..).trans (by unfold tree47b; rw [e1, ge_f]; rfl))) (a0 := []) (Nat.le_refl 0) hrb
   refine fnD_t (cfg_ok w0) h0 (cs47_gd h0) (fd := fnOf Tryz.f47) (o := ob47 gs v l (((l.length : Nat) : Int), lessL gs l) (((hdL gs : Nat) : Int), leavesP gs v l)) rfl ((hb (((l.length : Nat) : Int), lessL gs l) (((hdL gs : Nat) : Int), leavesP gs v l)).trans ?_) ⟨lb, by rw [hz]; exact la, trivial⟩
   unfold tb47
   rw [hs, he, h8, hL, g151_ok (by rw [sumL_len]; exact hd), show smG ⟨(hdG gs).w, (hdG gs).h, (((l.length : Nat) : Int), lessL gs l).2⟩ = true from Nat.ble_eq_true_of_le (by show (lessL gs l).length ≤ _; omega),
    show smG ⟨(hdG gs).w, (hdG gs).h, sumL gs⟩ = true from Nat.ble_eq_true_of_le (by show (sumL gs).length ≤ _; rw [sumL_len]; exact hd)]
   rfl
def oob (gs : List Gr) (i : Int) : Bool := decide (i < 0) || decide (i ≥ (gs.length : Int))
def atL (gs : List Gr) (i : Int) : List (Tup intK) := ((gs[i.toNat]?).getD g0).l
def withX (gs : List Gr) (i v : Int) : List (Tup ptK) × Int := bif e47 gs (oob gs i) v != 0 then ([], e47 gs (oob gs i) v) else bif large gs then ([], 4) else (leavesP gs v (atL gs i), 0)
theorem e47_zero {gs : List Gr} {b : Bool} {v : Int} (h : e47 gs b v = 0) : chkGs gs = 0 ∧ b = false := by
 have h := firstZ_nil h
 exact ⟨h _ (by simp), when_zero (by decide) (h (whenZ b 10) (by simp))⟩
theorem T47_err {gs : List Gr} {i v : Int} (hs : smGs gs = true) (he : (e47 gs (oob gs i) v != 0) = true) : T47e gs i v = some (.tup [nilD, I (e47 gs (oob gs i) v)]) := by
 unfold T47e h47e
 unfold oob at he ⊢
 rw [hs]
 cases hi : decide (i < 0) with
 | true => rw [hi] at he; simp only [Bool.true_or] at he ⊢; rw [he]; rfl
 | false => rw [hi] at he; simp only [Bool.false_or] at he ⊢; rw [he]; rfl
theorem badC_gd (g : Nat) : Gd (cfg w0) (badC g) := fun ds d hd => by cases hd
theorem cs47e_gd (h0 : Lib0 w0) : Gds (cfg w0) cs47e := ⟨gd127 h0, gd132 h0, gd99 h0, gd100 h0, badC_gd 128, trivial⟩
def c47 : Ct := gsK 47 [.c ik, .c ik] fun gs a => .br (len17 gs && smGs gs) (.leaf (ptE (withX gs a.1 a.2.1))) .bad
theorem gd47 (h0 : Lib0 w0) : Gd (cfg w0) c47 := by
 have go := fun {ds : List D} {d : D} (h : bodyK ((cfg w0).at cs47e) 60 (fnOf Tryz.f47) ds = some d) => fnD_k (cfg_ok w0) h0 (cs47e_gd h0) (g := 47) (fd := fnOf Tryz.f47) rfl h
 have err : ∀ {gs : List Gr} {i v : Int} {d : D}, smGs gs = true → (e47 gs (oob gs i) v != 0) = true → bodyK ((cfg w0).at cs47e) 60 (fnOf Tryz.f47) [d, I i, I v] = T47e gs i v → FnD (cfg w0) 47 [d, I i, I v] (ptE (withX gs i v)) := fun hs he hr => by
  unfold withX
  rw [he]
  exact fn_nilP (go (hr.trans (T47_err hs he)))
 refine gd_gs (fun a d hd => by cases hd; exact err (gs := []) rfl rfl (run47_n ..)) (fun a d hd => by cases hd; exact err (gs := []) rfl rfl (run47_e ..)) fun gs hne a d hd => ?_
 obtain ⟨hg, hd⟩ := br_run hd
 cases hd
 rw [Bool.and_eq_true] at hg
 obtain ⟨i, v, u⟩ := a
 show FnD (cfg w0) 47 [slG gs, I i, I v] (ptE (withX gs i v))
 have h4 := hg.1
 unfold len17 at h4
 rw [Bool.or_eq_true] at h4
 cases he : (e47 gs (oob gs i) v != 0) with
 | true =>
   rcases h4 with h4 | h4
   ·rcases four h4 hne with ⟨a, rfl⟩ | ⟨a, b, rfl⟩ | ⟨a, b, c, rfl⟩ | ⟨a, b, c, e, rfl⟩
    ·exact err hg.2 he (run47_1 ..)
    ·exact err hg.2 he (run47_2 ..)
    ·exact err hg.2 he (run47_3 ..)
    ·exact err hg.2 he (run47_4 ..)
   ·obtain ⟨g1, g2, g3, g4, g5, g6, g7, g8, g9, g10, g11, g12, g13, g14, g15, g16, g17, rfl⟩ := seventeen (Nat.eq_of_beq_eq_true h4)
    exact err hg.2 he (run47_17 ..)
 | false =>
   have hz := e47_zero (gs := gs) (b := oob gs i) (v := v) (by simpa using he)
   have h8 := chk_g128 hg.1 hz.1
   obtain ⟨_, _, hall⟩ := chkGs_zero hz.1
   have hE : e47 gs false v = 0 := by
    have := hz.2; rw [this] at he; simpa using he
   have hob := hz.2
   unfold oob at hob
   simp only [Bool.or_eq_false_iff, decide_eq_false_iff_not] at hob
   have hX : withX gs i v = bif large gs then ([], 4) else (leavesP gs v (atL gs i), 0) := by
    unfold withX; rw [he]; rfl
   rw [hX]
   have hdw : (hdG gs).w ≠ 0 := by
    have hc : chkG (hdG gs) = 0 := by
     cases gs with
     | nil => exact absurd rfl hne
     | cons g r => exact (hall g (by simp)).1
    have := (chk_len hc).2.1
    omega
   have hel : ∀ g ∈ gs, g.l.length = hdL gs := fun g hx => Nat.eq_of_beq_eq_true (List.all_eq_true.1 (g128_le h8).2.2 g hx)
   obtain ⟨k, rfl⟩ : ∃ k : Nat, (show Int from i) = (k : Int) := Int.eq_ofNat_of_zero_le (Int.not_lt.1 hob.1)
   rcases four (g128_le h8).2.1 hne with ⟨a, rfl⟩ | ⟨a, b, rfl⟩ | ⟨a, b, c, rfl⟩ | ⟨a, b, c, e, rfl⟩
   ·match k, hob.2 with
    | 0, _ => exact fn47 h0 (l := a.l) hg.2 hE h8 (hel a (by simp)) hdw (fun v j all l o => round47a_1 ..) (fun p q => body47_1_0 ..)
    | k + 1, h => exact absurd (show (((k + 1 : Nat) : Int)) ≥ (([a] : List Gr).length : Int) by simp only [List.length_cons, List.length_nil]; omega) h
   ·match k, hob.2 with
    | 0, _ => exact fn47 h0 (l := a.l) hg.2 hE h8 (hel a (by simp)) hdw (fun v j all l o => round47a_2 ..) (fun p q => body47_2_0 ..)
    | 1, _ => exact fn47 h0 (l := b.l) hg.2 hE h8 (hel b (by simp)) hdw (fun v j all l o => round47a_2 ..) (fun p q => body47_2_1 ..)
    | k + 2, h => exact absurd (show (((k + 2 : Nat) : Int)) ≥ (([a, b] : List Gr).length : Int) by simp only [List.length_cons, List.length_nil]; omega) h
   ·match k, hob.2 with
    | 0, _ => exact fn47 h0 (l := a.l) hg.2 hE h8 (hel a (by simp)) hdw (fun v j all l o => round47a_3 ..) (fun p q => body47_3_0 ..)
    | 1, _ => exact fn47 h0 (l := b.l) hg.2 hE h8 (hel b (by simp)) hdw (fun v j all l o => round47a_3 ..) (fun p q => body47_3_1 ..)
    | 2, _ => exact fn47 h0 (l := c.l) hg.2 hE h8 (hel c (by simp)) hdw (fun v j all l o => round47a_3 ..) (fun p q => body47_3_2 ..)
    | k + 3, h => exact absurd (show (((k + 3 : Nat) : Int)) ≥ (([a, b, c] : List Gr).length : Int) by simp only [List.length_cons, List.length_nil]; omega) h
   ·match k, hob.2 with
    | 0, _ => exact fn47 h0 (l := a.l) hg.2 hE h8 (hel a (by simp)) hdw (fun v j all l o => round47a_4 ..) (fun p q => body47_4_0 ..)
    | 1, _ => exact fn47 h0 (l := b.l) hg.2 hE h8 (hel b (by simp)) hdw (fun v j all l o => round47a_4 ..) (fun p q => body47_4_1 ..)
    | 2, _ => exact fn47 h0 (l := c.l) hg.2 hE h8 (hel c (by simp)) hdw (fun v j all l o => round47a_4 ..) (fun p q => body47_4_2 ..)
    | 3, _ => exact fn47 h0 (l := e.l) hg.2 hE h8 (hel e (by simp)) hdw (fun v j all l o => round47a_4 ..) (fun p q => body47_4_3 ..)
    | k + 4, h => exact absurd (show (((k + 4 : Nat) : Int)) ≥ (([a, b, c, e] : List Gr).length : Int) by simp only [List.length_cons, List.length_nil]; omega) h
def pR (v : Int) (all rest : List (Tup intK)) (j : Nat) : Bool := decide (levB (i1 (nth all j)) ≥ v) && decide (levB (i1 (nth rest j)) < v)
def leavesR (gs : List Gr) (i v : Int) : List (Tup ptK) := pick (pR v (refL gs (-1)) (refL gs i)) (hdG gs).w (hdL gs)
def withXR (gs : List Gr) (i v : Int) : List (Tup ptK) × Int := bif anyL (refL gs (-1)) then ([], 4) else (leavesR gs i v, 0)
end
end Go.Proofs.YthcpfignhalffaaGreatDoor
namespace Go.Proofs.YthcpfignhalffaaGreatDoor
open Go Go.Am
set_option maxRecDepth 100000
variable {w0 : World}
noncomputable section
def endS (gs : List Gr) (x y i v : Int) (one : Int) (sum : Gr) (two : Int) (sh : List (Tup ptK)) (loud : List (Tup intK)) (four : Int) (wi : List (Tup ptK)) : Option D :=
 bif smG (addX gs).1 then bif wholeB (addX gs).1 (addX gs).2 one sum then
  bif Nat.ble (shX gs x y).1.length 100000 then bif sameP (shX gs x y).1 sh then
   bif (shX gs x y).2 == two then
    bif Nat.ble (loudX gs).1.length 100000 then bif listB (loudX gs).1 (loudX gs).2 (chkGs gs) loud then
     bif Nat.ble (withX gs i v).1.length 100000 then bif cellsB (withX gs i v).1 (withX gs i v).2 four wi then some (Bo true) else some (Bo false) else none
    else some (Bo false) else none
   else some (Bo false)
  else some (Bo false) else none
 else some (Bo false) else none
def s4 (gs : List Gr) (x y i v : Int) (b : Bool) (one : Int) (sum : Gr) (two : Int) (sh : List (Tup ptK)) (loud : List (Tup intK)) : Option D :=
 bif e47 gs b v == 0 then bif g128 gs && (chkGs gs == 0) then endS gs x y i v one sum two sh loud (withXR gs i v).2 (withXR gs i v).1 else none
 else endS gs x y i v one sum two sh loud (e47 gs b v) []
def s2 (gs : List Gr) (x y i v : Int) (b : Bool) (one : Int) (sum : Gr) (two : Int) (loud : List (Tup intK)) : Option D :=
 bif two == 0 then bif len4 gs && ((chkGs gs == 0) && hasB (hdG gs) x y) then s4 gs x y i v b one sum (shT gs x y).2 (shT gs x y).1 loud else none
 else s4 gs x y i v b one sum two [] loud
def s1 (gs : List Gr) (x y i v : Int) (b : Bool) : Option D :=
 bif chkGs gs == 0 then bif g128 gs then bif g128 gs then s2 gs x y i v b (addXR gs).2 (addXR gs).1 (whenZ (!hasB (hdG gs) x y) 10) (loudL gs) else none else none
 else s2 gs x y i v b (chkGs gs) g0 (chkGs gs) []
end
end Go.Proofs.YthcpfignhalffaaGreatDoor
