/-
  A part of the proof of the statement that the claim names: see the last file.
-/
import Derived.Test.YthcpfignhalffaaGreatDoorP2
import Derived.Test.YthcpfignhalffaaGreatDoorAm4
namespace Go.Proofs.YthcpfignhalffaaGreatDoor
open Go Go.Am
set_option maxRecDepth 100000
variable {w0 : World}
noncomputable section


def lvE (n last : Int) : Int := firstZ [withinZ n 0 maxL, whenZ (decide (n ≤ last)) 11]
def lvF : Int → List Int → Int
  | _, [] => 0
  | last, n :: ns => bif lvE n last != 0 then lvE n last else lvF n ns
def lvL (l : List (Tup intK)) : Int := firstZ [whenZ ((l.length : Int) == 0) 12, whenZ (decide ((l.length : Int) > 8)) 5]
def chkL (l : List (Tup intK)) : Int := bif lvL l != 0 then lvL l else lvF (-1) (l.map i1)
def cs122 : List Ct := [whenC 132, firstC 99, rangeC 100 0 maxL]
theorem cs122_gd (h0 : Lib0 w0) : Gds (cfg w0) cs122 := ⟨gd132 h0, gd99 h0, gd100 h0, trivial⟩
def rel122 : List (Nat × Cv) := [(21, .id), (22, .id), (23, .id), (4, .id), (2, .id)]
def st122 (l : List (Tup intK)) (p : Int × (Int × Int)) : List D := [.vec intK l, I l.length, I p.1, I p.2.1, I p.2.2]
def tree122 (l : List (Tup intK)) (j last e : Int) : Rn :=
  bif decide (j < l.length) then bif inO l j then
    bif lvE (i1 (nth l j.toNat)) last != 0 then some ([], .ret, st122 l (j, (last, lvE (i1 (nth l j.toNat)) last))) else some ([], .normal, st122 l (W (j + 1), (i1 (nth l j.toNat), e)))
  else none else some ([], .exit 0, st122 l (j, (last, e)))
theorem round122 (l : List (Tup intK)) (j last e : Int) : rndD ((cfg w0).at cs122) 40 [] 40 (fnOf Tryz.f122).ntmps rel122 (lpB 0 (fnOf Tryz.f122).body) (st122 l (j, (last, e))) = tree122 l j last e := by kernel_rfl
theorem body122 (l : List (Tup intK)) (x : X) (p : Int × (Int × Int)) (hx : x = .ret ∨ x = .normal) : bodyT ((cfg w0).at cs122) 40 [ldP 0 (fnOf Tryz.f122).ntmps rel122 x (st122 l p)] 40 (fnOf Tryz.f122) [.vec intK l] =
    bif lvL l != 0 then some ([], I (lvL l)) else some ([(ldP 0 (fnOf Tryz.f122).ntmps rel122 x (st122 l p), .loop (lpB 0 (fnOf Tryz.f122).body), st122 l (0, (-1, 0)))], onX x (I p.2.2) (I 0)) := by
  rcases hx with rfl | rfl <;> kernel_rfl
theorem lvRun : ∀ (l : List (Tup intK)) (i : Nat) (last e : Int), ∃ (q : Nat) (la : Int), lsRun 0 (fun (x : Tup intK) (s : Int × Int) => bif lvE (i1 x) s.1 != 0 then (X.ret, (s.1, lvE (i1 x) s.1)) else (.normal, (i1 x, s.2))) l i (last, e) =
    bif lvF last (l.map i1) != 0 then (.ret, ((q : Int), (la, lvF last (l.map i1)))) else (.exit 0, (((i + l.length : Nat) : Int), (la, e)))
  | [], i, last, e => ⟨0, last, rfl⟩
  | x :: xs, i, last, e => by
    obtain ⟨q, la, hq⟩ := lvRun xs (i + 1) (i1 x) e
    unfold lsRun
    rw [List.map_cons]
    unfold lvF
    cases hx : (lvE (i1 x) last != 0) with
    | true => exact ⟨i, last, by simp only [hx, cond_true]⟩
    | false =>
      refine ⟨q, la, ?_⟩
      simp only [cond_false]
      rw [hq]
      simp only [List.length_cons, show i + 1 + xs.length = i + (xs.length + 1) by omega]
theorem fn122 (h0 : Lib0 w0) (l : List (Tup intK)) (hl : l.length ≤ 100000) : FnD (cfg w0) 122 [.vec intK l] (I (chkL l)) := by
  unfold chkL
  cases he : (lvL l != 0) with
  | true =>
    refine fnD_t (cfg_ok w0) h0 (cs122_gd h0) (fd := fnOf Tryz.f122) rfl (L := [ldP 0 (fnOf Tryz.f122).ntmps rel122 .normal (st122 l (0, (0, 0)))]) (o := []) ((body122 l .normal (0, (0, 0)) (.inr rfl)).trans ?_) trivial
    rw [he]; rfl
  | false =>
    refine fn_ls h0 (cs122_gd h0) (fd := fnOf Tryz.f122) rfl rel122 l (by omega) (st122 l) (fun (x : Tup intK) (s : Int × Int) => bif lvE (i1 x) s.1 != 0 then (X.ret, (s.1, lvE (i1 x) s.1)) else (.normal, (i1 x, s.2))) (fun _ _ => True) (a0 := (-1, 0)) trivial
      (fun j s hj _ => .leaf (by
        refine (round122 l j s.1 s.2).trans ?_
        unfold tree122
        rw [inO_nat hj, lt_t hj, Int.toNat_natCast]
        cases (lvE (i1 (nth l j)) s.1 != 0) <;> rfl)) (fun _ _ _ _ _ _ => trivial)
      (fun s _ => .leaf ((round122 l _ s.1 s.2).trans (by unfold tree122; rw [ge_f]; rfl))) fun x p hx => ?_
    obtain ⟨q, la, hq⟩ := lvRun l 0 (-1) 0
    rw [hq] at hx
    simp only [cond_false]
    cases hf : (lvF (-1) (l.map i1) != 0) <;> rw [hf] at hx <;> cases hx
    · rw [show lvF (-1) (l.map i1) = 0 by simpa using hf]
      exact (body122 l _ _ (.inr rfl)).trans (by rw [he]; rfl)
    · exact (body122 l _ _ (.inl rfl)).trans (by rw [he]; rfl)
def chkLC (g : Nat) : Ct := ct g [.v intK] fun a => .br (Nat.ble (a.1 : List (Tup intK)).length 100000) (.leaf (I (chkL a.1))) .bad
theorem gd122 (h0 : Lib0 w0) : Gd (cfg w0) (chkLC 122) := gd_sig fun a d hd => by
  obtain ⟨hg, hd⟩ := br_run hd
  cases hd
  exact fn122 h0 a.1 (Nat.le_of_ble_eq_true hg)

def cs36 : List Ct := [rangeC 21 0 maxL]
def rel36 : List (Nat × Cv) := [(0, .id), (3, .id), (2, .id)]
def st36 (l : List (Tup intK)) (p : Int × Int) : List D := [.vec intK l, I p.1, I p.2]
def pv (l : List (Tup intK)) (j : Int) : Int := i1 (nth l (IntKind.i64.wrap (j - 1)).toNat)
def tree36 (l : List (Tup intK)) (j e : Int) : Rn :=
  bif decide (j < l.length) then bif inO l j then
    bif withinZ (i1 (nth l j.toNat)) 0 maxL != 0 then some ([], .ret, st36 l (j, withinZ (i1 (nth l j.toNat)) 0 maxL)) else
    bif decide (j > 0) then bif inO l j then bif inO l (IntKind.i64.wrap (j - 1)) then
      bif decide (i1 (nth l j.toNat) ≤ pv l j) then some ([], .ret, st36 l (j, 11)) else some ([], .normal, st36 l (W (j + 1), e))
    else none else none
    else some ([], .normal, st36 l (W (j + 1), e))
  else none else some ([], .exit 0, st36 l (j, e))
theorem round36 (l : List (Tup intK)) (j e : Int) : rndD ((cfg w0).at cs36) 40 [] 40 (fnOf Tryz.f36).ntmps rel36 (lpB 0 (fnOf Tryz.f36).body) (st36 l (j, e)) = tree36 l j e := by kernel_rfl
theorem body36 (l : List (Tup intK)) (x : X) (p : Int × Int) (hx : x = .ret ∨ x = .normal) : bodyT ((cfg w0).at cs36) 40 [ldP 0 (fnOf Tryz.f36).ntmps rel36 x (st36 l p)] 40 (fnOf Tryz.f36) [.vec intK l] =
    bif (l.length : Int) == 0 then some ([], I 12) else bif decide ((l.length : Int) > 8) then some ([], I 5) else
    some ([(ldP 0 (fnOf Tryz.f36).ntmps rel36 x (st36 l p), .loop (lpB 0 (fnOf Tryz.f36).body), st36 l (0, 0))], onX x (I p.2) (I 0)) := by
  rcases hx with rfl | rfl <;> kernel_rfl


def cs126 : List Ct := [c70]
def rel126 : List (Nat × Cv) := [(1, .id), (2, .id), (3, .id), (10, .id), (11, .id), (9, .id), (8, .id)]
def st126 (l : List (Tup ptK)) (lo hi : Int) (x : List (Tup intK)) (p : Int × (Int × Int)) : List D := [.vec ptK l, I lo, I hi, .ovec intK x, I p.1, .obox [I p.2.1, I p.2.2], .obox [I 0, I 0]]
def prR (x : List (Tup intK)) (lo hi : Int) (j : Nat) : Bool := decide (i1 (nth x j) ≥ lo) && decide (i1 (nth x j) < hi)
def tree126 (l : List (Tup ptK)) (lo hi : Int) (x : List (Tup intK)) (j : Int) (s : Int × Int) : Rn :=
  bif decide (j < x.length) then bif inO x j then
    bif decide (i1 (nth x j.toNat) ≥ lo) then bif inO x j then bif decide (i1 (nth x j.toNat) < hi) then
      bif inP l j then bif inP l j then some ([], .normal, st126 l lo hi x (W (j + 1), addS l j.toNat s)) else none else none
    else some ([], .normal, st126 l lo hi x (W (j + 1), s)) else none
    else some ([], .normal, st126 l lo hi x (W (j + 1), s))
  else none else some ([], .exit 0, st126 l lo hi x (j, s))
theorem round126 (l : List (Tup ptK)) (lo hi : Int) (x : List (Tup intK)) (j a b : Int) : rndD ((cfg w0).at cs126) 40 [] 40 (fnOf Tryz.f126).ntmps rel126 (lpB 0 (fnOf Tryz.f126).body) (st126 l lo hi x (j, (a, b))) = tree126 l lo hi x j (a, b) := by kernel_rfl
theorem body126 (g : Gr) (l : List (Tup ptK)) (lo hi : Int) (p : Int × (Int × Int)) : bodyT ((cfg w0).at cs126) 40 [ldP 0 (fnOf Tryz.f126).ntmps rel126 .normal (st126 l lo hi (g.l.map lbE) p)] 40 (fnOf Tryz.f126) [gD g, .vec ptK l, I lo, I hi] =
    bif smG g then some ([(ldP 0 (fnOf Tryz.f126).ntmps rel126 .normal (st126 l lo hi (g.l.map lbE) p), .loop (lpB 0 (fnOf Tryz.f126).body), st126 l lo hi (g.l.map lbE) (0, (0, 0)))], iD p.2) else none := by cases g; kernel_rfl
end
end Go.Proofs.YthcpfignhalffaaGreatDoor

namespace Go.Proofs.YthcpfignhalffaaGreatDoor
open Go Go.Am
set_option maxRecDepth 100000
variable {w0 : World}
noncomputable section


def stp36 (l : List (Tup intK)) (j : Nat) (e : Int) : X × Int :=
  bif withinZ (i1 (nth l j)) 0 maxL != 0 then (X.ret, withinZ (i1 (nth l j)) 0 maxL) else bif decide ((j : Int) > 0) && decide (i1 (nth l j) ≤ i1 (nth l (j - 1))) then (X.ret, 11) else (.normal, e)
def lst36 (l : List (Tup intK)) (i : Nat) : Int := if i = 0 then -1 else i1 (nth l (i - 1))
theorem within_zero {n lo hi : Int} (h : withinZ n lo hi = 0) : lo ≤ n ∧ n ≤ hi := by
  unfold withinZ whenZ at h
  by_cases h1 : n < lo
  · simp [h1] at h
  · by_cases h2 : n > hi
    · simp [h2] at h
    · omega
theorem stp36_eq (l : List (Tup intK)) (j : Nat) (e : Int) : stp36 l j e = bif lvE (i1 (nth l j)) (lst36 l j) != 0 then (X.ret, lvE (i1 (nth l j)) (lst36 l j)) else (.normal, e) := by
  unfold stp36 lvE
  simp only [firstZ]
  cases hw : (withinZ (i1 (nth l j)) 0 maxL != 0) with
  | true => simp only [cond_true, hw]
  | false =>
    have hz := within_zero (show withinZ (i1 (nth l j)) 0 maxL = 0 by simpa using hw)
    simp only [cond_false]
    unfold whenZ lst36
    cases j with
    | zero =>
      have : ¬ i1 (nth l 0) ≤ -1 := by omega
      simp [this]
    | succ j =>
      simp only [show ¬ j + 1 = 0 by omega, if_false]
      rw [decide_eq_true (show (((j + 1 : Nat) : Int)) > 0 by omega), Bool.true_and]
      cases decide (i1 (nth l (j + 1)) ≤ i1 (nth l (j + 1 - 1))) <;> rfl
theorem run36 (l : List (Tup intK)) : ∀ (k i : Nat) (e : Int), ∃ q : Nat, rgRun 0 (stp36 l) k i e = bif lvF (lst36 l i) ((List.range' i k).map fun j => i1 (nth l j)) != 0 then (.ret, ((q : Int), lvF (lst36 l i) ((List.range' i k).map fun j => i1 (nth l j)))) else (.exit 0, (((i + k : Nat) : Int), e))
  | 0, i, e => ⟨0, rfl⟩
  | k + 1, i, e => by
    obtain ⟨q, hq⟩ := run36 l k (i + 1) e
    unfold rgRun
    rw [stp36_eq, List.range'_succ, List.map_cons]
    unfold lvF
    cases hx : (lvE (i1 (nth l i)) (lst36 l i) != 0) with
    | true => exact ⟨i, by simp only [hx, cond_true]⟩
    | false =>
      refine ⟨q, ?_⟩
      simp only [cond_false]
      rw [hq, show lst36 l (i + 1) = i1 (nth l i) by unfold lst36; simp, show i + 1 + k = i + (k + 1) by omega]
theorem map_nth (l : List (Tup intK)) : ((List.range' 0 l.length).map fun j => i1 (nth l j)) = l.map i1 := by
  apply List.ext_getElem?
  intro j
  rw [List.getElem?_map, List.getElem?_map]
  rcases Nat.lt_or_ge j l.length with h | h
  · rw [List.getElem?_range' h, List.getElem?_eq_getElem h]
    simp [nth, h]
  · rw [List.getElem?_eq_none (by simpa using h), List.getElem?_eq_none h]; rfl
theorem W_m1 {j : Nat} (h : 0 < j) (hj : j ≤ 100000) : IntKind.i64.wrap ((j : Int) - 1) = ((j - 1 : Nat) : Int) := by
  rw [show IntKind.i64.wrap ((j : Int) - 1) = (j : Int) - 1 from W_in (by omega)]; omega
theorem fn36 (h0 : Lib0 w0) (l : List (Tup intK)) (hl : l.length ≤ 100000) : FnD (cfg w0) 36 [.vec intK l] (I (chkL l)) := by
  have hcs : Gds (cfg w0) cs36 := ⟨gd21 h0, trivial⟩
  unfold chkL lvL
  simp only [firstZ]
  cases h1 : ((l.length : Int) == 0) with
  | true =>
    refine fnD_t (cfg_ok w0) h0 hcs (fd := fnOf Tryz.f36) rfl (L := [ldP 0 (fnOf Tryz.f36).ntmps rel36 .normal (st36 l (0, 0))]) (o := []) ((body36 l .normal (0, 0) (.inr rfl)).trans ?_) trivial
    rw [h1]; rfl
  | false =>
    cases h2 : decide ((l.length : Int) > 8) with
    | true =>
      refine fnD_t (cfg_ok w0) h0 hcs (fd := fnOf Tryz.f36) rfl (L := [ldP 0 (fnOf Tryz.f36).ntmps rel36 .normal (st36 l (0, 0))]) (o := []) ((body36 l .normal (0, 0) (.inr rfl)).trans ?_) trivial
      rw [h1, h2]; rfl
    | false =>
      show FnD (cfg w0) 36 [.vec intK l] (I (lvF (-1) (l.map i1)))
      refine fn_rg h0 hcs (fd := fnOf Tryz.f36) rfl rel36 l.length (by omega) (st36 l) (stp36 l) (fun _ _ => True) (a0 := 0) trivial
        (fun j e hj _ => .leaf (by
          refine (round36 l j e).trans ?_
          unfold tree36 stp36 pv
          rw [inO_nat hj, lt_t hj, Int.toNat_natCast]
          cases hw : (withinZ (i1 (nth l j)) 0 maxL != 0) with
          | true => rfl
          | false =>
            by_cases hp : 0 < j
            · rw [decide_eq_true (show (j : Int) > 0 by omega), W_m1 hp (by omega), inO_nat (show j - 1 < l.length by omega), Int.toNat_natCast]
              simp only [cond_true, cond_false, Bool.true_and]
              cases decide (i1 (nth l j) ≤ i1 (nth l (j - 1))) <;> rfl
            · rw [decide_eq_false (show ¬ (j : Int) > 0 by omega)]; rfl)) (fun _ _ _ _ _ _ => trivial)
        (fun e _ => .leaf ((round36 l _ e).trans (by unfold tree36; rw [ge_f]; rfl))) fun x p hx => ?_
      obtain ⟨q, hq⟩ := run36 l l.length 0 0
      rw [hq, map_nth, show lst36 l 0 = -1 from rfl] at hx
      cases hf : (lvF (-1) (l.map i1) != 0) <;> rw [hf] at hx <;> cases hx
      · rw [show lvF (-1) (l.map i1) = 0 by simpa using hf]
        exact (body36 l _ _ (.inr rfl)).trans (by rw [h1, h2]; rfl)
      · exact (body36 l _ _ (.inl rfl)).trans (by rw [h1, h2]; rfl)
theorem gd36 (h0 : Lib0 w0) : Gd (cfg w0) (chkLC 36) := gd_sig fun a d hd => by
  obtain ⟨hg, hd⟩ := br_run hd
  cases hd
  exact fn36 h0 a.1 (Nat.le_of_ble_eq_true hg)


def sumB (g : Gr) (lo hi : Int) (l : List (Tup ptK)) : Int × Int := accX (prR (g.l.map lbE) lo hi) l
theorem fn126 (h0 : Lib0 w0) (g : Gr) (l : List (Tup ptK)) (lo hi : Int) (hg : smG g = true) (he : l.length = g.l.length) : FnD (cfg w0) 126 [gD g, .vec ptK l, I lo, I hi] (iD (sumB g lo hi l)) := by
  have hl : g.l.length ≤ 100000 := Nat.le_of_ble_eq_true hg
  have hx : (g.l.map lbE).length = l.length := by rw [List.length_map, he]
  refine fn_rg h0 (cs := cs126) ⟨gd70 h0, trivial⟩ (fd := fnOf Tryz.f126) rfl rel126 l.length (by omega) (st126 l lo hi (g.l.map lbE)) (fun j s => (X.normal, accS (prR (g.l.map lbE) lo hi) l j s)) (fun _ _ => True) (a0 := (0, 0)) trivial
    (fun j s hj _ => .leaf (by
      refine (round126 l lo hi (g.l.map lbE) j s.1 s.2).trans ?_
      unfold tree126 accS prR
      rw [hx, lt_t hj, inO_nat (by omega), inP_nat hj, Int.toNat_natCast]
      cases decide (i1 (nth (g.l.map lbE) j) ≥ lo) <;> cases decide (i1 (nth (g.l.map lbE) j) < hi) <;> rfl)) (fun _ _ _ _ _ _ => trivial)
    (fun s _ => .leaf ((round126 l lo hi (g.l.map lbE) _ s.1 s.2).trans (by unfold tree126; rw [hx, ge_f]; rfl))) fun x p hxx => ?_
  rw [rgRun_fold 0 (h := fun j s => accS (prR (g.l.map lbE) lo hi) l j s) _ _ _ (fun _ _ _ _ => rfl)] at hxx
  cases hxx
  refine (body126 g l lo hi _).trans ?_
  rw [hg]; rfl
def c126 : Ct := gC 126 [.v ptK, .c ik, .c ik] fun g a => .br (smG g && Nat.beq (a.1 : List (Tup ptK)).length g.l.length) (.leaf (iD (sumB g a.2.1 a.2.2.1 a.1))) .bad
theorem gd126 (h0 : Lib0 w0) : Gd (cfg w0) c126 := gd_g fun g a d hd => by
  obtain ⟨hg, hd⟩ := br_run hd
  cases hd
  rw [Bool.and_eq_true] at hg
  exact fn126 h0 g a.1 a.2.1 a.2.2.1 hg.1 (Nat.eq_of_beq_eq_true hg.2)
theorem run38 (g : Gr) (l : List (Tup ptK)) (v : Int) : bodyK ((cfg w0).at [c126]) 40 (fnOf Tryz.f38) [gD g, .vec ptK l, I v] = bif smG g && Nat.beq l.length g.l.length then some (iD (sumB g v 121 l)) else none := by cases g; kernel_rfl
def c38 : Ct := gC 38 [.v ptK, .c ik] fun g a => .br (smG g && Nat.beq (a.1 : List (Tup ptK)).length g.l.length) (.leaf (iD (sumB g a.2.1 121 a.1))) .bad
theorem gd38 (h0 : Lib0 w0) : Gd (cfg w0) c38 := gd_g fun g a d hd => by
  obtain ⟨hg, hd⟩ := br_run hd
  cases hd
  obtain ⟨l, v, u⟩ := a
  have key := run38 (w0 := w0) g l v
  have hg : (smG g && Nat.beq (List.length (α := Tup ptK) l) g.l.length) = true := hg
  rw [hg] at key
  exact fnD_k (cfg_ok w0) h0 (cs := [c126]) ⟨gd126 h0, trivial⟩ (fd := fnOf Tryz.f38) rfl (n := 40) key

def iT (s : Int × Int) : Tup ptK := (s.1, s.2, ())
def cs39 : List Ct := [c126]
def rel39 : List (Nat × Cv) := [(3, .id), (1, .id), (2, .id), (8, .id), (7, .ov ptK)]
def st39 (g : Gr) (l : List (Tup ptK)) (lv : List (Tup intK)) (p : Int × List (Tup ptK)) : List D := [.obox (gcs g), .vec ptK l, .vec intK lv, I p.1, .ovec ptK p.2]
def roomV (o : List (Tup ptK)) : Bool := Nat.ble (o.length * 16) 1000000000000 && Nat.ble o.length 1000000000000
def nx1 (j : Int) : Int := IntKind.i64.wrap (j + 1)
def app39 (g : Gr) (l : List (Tup ptK)) (lv : List (Tup intK)) (j hi : Int) (o : List (Tup ptK)) : Rn :=
  bif inO lv j then bif smG g && Nat.beq l.length g.l.length then
    bif roomV (o ++ [iT (sumB g (i1 (nth lv j.toNat)) hi l)]) then some ([], .normal, st39 g l lv (W (j + 1), o ++ [iT (sumB g (i1 (nth lv j.toNat)) hi l)])) else none
  else none else none
def tree39 (g : Gr) (l : List (Tup ptK)) (lv : List (Tup intK)) (j : Int) (o : List (Tup ptK)) : Rn :=
  bif decide (j < lv.length) then bif decide (nx1 j < lv.length) then bif inO lv (nx1 j) then app39 g l lv j (i1 (nth lv (nx1 j).toNat)) o else none else app39 g l lv j 121 o
  else some ([], .exit 0, st39 g l lv (j, o))
theorem round39 (g : Gr) (l : List (Tup ptK)) (lv : List (Tup intK)) (j : Int) (o : List (Tup ptK)) : rndD ((cfg w0).at cs39) 40 [] 40 (fnOf Tryz.f39).ntmps rel39 (lpB 0 (fnOf Tryz.f39).body) (st39 g l lv (j, o)) = tree39 g l lv j o := by cases g; kernel_rfl
theorem body39 (g : Gr) (l : List (Tup ptK)) (lv : List (Tup intK)) (p : Int × List (Tup ptK)) : bodyT ((cfg w0).at cs39) 40 [ldP 0 (fnOf Tryz.f39).ntmps rel39 .normal (st39 g l lv p)] 40 (fnOf Tryz.f39) [gD g, .vec ptK l, .vec intK lv] =
    some ([(ldP 0 (fnOf Tryz.f39).ntmps rel39 .normal (st39 g l lv p), .loop (lpB 0 (fnOf Tryz.f39).body), st39 g l lv (0, []))], .vec ptK p.2) := by cases g; kernel_rfl


def e33 (g : Gr) (l : List (Tup ptK)) (lv : List (Tup intK)) : Int := firstZ [chkPe g l, chkL lv]
def cs33 : List Ct := [chkC 73, chkPeC 119, chkLC 122, firstC 99, c120]
def rel33 : List (Nat × Cv) := [(3, .id), (1, .id), (2, .id), (29, .id), (30, .id), (31, .id), (10, .ov ptK)]
def st33 (g : Gr) (l : List (Tup ptK)) (lv : List (Tup intK)) (p : Int × List (Tup ptK)) : List D := [.obox (gcs g), .vec ptK l, .vec intK lv, .vec intK lv, I lv.length, I p.1, .ovec ptK p.2]
def app33 (g : Gr) (l : List (Tup ptK)) (lv : List (Tup intK)) (j hi : Int) (o : List (Tup ptK)) : Rn :=
  bif smP l && Nat.beq l.length g.l.length then
    bif roomV (o ++ [iT (accX (prB g (i1 (nth lv j.toNat)) hi) l)]) then some ([], .normal, st33 g l lv (W (j + 1), o ++ [iT (accX (prB g (i1 (nth lv j.toNat)) hi) l)])) else none
  else none
def tree33 (g : Gr) (l : List (Tup ptK)) (lv : List (Tup intK)) (j : Int) (o : List (Tup ptK)) : Rn :=
  bif decide (j < lv.length) then bif inO lv j then bif decide (nx1 j < lv.length) then bif inO lv (nx1 j) then app33 g l lv j (i1 (nth lv (nx1 j).toNat)) o else none else app33 g l lv j 121 o else none
  else some ([], .exit 0, st33 g l lv (j, o))
theorem round33 (g : Gr) (l : List (Tup ptK)) (lv : List (Tup intK)) (j : Int) (o : List (Tup ptK)) : rndD ((cfg w0).at cs33) 40 [] 40 (fnOf Tryz.f33).ntmps rel33 (lpB 0 (fnOf Tryz.f33).body) (st33 g l lv (j, o)) = tree33 g l lv j o := by cases g; kernel_rfl
theorem body33 (g : Gr) (l : List (Tup ptK)) (lv : List (Tup intK)) (p : Int × List (Tup ptK)) : bodyT ((cfg w0).at cs33) 40 [ldP 0 (fnOf Tryz.f33).ntmps rel33 .normal (st33 g l lv p)] 40 (fnOf Tryz.f33) [gD g, .vec ptK l, .vec intK lv] =
    bif smG g then bif chkG g != 0 then some ([], .tup [nilD, I (chkG g)]) else
      bif smP l then bif Nat.ble lv.length 100000 then bif e33 g l lv != 0 then some ([], .tup [nilD, I (e33 g l lv)]) else
      some ([(ldP 0 (fnOf Tryz.f33).ntmps rel33 .normal (st33 g l lv p), .loop (lpB 0 (fnOf Tryz.f33).body), st33 g l lv (0, []))], .tup [.vec ptK p.2, I 0])
    else none else none else none := by cases g; kernel_rfl


theorem run32 (l : List (Tup ptK)) : bodyK ((cfg w0).at []) 40 (fnOf Tryz.f32) [.vec ptK l] = bif roomV ([] ++ l) then some (.vec ptK ([] ++ l)) else none := by kernel_rfl
def c32 : Ct := ct 32 [.v ptK] fun a => .br (smP a.1) (.leaf (.vec ptK a.1)) .bad
theorem roomV_own {l : List (Tup ptK)} (h : l.length ≤ 1000000) : roomV ([] ++ l) = true := by
  unfold roomV
  simp only [List.nil_append, Bool.and_eq_true, Nat.ble_eq]
  omega
theorem gd32 (h0 : Lib0 w0) : Gd (cfg w0) c32 := gd_sig fun a d hd => by
  obtain ⟨hg, hd⟩ := br_run hd
  cases hd
  obtain ⟨l, u⟩ := a
  have key := run32 (w0 := w0) l
  rw [roomV_own (show List.length (α := Tup ptK) l ≤ 1000000 from Nat.le_trans (Nat.le_of_ble_eq_true hg) (by decide))] at key
  exact fnD_k (cfg_ok w0) h0 (cs := []) trivial (fd := fnOf Tryz.f32) rfl (n := 40) key
def numB (have_ e bad want : Int) : Bool := (have_ == (bif bad != 0 then 0 else want)) && (e == bad)
theorem run40 (h e b w : Int) : bodyK ((cfg w0).at []) 40 (fnOf Tryz.f40) [I h, I e, I b, I w] = bif b != 0 then bif h == 0 then some (Bo (e == b)) else some (Bo false) else bif h == w then some (Bo (e == b)) else some (Bo false) := by kernel_rfl
def c40 : Ct := ct 40 [.c ik, .c ik, .c ik, .c ik] fun a => .leaf (Bo (numB a.1 a.2.1 a.2.2.1 a.2.2.2.1))
theorem num_t (h e b w : Int) : (bif b != 0 then bif h == 0 then some (Bo (e == b)) else some (Bo false) else bif h == w then some (Bo (e == b)) else some (Bo false)) = some (Bo (numB h e b w)) := by
  unfold numB
  cases (b != 0)
  · simp only [cond_false]
    cases (h == w) <;> rfl
  · simp only [cond_true]
    cases (h == 0) <;> rfl
theorem gd40 (h0 : Lib0 w0) : Gd (cfg w0) c40 := gd_k h0 (cs := []) trivial (fd := fnOf Tryz.f40) rfl (n := 40) fun a d hd => by
  cases hd
  exact (run40 a.1 a.2.1 a.2.2.1 a.2.2.2.1).trans (num_t ..)
end
end Go.Proofs.YthcpfignhalffaaGreatDoor

namespace Go.Proofs.YthcpfignhalffaaGreatDoor
open Go Go.Am
set_option maxRecDepth 100000
variable {w0 : World}
noncomputable section


def hiZ (lv : List (Tup intK)) (j : Nat) : Int := if j + 1 < lv.length then i1 (nth lv (j + 1)) else 121
def clsR (g : Gr) (l : List (Tup ptK)) (lv : List (Tup intK)) : List (Tup ptK) := (List.range' 0 lv.length).map fun j => iT (sumB g (i1 (nth lv j)) (hiZ lv j) l)
def clsP (g : Gr) (l : List (Tup ptK)) (lv : List (Tup intK)) : List (Tup ptK) := (List.range' 0 lv.length).map fun j => iT (accX (prB g (i1 (nth lv j)) (hiZ lv j)) l)
theorem roomV_ok {o : List (Tup ptK)} {x : Tup ptK} (h : o.length ≤ 1000000) : roomV (o ++ [x]) = true := room h (by omega)
theorem nx1_nat {j : Nat} (h : j ≤ 100000) : nx1 (j : Int) = ((j + 1 : Nat) : Int) := by
  unfold nx1
  rw [show IntKind.i64.wrap ((j : Int) + 1) = (j : Int) + 1 from W_in (by omega)]; rfl
theorem fn39 (h0 : Lib0 w0) (g : Gr) (l : List (Tup ptK)) (lv : List (Tup intK)) (hg : smG g = true) (he : l.length = g.l.length) (hl : lv.length ≤ 100000) : FnD (cfg w0) 39 [gD g, .vec ptK l, .vec intK lv] (.vec ptK (clsR g l lv)) := by
  have hb : (smG g && Nat.beq l.length g.l.length) = true := by rw [hg, he]; simp
  refine fn_rg h0 (cs := cs39) ⟨gd126 h0, trivial⟩ (fd := fnOf Tryz.f39) rfl rel39 lv.length (by omega) (st39 g l lv) (fun j o => (X.normal, o ++ [iT (sumB g (i1 (nth lv j)) (hiZ lv j) l)])) (fun j o => o.length = j) (a0 := []) rfl
    (fun j o hj hi => .leaf (by
      have hi : o.length = j := hi
      refine (round39 g l lv j o).trans ?_
      unfold tree39 app39 hiZ
      rw [lt_t hj, nx1_nat (by omega), hb, inO_nat hj, Int.toNat_natCast, Int.toNat_natCast]
      by_cases hk : j + 1 < lv.length
      · rw [lt_t hk, inO_nat hk, if_pos hk, roomV_ok (by omega)]; rfl
      · rw [decide_eq_false (show ¬ (((j + 1 : Nat) : Int) < (lv.length : Int)) by omega), if_neg hk]; simp only [cond_true, cond_false]; rw [roomV_ok (by omega)]; rfl)) (fun j o o' _ hi h => by cases h; simp [hi])
    (fun o _ => .leaf ((round39 g l lv _ o).trans (by unfold tree39; rw [ge_f]; rfl))) fun x p hx => ?_
  rw [rgRun_fold 0 (h := fun j o => o ++ [iT (sumB g (i1 (nth lv j)) (hiZ lv j) l)]) _ _ _ (fun _ _ _ _ => rfl), foldl_snoc (fun j => iT (sumB g (i1 (nth lv j)) (hiZ lv j) l))] at hx
  cases hx
  exact body39 g l lv _
def c39 : Ct := gC 39 [.v ptK, .v intK] fun g a => .br (smG g && (Nat.beq (a.1 : List (Tup ptK)).length g.l.length && Nat.ble (a.2.1 : List (Tup intK)).length 100000)) (.leaf (.vec ptK (clsR g a.1 a.2.1))) .bad
theorem gd39 (h0 : Lib0 w0) : Gd (cfg w0) c39 := gd_g fun g a d hd => by
  obtain ⟨hg, hd⟩ := br_run hd
  cases hd
  rw [Bool.and_eq_true, Bool.and_eq_true] at hg
  exact fn39 h0 g a.1 a.2.1 hg.1 (Nat.eq_of_beq_eq_true hg.2.1) (Nat.le_of_ble_eq_true hg.2.2)

def clX (g : Gr) (l : List (Tup ptK)) (lv : List (Tup intK)) : List (Tup ptK) × Int := bif chkG g != 0 then ([], chkG g) else bif e33 g l lv != 0 then ([], e33 g l lv) else (clsP g l lv, 0)
theorem cs33_gd (h0 : Lib0 w0) : Gds (cfg w0) cs33 := ⟨gd73 h0, gd119 h0, gd122 h0, gd99 h0, gd120 h0, trivial⟩
theorem fn_nilV {g : FuncId} {ds : List D} {e : Int} (h : FnD (cfg w0) g ds (.tup [nilD, I e])) : FnD (cfg w0) g ds (.tup [.vec ptK [], I e]) := FnD.nil_vec (vs := [.int .i64 e]) rfl (by decide) h
theorem fn33 (h0 : Lib0 w0) (g : Gr) (l : List (Tup ptK)) (lv : List (Tup intK)) (hg : smG g = true) (hP : smP l = true) (hl : Nat.ble lv.length 100000 = true) : FnD (cfg w0) 33 [gD g, .vec ptK l, .vec intK lv] (.tup [.vec ptK (clX g l lv).1, I (clX g l lv).2]) := by
  unfold clX
  cases hc : (chkG g != 0) with
  | true =>
    refine fn_nilV (fnD_t (cfg_ok w0) h0 (cs33_gd h0) (fd := fnOf Tryz.f33) rfl (o := []) ((body33 g l lv (0, [])).trans ?_) trivial)
    rw [hg, hc]; rfl
  | false =>
    cases he : (e33 g l lv != 0) with
    | true =>
      refine fn_nilV (fnD_t (cfg_ok w0) h0 (cs33_gd h0) (fd := fnOf Tryz.f33) rfl (o := []) ((body33 g l lv (0, [])).trans ?_) trivial)
      rw [hg, hc, hP, hl, he]; rfl
    | false =>
      have hln := Nat.le_of_ble_eq_true hl
      have hll := (chkPe_zero (firstZ_nil' (show e33 g l lv = 0 by simpa using he) (chkPe g l) (by simp))).1
      have hb : (smP l && Nat.beq l.length g.l.length) = true := by rw [hP, hll]; simp
      show FnD (cfg w0) 33 [gD g, .vec ptK l, .vec intK lv] (.tup [.vec ptK (clsP g l lv), I 0])
      refine fn_rg h0 (cs33_gd h0) (fd := fnOf Tryz.f33) rfl rel33 lv.length (by omega) (st33 g l lv) (fun j o => (X.normal, o ++ [iT (accX (prB g (i1 (nth lv j)) (hiZ lv j)) l)])) (fun j o => o.length = j) (a0 := []) rfl
        (fun j o hj hi => .leaf (by
          have hi : o.length = j := hi
          refine (round33 g l lv j o).trans ?_
          unfold tree33 app33 hiZ
          rw [lt_t hj, nx1_nat (by omega), hb, inO_nat hj, Int.toNat_natCast, Int.toNat_natCast]
          by_cases hk : j + 1 < lv.length
          · rw [lt_t hk, inO_nat hk, if_pos hk, roomV_ok (by omega)]; rfl
          · rw [decide_eq_false (show ¬ (((j + 1 : Nat) : Int) < (lv.length : Int)) by omega), if_neg hk]; simp only [cond_true, cond_false]; rw [roomV_ok (by omega)]; rfl)) (fun j o o' _ hi h => by cases h; simp [hi])
        (fun o _ => .leaf ((round33 g l lv _ o).trans (by unfold tree33; rw [ge_f]; rfl))) fun x p hx => ?_
      rw [rgRun_fold 0 (h := fun j o => o ++ [iT (accX (prB g (i1 (nth lv j)) (hiZ lv j)) l)]) _ _ _ (fun _ _ _ _ => rfl), foldl_snoc (fun j => iT (accX (prB g (i1 (nth lv j)) (hiZ lv j)) l))] at hx
      cases hx
      refine (body33 g l lv _).trans ?_
      rw [hg, hc, hP, hl, he]; rfl
def c33 : Ct := gC 33 [.v ptK, .v intK] fun g a => .br (smG g && (smP a.1 && Nat.ble (a.2.1 : List (Tup intK)).length 100000)) (.leaf (.tup [.vec ptK (clX g a.1 a.2.1).1, I (clX g a.1 a.2.1).2])) .bad
theorem gd33 (h0 : Lib0 w0) : Gd (cfg w0) c33 := gd_g fun g a d hd => by
  obtain ⟨hg, hd⟩ := br_run hd
  cases hd
  rw [Bool.and_eq_true, Bool.and_eq_true] at hg
  exact fn33 h0 g a.1 a.2.1 hg.1 hg.2.1 hg.2.2
end
end Go.Proofs.YthcpfignhalffaaGreatDoor
