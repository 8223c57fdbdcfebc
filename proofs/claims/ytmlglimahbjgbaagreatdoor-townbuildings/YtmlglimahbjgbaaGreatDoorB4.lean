/-
  A part of the proof of the statement that the claim names: see the last file.
-/
import Derived.Test.YtmlglimahbjgbaaGreatDoorB3
namespace Go.Proofs.YtmlglimahbjgbaaGreatDoor
open Go Go.Am Go.Town
set_option maxRecDepth 100000
variable {w0 : World}
noncomputable section


def cs92 : List Ct := [c156]
def wA (w : Tup wallK) : D := .agg (wcs w)

theorem run92 (b : Bd) (i : Int) : bodyK ((cfg w0).at cs92) 40 (fnOf Tryz.f92) [bD b, I i] =
    bif Nat.ble (b.nm.size + us.size) 9223372036854775807 then
      bif inW i then
        bif Nat.ble ((b.nm ++ us).size + (txt i).size) 9223372036854775807 then
          bif (Nat.beq 2 2 && (decide (0 ≤ i) && decide (i < b.cs.length))) then
            bif decide ((b.cs.length : Int) = 0) then none else
              bif (Nat.beq 2 2 && (decide (0 ≤ (W (i + 1)).tmod (b.cs.length : Int)) && decide ((W (i + 1)).tmod (b.cs.length : Int) < b.cs.length))) then
                some (wA (edgeI b i))
              else none
          else none
        else none
      else none
    else none := by cases b; kernel_rfl

theorem fn92 (h0 : Lib0 w0) (b : Bd) (j : Nat) (hs : smallB b = true) (hj : j < b.cs.length) : FnD (cfg w0) 92 [bD b, I j] (wA (edgeT b j)) := by
  have hs' := hs
  simp only [smallB, Bool.and_eq_true, Nat.ble_eq] at hs'
  have h0' : j < 1000000 := by omega
  have h1 : Nat.ble (b.nm.size + us.size) 9223372036854775807 = true := Nat.ble_eq_true_of_le (by rw [us_size]; omega)
  have h2 : Nat.ble ((b.nm ++ us).size + (txt j).size) 9223372036854775807 = true := Nat.ble_eq_true_of_le (by
    have := txt_size j
    rw [ByteArray.size_append, us_size]
    omega)
  have h3 : decide ((b.cs.length : Int) = 0) = false := decide_eq_false (by omega)
  have h4 : (Nat.beq 2 2 && (decide (0 ≤ (W ((j : Int) + 1)).tmod (b.cs.length : Int)) && decide ((W ((j : Int) + 1)).tmod (b.cs.length : Int) < b.cs.length))) = true := by
    rw [W_nat (by omega), tmod_n]
    exact inb 2 (Nat.mod_lt _ (by omega))
  refine fnD_k (cfg_ok w0) h0 (cs := cs92) ⟨gd156 h0, trivial⟩ (fd := fnOf Tryz.f92) rfl (n := 40) ((run92 b j).trans ?_)
  rw [h1, inW_nat h0', h2, inb 2 hj, h3, h4, edgeI_nat h0']
  rfl

def inC (b : Bd) (i : Int) : Bool := decide (0 ≤ i) && decide (i < b.cs.length)
def c92 : Ct := ct 92 [.x, .c ik] fun a => match asB a.1 with
  | some b => .br (smallB b && inC b a.2.1) (.leaf (wA (edgeT b (show Int from a.2.1).toNat))) .bad
  | none => .bad
theorem gd92 (h0 : Lib0 w0) : Gd (cfg w0) c92 := gd_sig fun a d hd => by
  obtain ⟨x, i, u⟩ := a
  simp only at hd
  cases hb : asB x with
  | none => rw [hb] at hd; cases hd
  | some b =>
    rw [hb] at hd
    obtain ⟨hg, hd⟩ := br_run hd
    cases hd
    cases asB_eq hb
    unfold inC at hg
    simp only [Bool.and_eq_true, decide_eq_true_eq] at hg
    obtain ⟨hs, h1, h2⟩ := hg
    obtain ⟨j, hj⟩ : ∃ j : Nat, ((j : Int) : El ik) = i := ⟨Int.toNat i, Int.toNat_of_nonneg h1⟩
    subst hj
    exact fn92 h0 b j hs (Int.ofNat_lt.1 h2)


def cs73 : List Ct := [c92, ⟨22, tG rsideF⟩]
theorem cs73_gd (h0 : Lib0 w0) : Gds (cfg w0) cs73 := ⟨gd92 h0, gd_of (rside_good h0), trivial⟩
def rel73 : List (Nat × Cv) := [(2, .id), (3, .id), (5, .ov intK), (6, .id)]
def pcs (p : Tup ptK) : List D := [I p.1, I p.2.1]
def st73 (b : Bd) (p : Tup ptK) (a : Int × List (Tup intK)) : List D := [.obox (bcs b), .obox (pcs p), .ovec intK a.2, I a.1]


def sgS (w : Tup wallK) (p : Tup ptK) : Int := sgnZ (sideZ w.2.1 w.2.2.1 w.2.2.2.1 w.2.2.2.2.1 p.1 p.2.1 1)
theorem sgS_lt (w : Tup wallK) (p : Tup ptK) : decide (sgS w p < 0) = decide (sdW w p < 0) := by
  show decide (sgnZ (sdW w p) < 0) = _
  unfold sgnZ
  generalize sdW w p = x
  by_cases h : 0 < x
  · simp [h]; omega
  · by_cases h2 : x < 0
    · simp [h, h2]
    · simp [h, h2]
theorem sgS_ne (w : Tup wallK) (p : Tup ptK) : (sgS w p != 1) = decide (sdW w p ≤ 0) := by
  show (sgnZ (sdW w p) != 1) = _
  unfold sgnZ
  generalize sdW w p = x
  by_cases h : 0 < x
  · simp [h]
  · by_cases h2 : x < 0
    · simp [h, h2]; omega
    · simp [h, h2]; omega

theorem round73 (b : Bd) (p : Tup ptK) (j : Int) (out : List (Tup intK)) : rndD ((cfg w0).at cs73) 40 [] 40 (fnOf Tryz.f73).ntmps rel73 (lpB 0 (fnOf Tryz.f73).body) (st73 b p (j, out)) =
    bif decide (j < b.cs.length) then
      bif smallB b && inC b j then
        bif decide (sgS (edgeT b j.toNat) p < 0) then
          bif (Nat.ble ((out ++ [t1 j]).length * 8) 1000000000000 && Nat.ble (out ++ [t1 j]).length 1000000000000) then some ([], .normal, st73 b p (W (j + 1), out ++ [t1 j])) else none
        else some ([], .normal, st73 b p (W (j + 1), out))
      else none
    else some ([], .exit 0, st73 b p (j, out)) := by cases b; kernel_rfl

theorem body73 (b : Bd) (p : Tup ptK) (q : Int × List (Tup intK)) : bodyT ((cfg w0).at cs73) 40 [ldP 0 (fnOf Tryz.f73).ntmps rel73 .normal (st73 b p q)] 40 (fnOf Tryz.f73) [bD b, ptA p] =
    some ([(ldP 0 (fnOf Tryz.f73).ntmps rel73 .normal (st73 b p q), .loop (lpB 0 (fnOf Tryz.f73).body), st73 b p (0, []))], .vec intK q.2) := by cases b; kernel_rfl

theorem inC_nat {b : Bd} {j : Nat} (h : j < b.cs.length) : inC b (j : Int) = true := by
  unfold inC
  simp only [Bool.and_eq_true, decide_eq_true_eq]
  omega

theorem sides_nth {b : Bd} {p : Tup ptK} {j : Nat} (h : j < b.cs.length) : i1 (nth (sidesB b p) j) = sdW (edgeT b j) p := by
  have : nth (sidesB b p) j = sdT p (edgeT b j) := by
    unfold sidesB
    simp [nth, edges, h]
  rw [this]; rfl

theorem fn73 (h0 : Lib0 w0) (b : Bd) (p : Tup ptK) (hs : smallB b = true) : FnD (cfg w0) 73 [bD b, ptA p] (.vec intK (facL (sidesB b p))) := by
  have hs' := hs
  simp only [smallB, Bool.and_eq_true, Nat.ble_eq] at hs'
  refine fn_rg h0 (cs73_gd h0) (fd := fnOf Tryz.f73) rfl rel73 b.cs.length (by omega) (st73 b p) (fun j out => (X.normal, bif decide (i1 (nth (sidesB b p) j) < 0) then out ++ [t1 j] else out)) (fun j a => a.length ≤ j) (a0 := []) (Nat.le_refl _)
    (fun j a hj hi => .leaf (by
      have hi : a.length ≤ j := hi
      rw [round73, hs, inC_nat hj, lt_t hj, Int.toNat_natCast, sgS_lt, room (by omega) (by omega), sides_nth hj]
      cases decide (sdW (edgeT b j) p < 0) <;> rfl)) (fun j a a' _ hi h => by cases h; exact step_len hi)
    (fun a _ => .leaf (by rw [round73, ge_f]; rfl)) fun x q hx => ?_
  rw [rgRun_fold 0 (h := fun j out => bif decide (i1 (nth (sidesB b p) j) < 0) then out ++ [t1 j] else out) _ _ _ (fun _ _ _ _ => rfl)] at hx
  cases hx
  have e : facL (sidesB b p) = (List.range' 0 b.cs.length).foldl (fun out j => bif decide (i1 (nth (sidesB b p) j) < 0) then out ++ [t1 j] else out) [] := by unfold facL; rw [sides_len]
  rw [e]
  exact body73 b p _

def c73 : Ct := bpC 73 fun b p => .br (smallB b) (.leaf (.vec intK (facL (sidesB b p)))) .bad
theorem gd73 (h0 : Lib0 w0) : Gd (cfg w0) c73 := gd_bp fun b p d hd => by
  obtain ⟨hg, hd⟩ := br_run hd
  cases hd
  exact fn73 h0 b p hg


def rel70a : List (Nat × Cv) := [(1, .id), (4, .id), (5, .id), (2, .id)]
def st70a (b : Bd) (a : Int × Int) : List D := [.obox (bcs b), I b.cs.length, I a.1, I a.2]
def rel70b : List (Nat × Cv) := [(1, .id), (4, .id), (7, .id), (2, .id)]
def rel70i : List (Nat × Cv) := [(1, .id), (4, .id), (7, .id), (8, .id), (2, .id)]
def st70i (b : Bd) (i : Int) (a : Int × Int) : List D := [.obox (bcs b), I b.cs.length, I i, I a.1, I a.2]
def cs70 : List Ct := [c92, ⟨22, tG rsideF⟩, ⟨20, tG checkPointF⟩, firstC 108, ⟨144, tG nameF⟩, ⟨54, tG whenF⟩, ⟨32, tG (intsF withinK)⟩]
theorem cs70_gd (h0 : Lib0 w0) : Gds (cfg w0) cs70 := ⟨gd92 h0, gd_of (rside_good h0), gd_of (rcheckPoint_good h0), gd108 h0, gd_of (rname_good h0), gd_of (rwhen_good h0), gd_of (range_good h0), trivial⟩

def ePt (p : Tup ptK) : Int := chkPoint p.1 p.2.1

theorem round70a (b : Bd) (j r : Int) : rndD ((cfg w0).at cs70) 40 [] 40 (fnOf Tryz.f70).ntmps rel70a (lpB 0 (fnOf Tryz.f70).body) (st70a b (j, r)) =
    bif decide (j < b.cs.length) then
      bif (Nat.beq 2 2 && (decide (0 ≤ j) && decide (j < b.cs.length))) then
        bif ePt (nth b.cs (j.toNat + 0)) != 0 then some ([], .ret, st70a b (j, ePt (nth b.cs (j.toNat + 0)))) else some ([], .normal, st70a b (W (j + 1), r))
      else none
    else some ([], .exit 0, st70a b (j, r)) := by cases b; kernel_rfl

theorem round70i (b : Bd) (i j r : Int) : rndD ((cfg w0).at cs70) 40 [] 40 (fnOf Tryz.f70).ntmps rel70i (lpB 4 (fnOf Tryz.f70).body) (st70i b i (j, r)) =
    bif decide (j < b.cs.length) then
      bif j != i then
        bif decide ((b.cs.length : Int) = 0) then none else
          bif j != (W (i + 1)).tmod (b.cs.length : Int) then
            bif smallB b && inC b i then
              bif (Nat.beq 2 2 && (decide (0 ≤ j) && decide (j < b.cs.length))) then
                bif sgS (edgeT b i.toNat) (nth b.cs (j.toNat + 0)) != 1 then some ([], .ret, st70i b i (j, 2)) else some ([], .normal, st70i b i (W (j + 1), r))
              else none
            else none
          else some ([], .normal, st70i b i (W (j + 1), r))
      else some ([], .normal, st70i b i (W (j + 1), r))
    else some ([], .exit 4, st70i b i (j, r)) := by cases b; kernel_rfl

def ld70i (b : Bd) (i : Int) (x : X) (p : Int × Int) : Ld := ldP 4 (fnOf Tryz.f70).ntmps rel70i x (st70i b i p)
theorem round70n (b : Bd) (i r : Int) (p : Int × Int) : rndD ((cfg w0).at cs70) 40 [ld70i b i .normal p] 40 (fnOf Tryz.f70).ntmps rel70b (lpB 2 (fnOf Tryz.f70).body) (st70a b (i, r)) =
    bif decide (i < b.cs.length) then some ([(ld70i b i .normal p, .loop (lpB 4 (fnOf Tryz.f70).body), st70i b i (0, r))], .normal, st70a b (W (i + 1), p.2))
    else some ([], .exit 2, st70a b (i, r)) := by cases b; kernel_rfl
theorem round70r (b : Bd) (i r : Int) (p : Int × Int) : rndD ((cfg w0).at cs70) 40 [ld70i b i .ret p] 40 (fnOf Tryz.f70).ntmps rel70b (lpB 2 (fnOf Tryz.f70).body) (st70a b (i, r)) =
    bif decide (i < b.cs.length) then some ([(ld70i b i .ret p, .loop (lpB 4 (fnOf Tryz.f70).body), st70i b i (0, r))], .ret, st70a b (i, p.2))
    else some ([], .exit 2, st70a b (i, r)) := by cases b; kernel_rfl

def la70 (b : Bd) (x : X) (p : Int × Int) : Ld := ldP 0 (fnOf Tryz.f70).ntmps rel70a x (st70a b p)
def lb70 (b : Bd) (x : X) (p : Int × Int) : Ld := ldP 2 (fnOf Tryz.f70).ntmps rel70b x (st70a b p)
def fin70 (b : Bd) : Int := firstZ [withinZ b.h 1 1000, withinZ b.e 0 1000]
def pre70 (b : Bd) (k : Option (Obs × D)) : Option (Obs × D) :=
  bif (!isName b.nm) then some ([], I (e1n b true)) else bif e1n b (decide ((b.nm.size : Int) > 22)) != 0 then some ([], I (e1n b (decide ((b.nm.size : Int) > 22)))) else k

theorem body70r (b : Bd) (p q : Int × Int) : bodyT ((cfg w0).at cs70) 40 [la70 b .ret p, lb70 b .normal q] 40 (fnOf Tryz.f70) [bD b] =
    pre70 b (some ([(la70 b .ret p, .loop (lpB 0 (fnOf Tryz.f70).body), st70a b (0, 0))], I p.2)) := by cases b; kernel_rfl
theorem body70nr (b : Bd) (p q : Int × Int) : bodyT ((cfg w0).at cs70) 40 [la70 b .normal p, lb70 b .ret q] 40 (fnOf Tryz.f70) [bD b] =
    pre70 b (some ([(lb70 b .ret q, .loop (lpB 2 (fnOf Tryz.f70).body), st70a b (0, p.2)), (la70 b .normal p, .loop (lpB 0 (fnOf Tryz.f70).body), st70a b (0, 0))], I q.2)) := by cases b; kernel_rfl
theorem body70nn (b : Bd) (p q : Int × Int) : bodyT ((cfg w0).at cs70) 40 [la70 b .normal p, lb70 b .normal q] 40 (fnOf Tryz.f70) [bD b] =
    pre70 b (some ([(lb70 b .normal q, .loop (lpB 2 (fnOf Tryz.f70).body), st70a b (0, p.2)), (la70 b .normal p, .loop (lpB 0 (fnOf Tryz.f70).body), st70a b (0, 0))], I (fin70 b))) := by cases b; kernel_rfl

theorem lsRun_err {τ : Type} {id : Nat} (e : τ → Int) : ∀ (l : List τ) (i : Nat) (a : Int), ∃ q : Nat, lsRun id (fun x a => bif e x != 0 then (X.ret, e x) else (.normal, a)) l i a = bif firstZ (l.map e) != 0 then (.ret, ((q : Int), firstZ (l.map e))) else (.exit id, (((i + l.length : Nat) : Int), a))
  | [], i, a => ⟨0, rfl⟩
  | x :: xs, i, a => by
    obtain ⟨q, hq⟩ := lsRun_err (id := id) e xs (i + 1) a
    unfold lsRun
    rw [List.map_cons]
    unfold firstZ
    cases hx : (e x != 0) with
    | true => exact ⟨i, by simp only [hx, cond_true]⟩
    | false =>
      refine ⟨q, ?_⟩
      simp only [cond_false]
      rw [hq]
      simp only [List.length_cons, show i + 1 + xs.length = i + (xs.length + 1) by omega]

def ptsB (b : Bd) : Int := firstZ ((b.cs.map cPt).map i1)
theorem ptsB_eq (b : Bd) : firstZ (b.cs.map ePt) = ptsB b := by unfold ptsB; rw [List.map_map]; rfl

theorem chkB_eq (b : Bd) : chkB b = bif e1B b != 0 then e1B b else bif ptsB b != 0 then ptsB b else bif turnsB b then fin70 b else 2 := by
  unfold chkB
  cases (e1B b != 0) with
  | true => rfl
  | false =>
    simp only [cond_false]
    unfold e2B
    have : firstZ ((b.cs.map cPt).map i1) = ptsB b := rfl
    rw [this]
    unfold fin70
    generalize ptsB b = p
    cases hp : (p != 0) with
    | true => simp [firstZ, hp]
    | false =>
      cases turnsB b with
      | true => simp [firstZ, hp, whenZ]
      | false => simp [firstZ, hp, whenZ]

theorem fn70 (h0 : Lib0 w0) (b : Bd) (hs : smallB b = true) : FnD (cfg w0) 70 [bD b] (I (chkB b)) := by
  have hs' := hs
  simp only [smallB, Bool.and_eq_true, Nat.ble_eq] at hs'
  have hl := hs'.2
  have he : e1B b = e1n b (!isName b.nm || decide ((b.nm.size : Int) > 22)) := rfl
  have hpre : ∀ k, pre70 b k = bif e1B b != 0 then some ([], I (e1B b)) else k := fun k => by
    unfold pre70
    rw [he]
    cases hn : (!isName b.nm) with
    | true => rfl
    | false => simp only [cond_false, Bool.false_or]
  rw [chkB_eq]
  cases hb : (e1B b != 0) with
  | true => exact fnD_t (cfg_ok w0) h0 (cs70_gd h0) (fd := fnOf Tryz.f70) rfl (o := []) ((body70r b (0, 0) (0, 0)).trans (by rw [hpre, hb]; rfl)) trivial
  | false =>
    simp only [cond_false]
    have hA := fun x p => ldT_ls (at_ok (cfg_ok w0) cs70) (at_sp h0 (cs70_gd h0)) (N := (fnOf Tryz.f70).ntmps) (rel := rel70a) (B := lpB 0 (fnOf Tryz.f70).body) (id := 0) b.cs (by omega) (st70a b) (fun p a => bif ePt p != 0 then (X.ret, ePt p) else (.normal, a)) (fun _ _ => True)
      (fun j a hj _ => .leaf (by
        rw [round70a, inb 2 hj, lt_t hj, Int.toNat_natCast, Nat.add_zero]
        cases (ePt (nth b.cs j) != 0) <;> rfl)) (fun _ _ _ _ _ _ => trivial)
      (fun a _ => .leaf (by rw [round70a, ge_f]; rfl)) (a0 := 0) trivial (x := x) (p := p)
    obtain ⟨q, hq⟩ := lsRun_err (id := 0) ePt b.cs 0 0
    rw [ptsB_eq] at hq
    cases hp : (ptsB b != 0) with
    | true =>
      rw [hp] at hq
      exact fnD_t (cfg_ok w0) h0 (cs70_gd h0) (fd := fnOf Tryz.f70) rfl ((body70r b ((q : Int), ptsB b) (0, 0)).trans (by rw [hpre, hb]; rfl)) (by exact ⟨hA _ _ hq, trivial⟩)
    | false =>
      rw [hp] at hq
      simp only [cond_false]
      have hB := fun x p => ldT_rg (at_ok (cfg_ok w0) cs70) (at_sp h0 (cs70_gd h0)) (N := (fnOf Tryz.f70).ntmps) (rel := rel70b) (B := lpB 2 (fnOf Tryz.f70).body) (id := 2) (k := b.cs.length) (by omega) (st70a b) (fun i r => bif badE b i then (X.ret, (2 : Int)) else (.normal, r)) (fun _ _ => True)
        (fun i r hi _ => by
          obtain ⟨q, hq⟩ := rgRun_any (id := 4) (p := badT b (edgeT b i) i) (c := (2 : Int)) b.cs.length 0 r
          have key := fun x p => ldT_rg (at_ok (cfg_ok w0) cs70) (at_sp h0 (cs70_gd h0)) (N := (fnOf Tryz.f70).ntmps) (rel := rel70i) (B := lpB 4 (fnOf Tryz.f70).body) (id := 4) (k := b.cs.length) (by omega) (st70i b i) (fun k r => bif badT b (edgeT b i) i k then (X.ret, (2 : Int)) else (.normal, r)) (fun _ _ => True)
            (fun k r hk _ => .leaf (by
              have h3 : decide ((b.cs.length : Int) = 0) = false := decide_eq_false (by omega)
              rw [round70i, inb 2 hk, lt_t hk, h3, W_nat (by omega), tmod_n, bne_nat, bne_nat, Int.toNat_natCast, Int.toNat_natCast, Nat.add_zero, sgS_ne, hs, inC_nat hi]
              unfold badT
              cases (k != i) with
              | false => rfl
              | true =>
                cases (k != (i + 1) % b.cs.length) with
                | false => rfl
                | true => cases decide (sdW (edgeT b i) (nth b.cs k) ≤ 0) <;> rfl)) (fun _ _ _ _ _ _ => trivial)
            (fun r _ => .leaf (by rw [round70i, ge_f]; rfl)) (a0 := r) trivial (x := x) (p := p)
          have hbe : badE b i = (List.range' 0 b.cs.length).any (badT b (edgeT b i) i) := rfl
          rw [← hbe] at hq
          cases hbb : badE b i <;> rw [hbb] at hq
          · refine .one ((round70n b i r (((0 + b.cs.length : Nat) : Int), r)).trans ?_) (key _ _ hq)
            rw [lt_t hi]
            rfl
          · refine .one ((round70r b i r ((q : Int), 2)).trans ?_) (key _ _ hq)
            rw [lt_t hi]
            rfl) (fun _ _ _ _ _ _ => trivial)
        (fun r _ => .leaf (by rw [round70n b _ r (0, 0), ge_f]; rfl)) (a0 := 0) trivial (x := x) (p := p)
      obtain ⟨q2, hq2⟩ := rgRun_any (id := 2) (p := badE b) (c := (2 : Int)) b.cs.length 0 0
      have ht : turnsB b = !(List.range' 0 b.cs.length).any (badE b) := rfl
      rw [ht]
      cases hbb : (List.range' 0 b.cs.length).any (badE b) <;> rw [hbb] at hq2
      · exact fnD_t (cfg_ok w0) h0 (cs70_gd h0) (fd := fnOf Tryz.f70) rfl ((body70nn b (((0 + b.cs.length : Nat) : Int), 0) (((0 + b.cs.length : Nat) : Int), 0)).trans (by rw [hpre, hb]; rfl)) (by exact ⟨hB _ _ hq2, hA _ _ hq, trivial⟩)
      · exact fnD_t (cfg_ok w0) h0 (cs70_gd h0) (fd := fnOf Tryz.f70) rfl ((body70nr b (((0 + b.cs.length : Nat) : Int), 0) ((q2 : Int), 2)).trans (by rw [hpre, hb]; rfl)) (by exact ⟨hB _ _ hq2, hA _ _ hq, trivial⟩)

theorem gd70 (h0 : Lib0 w0) : Gd (cfg w0) (checkBC 70) := gd_b fun b d hd => by
  obtain ⟨hg, hd⟩ := br_run hd
  cases hd
  exact fn70 h0 b hg
end
end Go.Proofs.YtmlglimahbjgbaaGreatDoor

namespace Go.Proofs.YtmlglimahbjgbaaGreatDoor
open Go Go.Am Go.Town
set_option maxRecDepth 100000
variable {w0 : World}
noncomputable section


abbrev bxK : List Kd := [ik, ik, ik, ik]
def mxI (a b : Int) : Int := if b > a then b else a
def mnI (a b : Int) : Int := if b < a then b else a

def outR (ax ay bx by' fx fy tx ty : Int) : Bool := decide (mxI ax bx < fx) || (decide (mnI ax bx > tx) || (decide (mxI ay by' < fy) || decide (mnI ay by' > ty)))
def outW (x : Tup bxK) (w : Tup wallK) : Bool := outR w.2.1 w.2.2.1 w.2.2.2.1 w.2.2.2.2.1 x.1 x.2.1 x.2.2.1 x.2.2.2.1
def bxs (x : Tup bxK) : List D := [I x.1, I x.2.1, I x.2.2.1, I x.2.2.2.1]

def o1 (ax bx fx : Int) : Bool := decide ((if bx > ax then bx else ax) < fx)
def o2 (ax bx tx : Int) : Bool := decide ((if bx < ax then bx else ax) > tx)
theorem run143 (w : Tup wallK) (x : Tup bxK) : bodyK ((cfg w0).at []) 40 (fnOf Tryz.f143) [wA w, .box (bxs x)] =
    bif o1 w.2.1 w.2.2.2.1 x.1 then some (Bo true) else bif o2 w.2.1 w.2.2.2.1 x.2.2.1 then some (Bo true) else bif o1 w.2.2.1 w.2.2.2.2.1 x.2.1 then some (Bo true) else
      some (Bo (o2 w.2.2.1 w.2.2.2.2.1 x.2.2.2.1)) := by kernel_rfl

theorem fn143 (h0 : Lib0 w0) (w : Tup wallK) (x : Tup bxK) : FnD (cfg w0) 143 [wA w, .box (bxs x)] (Bo (outW x w)) :=
  fnD_k (cfg_ok w0) h0 (cs := []) trivial (fd := fnOf Tryz.f143) rfl (n := 40) ((run143 w x).trans (by
    have e : outW x w = (o1 w.2.1 w.2.2.2.1 x.1 || (o2 w.2.1 w.2.2.2.1 x.2.2.1 || (o1 w.2.2.1 w.2.2.2.2.1 x.2.1 || o2 w.2.2.1 w.2.2.2.2.1 x.2.2.2.1))) := rfl
    rw [e]
    cases o1 w.2.1 w.2.2.2.1 x.1 <;> cases o2 w.2.1 w.2.2.2.1 x.2.2.1 <;> cases o1 w.2.2.1 w.2.2.2.2.1 x.2.1 <;> rfl))
def c143 : Ct := ct 143 [.b wallK, .r bxK] fun a => .leaf (Bo (outW a.2.1 a.1))
theorem gd143 (h0 : Lib0 w0) : Gd (cfg w0) c143 := gd_sig fun a d hd => by cases hd; exact fn143 h0 a.1 a.2.1


def fnd (p : Nat → Bool) : Nat → Nat → Option Nat
  | 0, _ => none
  | f + 1, i => bif p i then some i else fnd p f (i + 1)

theorem rgRun_fnd {id : Nat} {p : Nat → Bool} : ∀ (f i : Nat) (a : Int), rgRun id (fun j (a : Int) => bif p j then (X.ret, (j : Int)) else (.normal, a)) f i a = match fnd p f i with
    | some q => (.ret, ((q : Int), (q : Int)))
    | none => (.exit id, (((i + f : Nat) : Int), a))
  | 0, i, a => rfl
  | f + 1, i, a => by
    unfold rgRun fnd
    cases hp : p i with
    | true => rfl
    | false =>
      simp only [cond_false]
      rw [rgRun_fnd f (i + 1) a, show i + 1 + f = i + (f + 1) by omega]

theorem fnd_none {p : Nat → Bool} : ∀ {f i : Nat}, fnd p f i = none → ∀ j, i ≤ j → j < i + f → p j = false
  | 0, i, _, j, h1, h2 => by omega
  | f + 1, i, h, j, h1, h2 => by
    unfold fnd at h
    cases hp : p i with
    | true => rw [hp] at h; cases h
    | false =>
      rw [hp] at h
      rcases Nat.eq_or_lt_of_le h1 with rfl | h3
      · exact hp
      · exact fnd_none (f := f) (i := i + 1) h j h3 (by omega)

theorem fnd_some {p : Nat → Bool} : ∀ {f i q : Nat}, fnd p f i = some q → i ≤ q ∧ q < i + f ∧ p q = true ∧ ∀ j, i ≤ j → j < q → p j = false
  | 0, i, q, h => by cases h
  | f + 1, i, q, h => by
    unfold fnd at h
    cases hp : p i with
    | true => rw [hp] at h; cases h; exact ⟨Nat.le_refl _, by omega, hp, fun j h1 h2 => by omega⟩
    | false =>
      rw [hp] at h
      obtain ⟨a, b, c, d⟩ := fnd_some (f := f) (i := i + 1) h
      refine ⟨by omega, by omega, c, fun j h1 h2 => ?_⟩
      rcases Nat.eq_or_lt_of_le h1 with rfl | h3
      · exact hp
      · exact d j h3 h2

def fn143D (x : Tup bxK) : D := .fn 143 [] [.box (bxs x)]
def rel180 : List (Nat × Cv) := [(0, .id), (1, .id), (7, .id), (8, .id), (4, .id)]
def st180 (l : List (Tup wallK)) (x : Tup bxK) (a : Int × Int) : List D := [.vec wallK l, fn143D x, I l.length, I a.1, I a.2]
def cs180 : List Ct := [c143]

theorem round180 (l : List (Tup wallK)) (x : Tup bxK) (j r : Int) : rndD ((cfg w0).at cs180) 40 [] 40 (fnOf Tryz.f180).ntmps rel180 (lpB 0 (fnOf Tryz.f180).body) (st180 l x (j, r)) =
    bif decide (j < l.length) then
      bif (Nat.beq 7 7 && (decide (0 ≤ j) && decide (j < l.length))) then
        bif outW x (nth l (j.toNat + 0)) then some ([], .ret, st180 l x (j, j)) else some ([], .normal, st180 l x (W (j + 1), r))
      else none
    else some ([], .exit 0, st180 l x (j, r)) := by kernel_rfl

theorem body180 (l : List (Tup wallK)) (b : Tup bxK) (x : X) (p : Int × Int) (hx : x = .ret ∨ x = .normal) : bodyT ((cfg w0).at cs180) 40 [ldP 0 (fnOf Tryz.f180).ntmps rel180 x (st180 l b p)] 40 (fnOf Tryz.f180) [.vec wallK l, fn143D b] =
    some ([(ldP 0 (fnOf Tryz.f180).ntmps rel180 x (st180 l b p), .loop (lpB 0 (fnOf Tryz.f180).body), st180 l b (0, 0))], onX x (I p.2) (I (-1))) := by
  rcases hx with rfl | rfl <;> kernel_rfl

def idx180 (l : List (Tup wallK)) (x : Tup bxK) : Int := match fnd (fun j => outW x (nth l j)) l.length 0 with
  | some q => q
  | none => -1

theorem fn180 (h0 : Lib0 w0) (l : List (Tup wallK)) (b : Tup bxK) (hl : l.length ≤ 100000) : FnD (cfg w0) 180 [.vec wallK l, fn143D b] (I (idx180 l b)) := by
  refine fn_rg h0 (cs := cs180) ⟨gd143 h0, trivial⟩ (fd := fnOf Tryz.f180) rfl rel180 l.length (by omega) (st180 l b) (fun j a => bif outW b (nth l j) then (X.ret, (j : Int)) else (.normal, a)) (fun _ _ => True) (a0 := 0) trivial
    (fun j a hj _ => .leaf (by
      rw [round180, inb 7 hj, lt_t hj, Int.toNat_natCast, Nat.add_zero]
      cases outW b (nth l j) <;> rfl)) (fun _ _ _ _ _ _ => trivial)
    (fun a _ => .leaf (by rw [round180, ge_f]; rfl)) fun x p hx => ?_
  rw [rgRun_fnd (p := fun j => outW b (nth l j))] at hx
  unfold idx180
  cases hf : fnd (fun j => outW b (nth l j)) l.length 0 with
  | none => rw [hf] at hx; cases hx; exact body180 l b _ _ (.inr rfl)
  | some q => rw [hf] at hx; cases hx; exact body180 l b _ _ (.inl rfl)

def as143 (d : D) : Option (Tup bxK) :=
  match d with
  | .fn 143 [] [.box [.val (.int .i64 a), .val (.int .i64 b), .val (.int .i64 c), .val (.int .i64 e)]] => some (a, b, c, e, ())
  | _ => none
theorem as143_eq {d : D} {x : Tup bxK} (h : as143 d = some x) : d = fn143D x := by
  unfold as143 at h
  split at h
  · cases h; rfl
  · cases h

def c180 : Ct := ct 180 [.v wallK, .x] fun a => match as143 a.2.1 with
  | some x => .br (Nat.ble (a.1 : List (Tup wallK)).length 100000) (.leaf (I (idx180 a.1 x))) .bad
  | none => .bad
theorem gd180 (h0 : Lib0 w0) : Gd (cfg w0) c180 := gd_sig fun a d hd => by
  obtain ⟨l, f, u⟩ := a
  simp only at hd
  cases hb : as143 f with
  | none => rw [hb] at hd; cases hd
  | some p =>
    rw [hb] at hd
    obtain ⟨hg, hd⟩ := br_run hd
    cases hd
    cases as143_eq hb
    exact fn180 h0 l p (Nat.le_of_ble_eq_true hg)


def fn143O (x : Tup bxK) : D := .fn 143 [] [.obox (bxs x)]
def cs142 : List Ct := [c180, c143]
theorem cs142_gd (h0 : Lib0 w0) : Gds (cfg w0) cs142 := ⟨gd180 h0, gd143 h0, trivial⟩
def rel142 : List (Nat × Cv) := [(0, .id), (1, .id), (6, .id), (5, .id)]
def st142 (x : Tup bxK) (a : Int × (Int × List (Tup wallK))) : List D := [.ovec wallK a.2.2, fn143O x, I a.1, I a.2.1]

theorem round142 (x : Tup bxK) (j i : Int) (l : List (Tup wallK)) : rndD ((cfg w0).at cs142) 40 [] 40 (fnOf Tryz.f142).ntmps rel142 (lpB 0 (fnOf Tryz.f142).body) (st142 x (j, (i, l))) =
    bif decide (j < l.length) then
      bif (Nat.beq 7 7 && (decide (0 ≤ j) && decide (j < l.length))) then
        bif !outW x (nth l (j.toNat + 0)) then
          bif (Nat.beq 7 7 && (decide (0 ≤ i) && decide (i < l.length))) then some ([], .normal, st142 x (W (j + 1), (W (i + 1), l.set (i.toNat + 0) (nth l (j.toNat + 0))))) else none
        else some ([], .normal, st142 x (W (j + 1), (i, l)))
      else none
    else some ([], .exit 0, st142 x (j, (i, l))) := by kernel_rfl

def ld142 (x : Tup bxK) (p : Int × (Int × List (Tup wallK))) : Ld := ldP 0 (fnOf Tryz.f142).ntmps rel142 .normal (st142 x p)
def fin142 (l' : List (Tup wallK)) (i : Nat) : List (Tup wallK) := ((setAt l' (0 + i) (List.replicate (l'.length - i) (dfl wallK))).drop 0).take i
def cut1 (i n : Int) : Bool := decide (0 ≤ i) && (decide (i ≤ n) && decide (n ≤ n))
def cut2 (i n : Int) : Bool := decide ((0 : Int) ≤ 0) && (decide (0 ≤ i) && decide (i ≤ n))

theorem body142a (x : Tup bxK) (l : List (Tup wallK)) (j : Int) (k : Nat) (l' : List (Tup wallK)) : bodyT ((cfg w0).at cs142) 40 [ld142 x (j, (((k + 1 : Nat) : Int), l'))] 40 (fnOf Tryz.f142) [.ovec wallK l, fn143O x] =
    bif Nat.ble l.length 100000 then
      bif idx180 l x == -1 then some ([], .vec wallK l)
      else bif cut1 ((k + 1 : Nat) : Int) l'.length then bif cut2 ((k + 1 : Nat) : Int) l'.length then
        some ([(ld142 x (j, (((k + 1 : Nat) : Int), l')), .loop (lpB 0 (fnOf Tryz.f142).body), st142 x (W (idx180 l x + 1), (idx180 l x, l)))], .vec wallK (fin142 l' (k + 1))) else none else none
    else none := by kernel_rfl

theorem body142b (x : Tup bxK) (l : List (Tup wallK)) (j : Int) (y : Tup wallK) (l' : List (Tup wallK)) : bodyT ((cfg w0).at cs142) 40 [ld142 x (j, (0, y :: l'))] 40 (fnOf Tryz.f142) [.ovec wallK l, fn143O x] =
    bif Nat.ble l.length 100000 then
      bif idx180 l x == -1 then some ([], .vec wallK l)
      else bif cut1 0 (y :: l').length then
        some ([(ld142 x (j, (0, y :: l')), .loop (lpB 0 (fnOf Tryz.f142).body), st142 x (W (idx180 l x + 1), (idx180 l x, l)))], .emp 7) else none
    else none := by kernel_rfl

theorem rgRun_inv {α : Type} {id : Nat} {step : Nat → α → X × α} {inv : Nat → α → Prop} : ∀ (f i : Nat) (a : α), inv i a → (∀ j b, i ≤ j → j < i + f → inv j b → ∃ b', step j b = (.normal, b') ∧ inv (j + 1) b') → ∃ b, rgRun id step f i a = (.exit id, (((i + f : Nat) : Int), b)) ∧ inv (i + f) b
  | 0, i, a, h, _ => ⟨a, rfl, h⟩
  | f + 1, i, a, h, hs => by
    obtain ⟨b, h1, h2⟩ := hs i a (Nat.le_refl _) (by omega) h
    obtain ⟨c, h3, h4⟩ := rgRun_inv (id := id) f (i + 1) b h2 (fun j b hj hj2 hb => hs j b (by omega) (by omega) hb)
    refine ⟨c, ?_, by rw [show i + (f + 1) = i + 1 + f by omega]; exact h4⟩
    unfold rgRun
    rw [h1]
    simp only
    rw [h3, show i + 1 + f = i + (f + 1) by omega]

def keepW (x : Tup bxK) (l : List (Tup wallK)) : List (Tup wallK) := l.filter (fun w => !outW x w)
def step142 (x : Tup bxK) (j : Nat) (a : Int × List (Tup wallK)) : X × (Int × List (Tup wallK)) :=
  (.normal, bif !outW x (nth a.2 j) then (W (a.1 + 1), a.2.set a.1.toNat (nth a.2 j)) else a)
def inv142 (x : Tup bxK) (l : List (Tup wallK)) (j : Nat) (a : Int × List (Tup wallK)) : Prop :=
  ∃ i : Nat, a.1 = (i : Int) ∧ i < j ∧ a.2.length = l.length ∧ a.2.take i = keepW x (l.take j) ∧ a.2.drop j = l.drop j

theorem nth_eq {l : List (Tup wallK)} {j : Nat} (h : j < l.length) : nth l j = l[j] := by simp [nth, h]

theorem keep_snoc {x : Tup bxK} {l : List (Tup wallK)} {j : Nat} (h : j < l.length) : keepW x (l.take (j + 1)) = keepW x (l.take j) ++ (bif !outW x (nth l j) then [nth l j] else []) := by
  unfold keepW
  rw [List.take_add_one, List.filter_append]
  congr 1
  rw [List.getElem?_eq_getElem h, nth_eq h]
  simp only [Option.toList_some, List.filter_cons, List.filter_nil]
  cases outW x l[j] <;> rfl

theorem inv142_step {x : Tup bxK} {l : List (Tup wallK)} (hl : l.length ≤ 100000) {j : Nat} (hj : j < l.length) {a : Int × List (Tup wallK)} (h : inv142 x l j a) : ∃ b, step142 x j a = (.normal, b) ∧ inv142 x l (j + 1) b := by
  obtain ⟨i, h1, h2, h3, h4, h5⟩ := h
  obtain ⟨a1, m⟩ := a
  simp only at h1 h3 h4 h5
  subst h1
  have hm : nth m j = nth l j := by
    have := congrArg (fun t => t[0]?) h5
    simp only [List.getElem?_drop, Nat.add_zero] at this
    rw [List.getElem?_eq_getElem (by omega), List.getElem?_eq_getElem hj] at this
    rw [nth_eq (by omega), nth_eq hj]
    exact Option.some.inj this
  have hd : m.drop (j + 1) = l.drop (j + 1) := by
    have := congrArg (fun t => t.drop 1) h5
    simpa only [List.drop_drop] using this
  refine ⟨_, rfl, ?_⟩
  simp only
  rw [hm]
  cases hb : (!outW x (nth l j)) with
  | false =>
    simp only [cond_false]
    exact ⟨i, rfl, by omega, h3, by rw [keep_snoc hj, hb, h4]; simp, hd⟩
  | true =>
    simp only [cond_true]
    refine ⟨i + 1, W_nat (by omega), by omega, by simp [h3], ?_, ?_⟩
    · rw [keep_snoc hj, hb, ← h4]
      simp only [Int.toNat_natCast, cond_true]
      rw [List.take_add_one, List.take_set_of_le (Nat.le_refl _)]
      congr 1
      rw [List.getElem?_set_self (by omega)]
      rfl
    · simp only [Int.toNat_natCast]
      rw [List.drop_set_of_lt (by omega)]
      exact hd

theorem rd142 (x : Tup bxK) {l : List (Tup wallK)} (j : Nat) (a : Int × List (Tup wallK)) (hj : j < l.length) (h : inv142 x l j a) :
    RdOK ((cfg w0).at cs142) (fnOf Tryz.f142).ntmps rel142 (lpB 0 (fnOf Tryz.f142).body) (st142 x ((j : Int), a)) (step142 x j a).1 (st142 x (nx j (step142 x j a))) := by
  obtain ⟨i, h1, h2, h3, h4, h5⟩ := h
  obtain ⟨a1, m⟩ := a
  simp only at h1 h3
  subst h1
  have hjm : j < m.length := by omega
  exact .leaf (by
    rw [round142, inb 7 hjm, lt_t hjm, Int.toNat_natCast, Int.toNat_natCast, Nat.add_zero, Nat.add_zero, inb 7 (show i < m.length by omega)]
    unfold step142
    simp only [cond_true]
    cases hb : (!outW x (nth m j)) with
    | false => rfl
    | true => rfl)

theorem take_fin {l' : List (Tup wallK)} {i : Nat} (h : i ≤ l'.length) : fin142 l' i = l'.take i := by
  unfold fin142 setAt
  rw [List.drop_zero, Nat.zero_add, List.take_append_of_le_length (by simp; omega), List.take_take, Nat.min_self]

theorem idx_none {l : List (Tup wallK)} {x : Tup bxK} (h : (idx180 l x == -1) = true) : keepW x l = l := by
  unfold idx180 at h
  cases hf : fnd (fun j => outW x (nth l j)) l.length 0 with
  | some q => rw [hf] at h; simp only [beq_iff_eq] at h; omega
  | none =>
    have := fnd_none hf
    unfold keepW
    rw [List.filter_eq_self]
    intro w hw
    obtain ⟨j, hj, rfl⟩ := List.getElem_of_mem hw
    have h1 : outW x (nth l j) = false := this j (by omega) (by omega)
    rw [nth_eq hj] at h1
    rw [h1]; rfl

def del142 (l : List (Tup wallK)) (x : Tup bxK) : FT D :=
  .br (Nat.ble l.length 100000) (.br (idx180 l x == -1) (.leaf (.vec wallK l)) (.br (keepW x l).isEmpty (.leaf (.emp 7)) (.leaf (.vec wallK (keepW x l))))) .bad

theorem fn142 (h0 : Lib0 w0) (l : List (Tup wallK)) (x : Tup bxK) {d : D} (hd : (del142 l x).run = some d) : FnM (cfg w0) 142 [.ovec wallK l, fn143O x] d := by
  unfold del142 at hd
  obtain ⟨hg, hd⟩ := br_run hd
  have hl := Nat.le_of_ble_eq_true hg
  have mv := fun {L : List Ld} {o : Obs} {d : D} (hb : bodyT ((cfg w0).at cs142) 40 L 40 (fnOf Tryz.f142) [.ovec wallK l, fn143O x] = some (o, d)) (hO : Owed ((cfg w0).at cs142) o) =>
    FnM.sy (bodyT_move (C := (cfg w0).at cs142) (at_ok (cfg_ok w0) cs142) (at_sp h0 (cs142_gd h0)) (g := 142) (fd := fnOf Tryz.f142) rfl hb hO)
  cases hi : (idx180 l x == -1) with
  | true =>
    rw [hi] at hd
    cases hd
    exact mv ((body142a x l 0 0 []).trans (by rw [hg, hi]; rfl)) (by exact trivial)
  | false =>
    rw [hi] at hd
    replace hd : (FT.br (keepW x l).isEmpty (.leaf (.emp 7)) (.leaf (D.vec wallK (keepW x l)))).run = some d := hd
    unfold idx180 at hi
    cases hf : fnd (fun j => outW x (nth l j)) l.length 0 with
    | none => rw [hf] at hi; cases hi
    | some q =>
      have hidx : idx180 l x = (q : Int) := by unfold idx180; rw [hf]
      obtain ⟨_, q1, q2, q3⟩ := fnd_some hf
      rw [Nat.zero_add] at q1
      have hi' : ((q : Int) == -1) = false := by rw [hf] at hi; exact hi
      have hk0 : l.take q = keepW x (l.take (q + 1)) := by
        have e1 : keepW x (l.take q) = l.take q := by
          unfold keepW
          rw [List.filter_eq_self]
          intro w hw
          obtain ⟨j, hj, rfl⟩ := List.mem_take_iff_getElem.1 hw
          have h1 : outW x (nth l j) = false := q3 j (by omega) (by omega)
          rw [nth_eq (by omega)] at h1
          rw [h1]; rfl
        have q2' : outW x (nth l q) = true := q2
        rw [keep_snoc q1, q2', e1]; simp
      have hinv0 : inv142 x l (q + 1) ((q : Int), l) := ⟨q, rfl, by omega, rfl, hk0, rfl⟩
      obtain ⟨b, hrun, hinv⟩ := rgRun_inv (id := 0) (step := step142 x) (inv := inv142 x l) (l.length - (q + 1)) (q + 1) ((q : Int), l) hinv0 (fun j b _ hj hb => inv142_step hl (by omega) hb)
      have hld := ldT_rgs (at_ok (cfg_ok w0) cs142) (at_sp h0 (cs142_gd h0)) (N := (fnOf Tryz.f142).ntmps) (rel := rel142) (B := lpB 0 (fnOf Tryz.f142).body) (id := 0) (k := l.length) (by omega) (st142 x) (step142 x) (inv142 x l)
        (fun j a hj ha => rd142 x j a hj ha) (fun j a a' hj ha h => by
          obtain ⟨b, h1, h2⟩ := inv142_step hl hj ha
          rw [h1] at h; cases h; exact h2)
        (fun a ⟨i, _, _, h3, _⟩ => .leaf (by
          obtain ⟨a1, m⟩ := a
          simp only at h3
          rw [round142, ← h3, ge_f]; rfl)) (i0 := q + 1) (by omega) hinv0 hrun
      rw [show q + 1 + (l.length - (q + 1)) = l.length by omega] at hinv hld
      obtain ⟨i, h1, h2, h3, h4, _⟩ := hinv
      obtain ⟨b1, m⟩ := b
      simp only at h1 h3 h4
      subst h1
      rw [List.take_length] at h4
      have hpre : st142 x (W (idx180 l x + 1), (idx180 l x, l)) = st142 x (((q + 1 : Nat) : Int), ((q : Int), l)) := by rw [hidx, W_nat (by omega)]
      cases i with
      | zero =>
        have he : (keepW x l).isEmpty = true := by rw [← h4]; rfl
        rw [he] at hd
        cases hd
        cases m with
        | nil => simp at h3; omega
        | cons y ys =>
          have hc : cut1 0 (y :: ys).length = true := by unfold cut1; simp only [Bool.and_eq_true, decide_eq_true_eq]; omega
          exact mv ((body142b x l (l.length : Int) y ys).trans (by rw [hg, hidx, hi', hc]; rfl)) (by
            refine ⟨?_, trivial⟩
            rw [← hidx, hpre]
            exact hld)
      | succ k =>
        have hne : (keepW x l).isEmpty = false := by
          rw [← h4]
          cases m with
          | nil => simp at h3; omega
          | cons y ys => rfl
        rw [hne] at hd
        cases hd
        have hc : cut1 ((k + 1 : Nat) : Int) m.length = true := by unfold cut1; simp only [Bool.and_eq_true, decide_eq_true_eq]; omega
        have hc2 : cut2 ((k + 1 : Nat) : Int) m.length = true := by unfold cut2; simp only [Bool.and_eq_true, decide_eq_true_eq]; omega
        rw [← h4, ← take_fin (by omega)]
        exact mv ((body142a x l (l.length : Int) k m).trans (by rw [hg, hidx, hi', hc, hc2]; rfl)) (by
          refine ⟨?_, trivial⟩
          rw [← hidx, hpre]
          exact hld)
end
end Go.Proofs.YtmlglimahbjgbaaGreatDoor

namespace Go.Proofs.YtmlglimahbjgbaaGreatDoor
open Go Go.Am Go.Town
set_option maxRecDepth 100000
variable {w0 : World}
noncomputable section


def as143O (d : D) : Option (Tup bxK) :=
  match d with
  | .fn 143 [] [.obox [.val (.int .i64 a), .val (.int .i64 b), .val (.int .i64 c), .val (.int .i64 e)]] => some (a, b, c, e, ())
  | _ => none
theorem as143O_eq {d : D} {x : Tup bxK} (h : as143O d = some x) : d = fn143O x := by
  unfold as143O at h
  split at h
  · cases h; rfl
  · cases h

def F142 (ds : List D) : FT D :=
  match ds with
  | [.ovec ks l, f] => match recast ks wallK l, as143O f with
    | some l, some x => del142 l x
    | _, _ => .bad
  | _ => .bad

theorem F142_ok (h0 : Lib0 w0) (ds : List D) (d : D) (h : (F142 ds).run = some d) : FnM (cfg w0) 142 ds d := by
  unfold F142 at h
  split at h
  · split at h
    · rename_i hr hx
      obtain ⟨e, rfl⟩ := recast_eq hr
      subst e
      cases as143O_eq hx
      exact fn142 h0 _ _ h
    · cases h
  · cases h

def hs142 : List (Nat × (List Value → Heap → FT (Value × Heap))) := [(142, mvF F142)]
theorem hs142_gd (h0 : Lib0 w0) : GdsH (cfg w0) hs142 := ⟨fun _ _ _ _ hv => callM_sound (F := F142) (fun ds d hd => F142_ok h0 ds d hd) hv, trivial⟩
def cfgD (w0 : World) : Cfg := (cfg w0).onH hs142
theorem cfgD_ok (w0 : World) : CfgOk (cfgD w0) := Cfg.onH_ok (cfg_ok w0) hs142
theorem cfgD_sp (h0 : Lib0 w0) : SpecOK (cfgD w0) := specs_onH h0 (hs142_gd h0)

def bxA (x : Tup bxK) : D := .agg (bxs x)
def cs68 : List Ct := [checkC 38, ⟨100, tG checkPointF⟩, firstC 98, ⟨119, tG whenF⟩]
theorem cs68_gd (h0 : Lib0 w0) : Gds (cfgD w0) cs68 := Gds.onH (C := cfg w0) ⟨gd38 h0, gd_of (checkPoint_good h0), gd98 h0, gd_of (when_good h0), trivial⟩
def cs74 : List Ct := []
def rel74 : List (Nat × Cv) := [(0, .id), (3, .id), (5, .ov wallK), (6, .id)]
def st74 (l : List (Tup wallK)) (x : Tup bxK) (a : Int × List (Tup wallK)) : List D := [.vec wallK l, .obox (bxs x), .ovec wallK a.2, I a.1]
def cs71 : List Ct := [⟨20, tG checkPointF⟩, firstC 108, ⟨54, tG whenF⟩]

def cpy (l : List (Tup wallK)) : List (Tup wallK) := setAt (List.replicate ((l.length : Int).toNat) (dfl wallK)) 0 (List.take (Nat.min l.length ((l.length : Int).toNat)) l)
theorem cpy_eq (l : List (Tup wallK)) : cpy l = l := by
  unfold cpy setAt
  simp only [Int.toNat_natCast, Nat.zero_add, List.take_zero, List.nil_append]
  have : Nat.min l.length l.length = l.length := Nat.min_self _
  rw [this, List.take_length, List.drop_eq_nil_of_le (by simp), List.append_nil]

def e68b (l : List (Tup wallK)) (x : Tup bxK) (t : Bool) : Int := firstZ [chkAllW l, chkPoint x.1 x.2.1, chkPoint x.2.2.1 x.2.2.2.1, whenZ t 11]
def gtI (a b : Int) : Bool := decide (a > b)
def e68 (l : List (Tup wallK)) (x : Tup bxK) : Int := e68b l x (gtI x.1 x.2.2.1 || gtI x.2.1 x.2.2.2.1)
def mk68 (n : Int) : Bool := decide (0 ≤ n) && (decide (n = n) && (decide (n ≤ 10000000) && (Nat.ble (n.toNat * 7) 10000000 && Nat.ble (n.toNat * 64) 1000000000000)))
def tail68 (l : List (Tup wallK)) (x : Tup bxK) : Option D :=
  bif mk68 l.length then bif Nat.ble (cpy l).length 100000 then
    bif idx180 (cpy l) x == -1 then some (.tup [.vec wallK (cpy l), I 0])
    else bif (keepW x (cpy l)).isEmpty then some (.tup [.emp 7, I 0]) else some (.tup [.vec wallK (keepW x (cpy l)), I 0])
  else none else none
def mid68 (l : List (Tup wallK)) (x : Tup bxK) (t : Bool) : Option D := bif e68b l x t != 0 then some (.tup [.val (.slice none 0 0), I (e68b l x t)]) else tail68 l x

theorem run68 (l : List (Tup wallK)) (x : Tup bxK) : bodyK ((cfgD w0).at cs68) 40 (fnOf Tryz.f68) [.vec wallK l, bxA x] =
    bif gtI x.1 x.2.2.1 then mid68 l x true else mid68 l x (gtI x.2.1 x.2.2.2.1) := by kernel_rfl

def F68 (l : List (Tup wallK)) (x : Tup bxK) : FT D :=
  .br (e68 l x != 0) (.leaf (.tup [.vec wallK [], I (e68 l x)])) (.br (idx180 l x == -1) (.leaf (.tup [.vec wallK l, I 0])) (.br (keepW x l).isEmpty (.leaf (.tup [.emp 7, I 0])) (.leaf (.tup [.vec wallK (keepW x l), I 0]))))

theorem fn68 (h0 : Lib0 w0) (l : List (Tup wallK)) (x : Tup bxK) {d : D} (hd : (F68 l x).run = some d) : FnD (cfg w0) 68 [.vec wallK l, bxA x] d := by
  have hrun : bodyK ((cfgD w0).at cs68) 40 (fnOf Tryz.f68) [.vec wallK l, bxA x] = mid68 l x (gtI x.1 x.2.2.1 || gtI x.2.1 x.2.2.2.1) := (run68 l x).trans (by cases gtI x.1 x.2.2.1 <;> rfl)
  have go := fun {d : D} (h : bodyK ((cfgD w0).at cs68) 40 (fnOf Tryz.f68) [.vec wallK l, bxA x] = some d) => (show FnD (cfg w0) 68 [.vec wallK l, bxA x] d from fnD_k (C := cfgD w0) (cfgD_ok w0) (cfgD_sp h0) (cs68_gd h0) (fd := fnOf Tryz.f68) rfl h)
  have hee : e68b l x (gtI x.1 x.2.2.1 || gtI x.2.1 x.2.2.2.1) = e68 l x := rfl
  unfold F68 at hd
  simp only [FT.run] at hd
  cases he : (e68 l x != 0) with
  | true =>
    rw [he] at hd
    cases hd
    refine FnD.nil_vec (vs := [.int .i64 (e68 l x)]) rfl (by decide) (go (hrun.trans ?_))
    unfold mid68
    rw [hee, he]; rfl
  | false =>
    rw [he] at hd
    simp only [cond_false] at hd
    refine go (hrun.trans ?_)
    have hz : e68 l x = 0 := by simpa using he
    have hl : l.length ≤ 32 := by
      unfold e68 e68b at hz
      rw [firstZ_nil] at hz
      exact (chkAll_nil (hz (chkAllW l) (by simp))).1
    unfold mid68 tail68
    have hm : mk68 (l.length : Int) = true := by
      unfold mk68
      simp only [Bool.and_eq_true, decide_eq_true_eq, Nat.ble_eq, Int.toNat_natCast]
      exact ⟨by omega, trivial, by omega, by omega, by omega⟩
    rw [hee, he, cpy_eq, hm, Nat.ble_eq_true_of_le (show l.length ≤ 100000 by omega)]
    simp only [cond_false, cond_true]
    cases h1 : (idx180 l x == -1) with
    | true => rw [h1] at hd; cases hd; rfl
    | false =>
      rw [h1] at hd
      simp only [cond_false] at hd ⊢
      cases h2 : (keepW x l).isEmpty <;> rw [h2] at hd <;> cases hd <;> rfl

def c68 : Ct := ct 68 [.v wallK, .b bxK] fun a => F68 a.1 a.2.1
theorem gd68 (h0 : Lib0 w0) : Gd (cfg w0) c68 := gd_sig fun a _ hd => fn68 h0 a.1 a.2.1 hd


def i1R (a b f : Int) : Bool := decide ((if b > a then b else a) ≥ f)
def i2R (a b t : Int) : Bool := decide ((if b < a then b else a) ≤ t)

theorem round74 (l : List (Tup wallK)) (x : Tup bxK) (j : Int) (out : List (Tup wallK)) : rndD ((cfg w0).at cs74) 40 [] 40 (fnOf Tryz.f74).ntmps rel74 (lpB 0 (fnOf Tryz.f74).body) (st74 l x (j, out)) =
    bif decide (j < l.length) then
      bif (Nat.beq 7 7 && (decide (0 ≤ j) && decide (j < l.length))) then
        bif i1R (nth l (j.toNat + 0)).2.1 (nth l (j.toNat + 0)).2.2.2.1 x.1 then
          bif i2R (nth l (j.toNat + 0)).2.1 (nth l (j.toNat + 0)).2.2.2.1 x.2.2.1 then
            bif i1R (nth l (j.toNat + 0)).2.2.1 (nth l (j.toNat + 0)).2.2.2.2.1 x.2.1 then
              bif i2R (nth l (j.toNat + 0)).2.2.1 (nth l (j.toNat + 0)).2.2.2.2.1 x.2.2.2.1 then
                bif (Nat.ble ((out ++ [nth l (j.toNat + 0)]).length * 64) 1000000000000 && Nat.ble (out ++ [nth l (j.toNat + 0)]).length 1000000000000) then some ([], .normal, st74 l x (W (j + 1), out ++ [nth l (j.toNat + 0)])) else none
              else some ([], .normal, st74 l x (W (j + 1), out))
            else some ([], .normal, st74 l x (W (j + 1), out))
          else some ([], .normal, st74 l x (W (j + 1), out))
        else some ([], .normal, st74 l x (W (j + 1), out))
      else none
    else some ([], .exit 0, st74 l x (j, out)) := by kernel_rfl

theorem body74 (l : List (Tup wallK)) (x : Tup bxK) (p : Int × List (Tup wallK)) : bodyT ((cfg w0).at cs74) 40 [ldP 0 (fnOf Tryz.f74).ntmps rel74 .normal (st74 l x p)] 40 (fnOf Tryz.f74) [.vec wallK l, bxA x] =
    some ([(ldP 0 (fnOf Tryz.f74).ntmps rel74 .normal (st74 l x p), .loop (lpB 0 (fnOf Tryz.f74).body), st74 l x (0, []))], .vec wallK p.2) := by kernel_rfl

theorem not1 (a b f : Int) : i1R a b f = !o1 a b f := by
  unfold i1R o1
  rw [Bool.eq_iff_iff]
  simp only [decide_eq_true_eq, Bool.not_eq_true', decide_eq_false_iff_not]
  omega
theorem not2 (a b f : Int) : i2R a b f = !o2 a b f := by
  unfold i2R o2
  rw [Bool.eq_iff_iff]
  simp only [decide_eq_true_eq, Bool.not_eq_true', decide_eq_false_iff_not]
  omega

theorem notA (w : Tup wallK) (x : Tup bxK) : i1R w.2.1 w.2.2.2.1 x.1 = !o1 w.2.1 w.2.2.2.1 x.1 := not1 _ _ _
theorem notB (w : Tup wallK) (x : Tup bxK) : i2R w.2.1 w.2.2.2.1 x.2.2.1 = !o2 w.2.1 w.2.2.2.1 x.2.2.1 := not2 _ _ _
theorem notC (w : Tup wallK) (x : Tup bxK) : i1R w.2.2.1 w.2.2.2.2.1 x.2.1 = !o1 w.2.2.1 w.2.2.2.2.1 x.2.1 := not1 _ _ _
theorem notD (w : Tup wallK) (x : Tup bxK) : i2R w.2.2.1 w.2.2.2.2.1 x.2.2.2.1 = !o2 w.2.2.1 w.2.2.2.2.1 x.2.2.2.1 := not2 _ _ _

theorem foldl_keep (x : Tup bxK) : ∀ (l out : List (Tup wallK)), l.foldl (fun b w => bif !outW x w then b ++ [w] else b) out = out ++ keepW x l
  | [], out => by simp [keepW]
  | w :: ws, out => by
    rw [List.foldl_cons, foldl_keep x ws]
    unfold keepW
    rw [List.filter_cons]
    cases outW x w <;> simp

theorem fn74 (h0 : Lib0 w0) (l : List (Tup wallK)) (x : Tup bxK) (hl : l.length ≤ 100000) : FnD (cfg w0) 74 [.vec wallK l, bxA x] (.vec wallK (keepW x l)) := by
  refine fn_ls h0 (cs := cs74) trivial (fd := fnOf Tryz.f74) rfl rel74 l (by omega) (st74 l x) (fun w a => (X.normal, bif !outW x w then a ++ [w] else a)) (fun j a => a.length ≤ j) (a0 := []) (Nat.le_refl _)
    (fun j a hj hi => .leaf (by
      have hi : a.length ≤ j := hi
      rw [round74, inb 7 hj, lt_t hj, Int.toNat_natCast, Nat.add_zero, room (by omega) (by omega), notA, notB, notC, notD]
      have e : outW x (nth l j) = (o1 (nth l j).2.1 (nth l j).2.2.2.1 x.1 || (o2 (nth l j).2.1 (nth l j).2.2.2.1 x.2.2.1 || (o1 (nth l j).2.2.1 (nth l j).2.2.2.2.1 x.2.1 || o2 (nth l j).2.2.1 (nth l j).2.2.2.2.1 x.2.2.2.1))) := rfl
      rw [e]
      cases o1 (nth l j).2.1 (nth l j).2.2.2.1 x.1 with
      | true => rfl
      | false =>
        cases o2 (nth l j).2.1 (nth l j).2.2.2.1 x.2.2.1 with
        | true => rfl
        | false =>
          cases o1 (nth l j).2.2.1 (nth l j).2.2.2.2.1 x.2.1 with
          | true => rfl
          | false => cases o2 (nth l j).2.2.1 (nth l j).2.2.2.2.1 x.2.2.2.1 <;> rfl))
    (fun j a a' _ hi h => by
      have hi : a.length ≤ j := hi
      cases h
      cases outW x (nth l j) <;> simp <;> omega)
    (fun a _ => .leaf (by rw [round74, ge_f]; rfl)) fun y p hx => ?_
  rw [lsRun_fold (h := fun w b => bif !outW x w then b ++ [w] else b) 0 l 0 [] (fun _ _ _ => rfl), foldl_keep] at hx
  cases hx
  exact body74 l x _

def c74 : Ct := ct 74 [.v wallK, .b bxK] fun a => .br (Nat.ble (a.1 : List (Tup wallK)).length 100000) (.leaf (.vec wallK (keepW a.2.1 a.1))) .bad
theorem gd74 (h0 : Lib0 w0) : Gd (cfg w0) c74 := gd_sig fun a d hd => by
  obtain ⟨hg, hd⟩ := br_run hd
  cases hd
  exact fn74 h0 a.1 a.2.1 (Nat.le_of_ble_eq_true hg)

def e71b (x : Tup bxK) (t : Bool) : Int := firstZ [chkPoint x.1 x.2.1, chkPoint x.2.2.1 x.2.2.2.1, whenZ t 11]
def e71 (x : Tup bxK) : Int := e71b x (gtI x.1 x.2.2.1 || gtI x.2.1 x.2.2.2.1)
theorem run71 (x : Tup bxK) : bodyK ((cfg w0).at cs71) 40 (fnOf Tryz.f71) [bxA x] = bif gtI x.1 x.2.2.1 then some (I (e71b x true)) else some (I (e71b x (gtI x.2.1 x.2.2.2.1))) := by kernel_rfl
def c71 : Ct := ct 71 [.b bxK] fun a => .leaf (I (e71 a.1))
theorem gd71 (h0 : Lib0 w0) : Gd (cfg w0) c71 := gd_sig fun a d hd => by
  cases hd
  exact fnD_k (cfg_ok w0) h0 (cs := cs71) ⟨gd_of (rcheckPoint_good h0), gd108 h0, gd_of (rwhen_good h0), trivial⟩ (fd := fnOf Tryz.f71) rfl (n := 40) ((run71 a.1).trans (by unfold e71; cases gtI (a.1 : Tup bxK).1 (a.1 : Tup bxK).2.2.1 <;> rfl))
end
end Go.Proofs.YtmlglimahbjgbaaGreatDoor
