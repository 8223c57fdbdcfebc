/-
  A part of the proof of the statement that the claim names: see the last file.
-/
import Derived.Test.YtifnpljmjhnbaaaGreatDoorL5
namespace Go.Proofs.YtifnpljmjhnbaaaGreatDoor
open Go Go.Am Go.RowKit
set_option maxRecDepth 100000
variable {w0 : World}
noncomputable section


def rel82 : List (Nat × Cv) := [(5, .sv sK1), (6, .id), (7, .id), (8, .ov intK), (9, .id), (2, .id), (3, .id), (4, .id)]
def nlV : D := .val (.slice none 0 0)
structure Qz where
  o : List (Tup intK)
  k : Int
  i : Int
  r : Int
  e : Int
def st82 (L : SLs) (en : Int) (q : Qz) : List D := [.vec sK1 L, I en, I q.k, .ovec intK q.o, I q.i, nlV, I q.r, I q.e]
abbrev N82 : Nat := (fnOf Tryz.f82).ntmps
def cs82 : List Ct := [c83, dgC 141 9, dgC 142 15, whenC 102, firstC 17, c29]
def lnL (L : SLs) (i : Int) : ByteArray := (nth L i.toNat).1
def wd1 (W : SLs) : ByteArray := (nth W (Int.toNat 1)).1
def wd0 (W : SLs) : ByteArray := (nth W (Int.toNat 0)).1
def rt82 (L : SLs) (en : Int) (q : Qz) : Rn' := some ([], .ret, st82 L en ⟨q.o, q.k, q.i, q.i, 25⟩)
def nm82 (L : SLs) (en : Int) (q : Qz) : Rn' := some ([], .normal, st82 L en ⟨q.o, q.k, IntKind.i64.wrap (q.i + 1), q.r, q.e⟩)
def tl82 (L : SLs) (en : Int) (q : Qz) (W : SLs) : Rn' :=
  bif (W.length : Int) != 2 then rt82 L en q else bif q.i == 0 then
    gN (inL W 1) (bif !(dgL (bl (wd1 W)) 9).2 then rt82 L en q else gN (inL W 0) (bif (wd0 W).toList != recB.toList then rt82 L en q else nm82 L en ⟨q.o, (dgL (bl (wd1 W)) 9).1, q.i, q.r, q.e⟩))
  else gN (inL W 1) (bif !(dgL (bl (wd1 W)) 15).2 then rt82 L en q else gN (inL W 0) (bif (wd0 W).toList != secB.toList then rt82 L en q else gN (rm80 (q.o ++ [t1 (dgL (bl (wd1 W)) 15).1])) (nm82 L en ⟨q.o ++ [t1 (dgL (bl (wd1 W)) 15).1], q.k, q.i, q.r, q.e⟩)))
def tree82 (L : SLs) (en : Int) (q : Qz) : Rn' :=
  bif decide (q.i < en) then gN (inL L q.i) (gN (smS (lnL L q.i)) (gN (okU 32) (
    bif decide (q.i > 0) then gN (inL L q.i) (bif (lnL L q.i).toList == misBy.toList then gN (rm80 (q.o ++ [t1 (-1)])) (nm82 L en ⟨q.o ++ [t1 (-1)], q.k, q.i, q.r, q.e⟩) else tl82 L en q (splC (cU 32) (lnL L q.i)))
    else tl82 L en q (splC (cU 32) (lnL L q.i)))))
  else some ([], .exit 0, st82 L en q)
theorem round82 (L : SLs) (en : Int) (q : Qz) : rndD ((cfg w0).at cs82) 40 [] 40 N82 rel82 (lpB 0 (fnOf Tryz.f82).body) (st82 L en q) = tree82 L en q := by
  obtain ⟨o, k, i, r, e⟩ := q
  kernel_rfl
def ld82 (L : SLs) (en : Int) (x : X) (q : Qz) : Ld := ldP 0 N82 rel82 x (st82 L en q)
def en82 (L : SLs) : Int := IntKind.i64.wrap ((L.length : Int) - 1)
def ob82 (L : SLs) (x : X) (q : Qz) : Obs := [(ld82 L (en82 L) x q, .loop (lpB 0 (fnOf Tryz.f82).body), st82 L (en82 L) ⟨[], 0, 0, 0, 0⟩)]
def e82 (q : Qz) : Int := firstZ [whenZ ((q.o.length : Int) != q.k) 2, chkR q.o]
def gO (b : Bool) (k : Option (Obs × D)) : Option (Obs × D) := bif b then k else none
theorem body82n (s : ByteArray) (q : Qz) : bodyT ((cfg w0).at cs82) 40 [ld82 (splC (cU 10) s) (en82 (splC (cU 10) s)) .normal q] 40 (fnOf Tryz.f82) [St_ s] =
    bif decide (((s.size : Nat) : Int) > 4096) then some ([], .tup [nlV, I 0, I 26]) else bif s.toList == mtL.toList then some ([], .tup [nlV, I 0, I 25]) else
    gO (smS s) (gO (okU 10) (gO (inL (splC (cU 10) s) (en82 (splC (cU 10) s))) (bif (lnL (splC (cU 10) s) (en82 (splC (cU 10) s))).toList != mtL.toList then some (ob82 (splC (cU 10) s) .normal q, .tup [nlV, I (en82 (splC (cU 10) s)), I 25]) else
      gO (sm q.o) (bif e82 q != 0 then some (ob82 (splC (cU 10) s) .normal q, .tup [nlV, I (en82 (splC (cU 10) s)), I (e82 q)]) else some (ob82 (splC (cU 10) s) .normal q, .tup [.vec intK q.o, I 0, I 0]))))) := by kernel_rfl
theorem body82r (s : ByteArray) (q : Qz) : bodyT ((cfg w0).at cs82) 40 [ld82 (splC (cU 10) s) (en82 (splC (cU 10) s)) .ret q] 40 (fnOf Tryz.f82) [St_ s] =
    bif decide (((s.size : Nat) : Int) > 4096) then some ([], .tup [nlV, I 0, I 26]) else bif s.toList == mtL.toList then some ([], .tup [nlV, I 0, I 25]) else
    gO (smS s) (gO (okU 10) (some (ob82 (splC (cU 10) s) .ret q, .tup [nlV, I q.r, I q.e]))) := by kernel_rfl
end
end Go.Proofs.YtifnpljmjhnbaaaGreatDoor

namespace Go.Proofs.YtifnpljmjhnbaaaGreatDoor
open Go Go.Am Go.RowKit
set_option maxRecDepth 100000
variable {w0 : World}
noncomputable section


def recS : ByteArray := ⟨#[114, 101, 99, 111, 114, 100, 32]⟩
def secS : ByteArray := ⟨#[115, 101, 99, 111, 110, 100, 32]⟩
def misN : ByteArray := ⟨#[109, 105, 115, 115, 105, 110, 103, 10]⟩
def rel79 : List (Nat × Cv) := [(18, .id), (19, .id), (20, .id), (5, .id)]
def st79 (l : TLq) (a : Int × ByteArray) : List D := [.vec intK l, I l.length, I a.1, St_ a.2]
def cs79 : List Ct := [c135, c34]
theorem round79 (l : TLq) (i : Int) (s : ByteArray) : rndD ((cfg w0).at cs79) 40 [] 40 (fnOf Tryz.f79).ntmps rel79 (lpB 0 (fnOf Tryz.f79).body) (st79 l (i, s)) =
    bif decide (i < l.length) then bif inO l i then bif i1 (nth l i.toNat) == -1 then gN (catB s misN) (some ([], .normal, st79 l (W (i + 1), s ++ misN)))
      else gN (in64 (i1 (nth l i.toNat))) (gN (catB secS (itoB (i1 (nth l i.toNat)))) (gN (catB (secS ++ itoB (i1 (nth l i.toNat))) nlB) (gN (catB s ((secS ++ itoB (i1 (nth l i.toNat))) ++ nlB)) (some ([], .normal, st79 l (W (i + 1), s ++ ((secS ++ itoB (i1 (nth l i.toNat))) ++ nlB)))))))
    else none else some ([], .exit 0, st79 l (i, s)) := by kernel_rfl
def hd79 (l : TLq) : ByteArray := (recS ++ itoB l.length) ++ nlB
def ld79 (l : TLq) (p : Int × ByteArray) : Ld := ldP 0 (fnOf Tryz.f79).ntmps rel79 .normal (st79 l p)
def ob79 (l : TLq) (p : Int × ByteArray) : Obs := [(ld79 l p, .loop (lpB 0 (fnOf Tryz.f79).body), st79 l (0, hd79 l))]
theorem body79 (l : TLq) (p : Int × ByteArray) : bodyT ((cfg w0).at cs79) 40 [ld79 l p] 40 (fnOf Tryz.f79) [.vec intK l] =
    gO (sm l) (bif chkR l != 0 then some ([], .tup [St_ mtL, I (chkR l)]) else gO (in64 l.length) (gO (catB recS (itoB l.length)) (gO (catB (recS ++ itoB l.length) nlB) (
      bif decide (((p.2.size : Nat) : Int) > 4096) then some (ob79 l p, .tup [St_ mtL, I 26]) else some (ob79 l p, .tup [St_ p.2, I 0]))))) := by kernel_rfl
def rel81 : List (Nat × Cv) := [(0, .id), (4, .id), (5, .id)]
def st81 (l : TLq) (a : Int × ByteArray) : List D := [.vec intK l, St_ a.2, I a.1]
def cs81 : List Ct := [c140]
theorem round81 (l : TLq) (i : Int) (s : ByteArray) : rndD ((cfg w0).at cs81) 40 [] 40 (fnOf Tryz.f81).ntmps rel81 (lpB 0 (fnOf Tryz.f81).body) (st81 l (i, s)) =
    bif decide (i < l.length) then bif inO l i then bif i1 (nth l i.toNat) == -1 then gN (catB s misN) (some ([], .normal, st81 l (W (i + 1), s ++ misN)))
      else gN (catB s secS) (gN (inO l i) (gN (in64 (i1 (nth l i.toNat))) (gN (catB (s ++ secS) (itoB (i1 (nth l i.toNat)))) (gN (catB ((s ++ secS) ++ itoB (i1 (nth l i.toNat))) nlB) (some ([], .normal, st81 l (W (i + 1), ((s ++ secS) ++ itoB (i1 (nth l i.toNat))) ++ nlB)))))))
    else none else some ([], .exit 0, st81 l (i, s)) := by kernel_rfl
def ld81 (l : TLq) (p : Int × ByteArray) : Ld := ldP 0 (fnOf Tryz.f81).ntmps rel81 .normal (st81 l p)
def ob81 (l : TLq) (p : Int × ByteArray) : Obs := [(ld81 l p, .loop (lpB 0 (fnOf Tryz.f81).body), st81 l (0, hd79 l))]
theorem body81 (l : TLq) (p : Int × ByteArray) : bodyT ((cfg w0).at cs81) 40 [ld81 l p] 40 (fnOf Tryz.f81) [.vec intK l] =
    gO (in64 l.length) (gO (catB recS (itoB l.length)) (gO (catB (recS ++ itoB l.length) nlB) (
      bif decide (((p.2.size : Nat) : Int) > 4096) then some (ob81 l p, .tup [St_ mtL, I 26]) else some (ob81 l p, .tup [St_ p.2, I 0])))) := by kernel_rfl
def lineB (x : Tup intK) : ByteArray := bif i1 x == -1 then misN else (secS ++ itoB (i1 x)) ++ nlB
def outB (l : TLq) : ByteArray := l.foldl (fun s x => s ++ lineB x) (hd79 l)
end
end Go.Proofs.YtifnpljmjhnbaaaGreatDoor

namespace Go.Proofs.YtifnpljmjhnbaaaGreatDoor
open Go Go.Am Go.RowKit
set_option maxRecDepth 100000
variable {w0 : World}
noncomputable section


theorem firstZ_zeroP : ∀ {l : List Int}, firstZ l = 0 → ∀ e ∈ l, e = 0
  | [], _, e, h => by cases h
  | x :: xs, hz, e, h => by
    unfold firstZ at hz
    obtain ⟨h1, h2⟩ := first_zero hz
    rcases List.mem_cons.1 h with rfl | h
    · exact h1
    · exact firstZ_zeroP h2 e h
theorem chk_okP {r : TLq} (h : chkR r = 0) : r.length ≤ 1024 ∧ 0 < r.length ∧ ∀ x ∈ r, -1 ≤ i1 x ∧ i1 x ≤ maxE := by
  obtain ⟨h1, h⟩ := first_zero h
  obtain ⟨h2, h⟩ := first_zero h
  obtain ⟨h3, _⟩ := first_zero h
  refine ⟨?_, ?_, fun x hx => ?_⟩
  · unfold maE whenZ at h2
    cases hd : decide ((r.length : Int) > 1024) with
    | true => rw [hd] at h2; cases h2
    | false => have := of_decide_eq_false hd; omega
  · cases r with
    | nil => cases h1
    | cons => simp
  · unfold rgE at h3
    exact within_zero (firstZ_zeroP h3 (withinZ (i1 x) (-1) maxE) (by rw [List.map_map]; exact List.mem_map.2 ⟨x, hx, rfl⟩))

theorem digs_len : ∀ (f m : Nat) (acc : List UInt8), (digs f m acc).length ≤ acc.length + f
  | 0, _, acc => Nat.le_add_right _ _
  | f + 1, m, acc => by
    unfold digs
    cases Nat.blt m 10 with
    | true => simp only [List.length_cons]; omega
    | false =>
      have := digs_len f (m / 10) (UInt8.ofNat (48 + m % 10) :: acc)
      simp only [List.length_cons] at this
      simp only
      omega
theorem itoB_size {n : Int} (h : 0 ≤ n) : (itoB n).size ≤ 20 := by
  obtain ⟨m, rfl⟩ : ∃ m : Nat, n = (m : Int) := ⟨n.toNat, by omega⟩
  have : (itoB (m : Int)).size = (digs 20 m []).length := by rw [← bl_len]; unfold itoB; rw [bl_mkB]; rfl
  rw [this]
  have := digs_len 20 m []
  simp only [List.length_nil] at this
  omega
theorem sizes : recS.size = 7 ∧ secS.size = 7 ∧ misN.size = 8 ∧ nlB.size = 1 := ⟨rfl, rfl, rfl, rfl⟩
theorem lineB_size {x : Tup intK} (h : -1 ≤ i1 x) : (lineB x).size ≤ 28 := by
  obtain ⟨_, s2, s3, s4⟩ := sizes
  unfold lineB
  cases hx : (i1 x == -1) with
  | true => simp only [cond_true]; omega
  | false =>
    have : i1 x ≠ -1 := by simpa using hx
    have := itoB_size (n := i1 x) (by omega)
    simp only [cond_false, size_app]
    omega
theorem hd79_size (l : TLq) : (hd79 l).size ≤ 28 := by
  obtain ⟨s1, _, _, s4⟩ := sizes
  have := itoB_size (n := (l.length : Int)) (by omega)
  unfold hd79
  rw [size_app, size_app]
  omega
theorem cat_ok {a b : ByteArray} (h : a.size + b.size ≤ 1000000) : catB a b = true := (Nat.ble_eq ..).mpr (by omega)
theorem app_assoc (a b c : ByteArray) : a ++ b ++ c = a ++ (b ++ c) := bl_inj (by simp only [bl_append, List.append_assoc])
def gxP (x : Tup intK) (s : ByteArray) : X × ByteArray := (.normal, s ++ lineB x)
theorem runP (l : TLq) : lsRun 0 gxP l 0 (hd79 l) = (.exit 0, (((0 + l.length : Nat) : Int), outB l)) := lsRun_fold (h := fun x s => s ++ lineB x) 0 l 0 _ (fun _ _ _ => rfl)
theorem nth_mem {l : TLq} {j : Nat} (h : j < l.length) : nth l j ∈ l := by
  rw [show nth l j = l[j] by simp [nth, h]]
  exact List.getElem_mem h
theorem l79 (h0 : Lib0 w0) {l : TLq} (hc : chkR l = 0) : LdT ((cfg w0).at cs79) (ld79 l (((0 + l.length : Nat) : Int), outB l)) (.loop (lpB 0 (fnOf Tryz.f79).body)) (st79 l (0, hd79 l)) := by
  obtain ⟨h1, h2, h3⟩ := chk_okP hc
  obtain ⟨s1, s2, s3, s4⟩ := sizes
  have hm : maxE = 10000000000000 := rfl
  exact ldT_ls (at_ok (cfg_ok w0) cs79) (at_sp h0 (cs := cs79) ⟨gd135 h0, gd34 h0, trivial⟩) (N := (fnOf Tryz.f79).ntmps) (rel := rel79) (B := lpB 0 (fnOf Tryz.f79).body) (id := 0) l (by omega) (st79 l) gxP (fun j s => s.size ≤ 28 + 28 * j)
    (fun j s hj hs => .leaf (by
      have hx := h3 _ (nth_mem hj)
      have hb := lineB_size hx.1
      refine (round79 l (j : Int) s).trans ?_
      rw [lt_t hj, inO_nat hj, Int.toNat_natCast]
      unfold gxP
      unfold lineB at hb ⊢
      cases hm1 : (i1 (nth l j) == -1) with
      | true =>
        simp only [cond_true]
        unfold gN
        rw [cat_ok (by omega)]
        rfl
      | false =>
        have hne : i1 (nth l j) ≠ -1 := by simpa using hm1
        have hit := itoB_size (n := i1 (nth l j)) (by omega)
        rw [hm1] at hb
        simp only [cond_false, size_app] at hb
        simp only [cond_true, cond_false]
        unfold gN
        rw [show in64 (i1 (nth l j)) = true by unfold in64; rw [decide_eq_true (show 0 ≤ i1 (nth l j) by omega), decide_eq_true (show i1 (nth l j) ≤ 1000000000000000 by omega)]; rfl,
          cat_ok (by omega), cat_ok (a := secS ++ itoB (i1 (nth l j))) (by rw [size_app]; omega), cat_ok (a := s) (by simp only [size_app]; omega)]
        rfl)) (fun j s s' hj hs h => by
      cases h
      have hb := lineB_size (h3 _ (nth_mem hj)).1
      rw [size_app]
      omega)
    (fun s _ => .leaf ((round79 l _ s).trans (by rw [ge_f]; rfl))) (a0 := hd79 l) (by have := hd79_size l; omega) (runP l)
theorem l81 (h0 : Lib0 w0) {l : TLq} (hc : chkR l = 0) : LdT ((cfg w0).at cs81) (ld81 l (((0 + l.length : Nat) : Int), outB l)) (.loop (lpB 0 (fnOf Tryz.f81).body)) (st81 l (0, hd79 l)) := by
  obtain ⟨h1, h2, h3⟩ := chk_okP hc
  obtain ⟨s1, s2, s3, s4⟩ := sizes
  have hm : maxE = 10000000000000 := rfl
  exact ldT_ls (at_ok (cfg_ok w0) cs81) (at_sp h0 (cs := cs81) ⟨gd140 h0, trivial⟩) (N := (fnOf Tryz.f81).ntmps) (rel := rel81) (B := lpB 0 (fnOf Tryz.f81).body) (id := 0) l (by omega) (st81 l) gxP (fun j s => s.size ≤ 28 + 28 * j)
    (fun j s hj hs => .leaf (by
      have hx := h3 _ (nth_mem hj)
      have hb := lineB_size hx.1
      refine (round81 l (j : Int) s).trans ?_
      rw [lt_t hj, inO_nat hj, Int.toNat_natCast]
      unfold gxP
      unfold lineB at hb ⊢
      cases hm1 : (i1 (nth l j) == -1) with
      | true =>
        simp only [cond_true]
        unfold gN
        rw [cat_ok (by omega)]
        rfl
      | false =>
        have hne : i1 (nth l j) ≠ -1 := by simpa using hm1
        have hit := itoB_size (n := i1 (nth l j)) (by omega)
        rw [hm1] at hb
        simp only [cond_false, size_app] at hb
        simp only [cond_true, cond_false]
        unfold gN
        rw [show in64 (i1 (nth l j)) = true by unfold in64; rw [decide_eq_true (show 0 ≤ i1 (nth l j) by omega), decide_eq_true (show i1 (nth l j) ≤ 1000000000000000 by omega)]; rfl,
          cat_ok (a := s) (by omega), cat_ok (a := s ++ secS) (by rw [size_app]; omega), cat_ok (a := s ++ secS ++ itoB (i1 (nth l j))) (by simp only [size_app]; omega)]
        simp only [cond_true]
        rw [show s ++ secS ++ itoB (i1 (nth l j)) ++ nlB = s ++ (secS ++ itoB (i1 (nth l j)) ++ nlB) by simp only [app_assoc]]
        rfl)) (fun j s s' hj hs h => by
      cases h
      have hb := lineB_size (h3 _ (nth_mem hj)).1
      rw [size_app]
      omega)
    (fun s _ => .leaf ((round81 l _ s).trans (by rw [ge_f]; rfl))) (a0 := hd79 l) (by have := hd79_size l; omega) (runP l)
abbrev BI := ByteArray × Int
def biD (x : BI) : D := .tup [St_ x.1, I x.2]
def prO (l : TLq) : BI := bif decide ((((outB l).size : Nat) : Int) > 4096) then (mtL, 26) else (outB l, 0)
def prP (l : TLq) : BI := bif chkR l != 0 then (mtL, chkR l) else prO l
theorem heads (l : TLq) (h : l.length ≤ 100000) : in64 l.length = true ∧ catB recS (itoB l.length) = true ∧ catB (recS ++ itoB l.length) nlB = true := by
  obtain ⟨s1, _, _, s4⟩ := sizes
  have := itoB_size (n := (l.length : Int)) (by omega)
  exact ⟨by unfold in64; rw [decide_eq_true (show (0 : Int) ≤ l.length by omega), decide_eq_true (show (l.length : Int) ≤ 1000000000000000 by omega)]; rfl, cat_ok (by omega), cat_ok (by rw [size_app]; omega)⟩
theorem fn79 (h0 : Lib0 w0) (l : TLq) (hg : sm l = true) : FnD (cfg w0) 79 [.vec intK l] (biD (prP l)) := by
  have hcs : Gds (cfg w0) cs79 := ⟨gd135 h0, gd34 h0, trivial⟩
  obtain ⟨k1, k2, k3⟩ := heads l (Nat.le_of_ble_eq_true hg)
  have hb := body79 (w0 := w0) l (((0 + l.length : Nat) : Int), outB l)
  unfold prP
  unfold gO at hb
  rw [hg, k1, k2, k3] at hb
  cases hc : (chkR l != 0) with
  | true =>
    rw [hc] at hb
    exact fnD_t (cfg_ok w0) h0 hcs (fd := fnOf Tryz.f79) rfl hb trivial
  | false =>
    have hc0 : chkR l = 0 := by simpa using hc
    rw [hc] at hb
    unfold prO
    simp only [cond_true, cond_false] at hb ⊢
    cases hs : decide ((((outB l).size : Nat) : Int) > 4096) with
    | true => rw [hs] at hb; exact fnD_lp (cfg_ok w0) h0 hcs (g := 79) (fd := fnOf Tryz.f79) rfl hb (l79 h0 hc0)
    | false => rw [hs] at hb; exact fnD_lp (cfg_ok w0) h0 hcs (g := 79) (fd := fnOf Tryz.f79) rfl hb (l79 h0 hc0)
def c79 : Ct := ct 79 [.v intK] fun a => .br (sm a.1) (.leaf (biD (prP a.1))) .bad
theorem gd79 (h0 : Lib0 w0) : Gd (cfg w0) c79 := gd_sig fun a d hd => by
  obtain ⟨l, u⟩ := a
  obtain ⟨hg, hd⟩ := br_run hd
  cases hd
  exact fn79 h0 l hg
def okR (l : TLq) : Bool := chkR l == 0
theorem fn81 (h0 : Lib0 w0) (l : TLq) (hg : okR l = true) : FnD (cfg w0) 81 [.vec intK l] (biD (prO l)) := by
  have hc0 : chkR l = 0 := by unfold okR at hg; simpa using hg
  obtain ⟨k1, k2, k3⟩ := heads l (by have := (chk_okP hc0).1; omega)
  have hb := body81 (w0 := w0) l (((0 + l.length : Nat) : Int), outB l)
  unfold gO at hb
  rw [k1, k2, k3] at hb
  unfold prO
  simp only [cond_true] at hb
  cases hs : decide ((((outB l).size : Nat) : Int) > 4096) with
  | true => rw [hs] at hb; exact fnD_lp (cfg_ok w0) h0 (cs := cs81) ⟨gd140 h0, trivial⟩ (g := 81) (fd := fnOf Tryz.f81) rfl hb (l81 h0 hc0)
  | false => rw [hs] at hb; exact fnD_lp (cfg_ok w0) h0 (cs := cs81) ⟨gd140 h0, trivial⟩ (g := 81) (fd := fnOf Tryz.f81) rfl hb (l81 h0 hc0)
def c81 : Ct := ct 81 [.v intK] fun a => .br (okR a.1) (.leaf (biD (prO a.1))) .bad
theorem gd81 (h0 : Lib0 w0) : Gd (cfg w0) c81 := gd_sig fun a d hd => by
  obtain ⟨l, u⟩ := a
  obtain ⟨hg, hd⟩ := br_run hd
  cases hd
  exact fn81 h0 l hg
end
end Go.Proofs.YtifnpljmjhnbaaaGreatDoor
