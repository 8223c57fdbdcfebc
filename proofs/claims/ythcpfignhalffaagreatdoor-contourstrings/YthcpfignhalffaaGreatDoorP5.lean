/-
 A part of the proof of the statement that the claim names: see the last file.
-/
import Derived.Test.YthcpfignhalffaaGreatDoorP4
import Derived.Test.YthcpfignhalffaaGreatDoorAm5
import Derived.Test.YthcpfignhalffaaGreatDoorP3
import Derived.Test.YthcpfignhalffaaGreatDoorC6
namespace Go.Proofs.YthcpfignhalffaaGreatDoor
open Go Go.Am Go.RowKit
set_option maxRecDepth 100000
variable {w0 : World}
noncomputable section
theorem nth_map {l : List (List UInt8)} {i : Nat} (h : i < l.length) : (nth (l.map tupS) i).1 = mkB l[i] := by
 unfold nth
 rw [List.getD_eq_getElem?_getD, List.getElem?_map, List.getElem?_eq_getElem h]
 rfl
theorem spl_small (c : UInt8) : ∀ l : List UInt8, ∀ x ∈ spl c l, x.length ≤ l.length
 | [], x, hx => by
   simp only [spl, List.mem_singleton] at hx
   rw [hx]
   exact Nat.le_refl _
 | b :: l, x, hx => by
   cases hb : (b == c) with
   | true =>
     rw [spl_t hb] at hx
     rcases List.mem_cons.1 hx with rfl | hx
     ·exact Nat.zero_le _
     ·have := spl_small c l x hx
      simp only [List.length_cons]; omega
   | false =>
     rw [spl_f hb] at hx
     have ih := spl_small c l
     cases hs : spl c l with
     | nil =>
       rw [hs] at hx
       simp only [consH, List.mem_singleton] at hx
       rw [hx]; simp
     | cons y ys =>
       rw [hs] at hx ih
       rcases List.mem_cons.1 (show x ∈ (b :: y) :: ys from hx) with rfl | hx
       ·have := ih y (by simp)
        simp only [List.length_cons]; omega
       ·have := ih x (by simp [hx])
        simp only [List.length_cons]; omega
theorem dg_int (l : List UInt8) : (dgL l 14).2 = (intL l).2 ∧ ((intL l).2 = true → (dgL l 14).1 = (intL l).1) := by
 obtain ⟨h1, h2⟩ := intL_num l
 unfold dgL
 cases hn : (numL l 14).2 with
 | true => rw [hn] at h1; exact ⟨h1.symm, fun h => by rw [h1] at h; cases h⟩
 | false => rw [hn] at h1; exact ⟨h1.symm, fun h => (h2 h).symm⟩
theorem goW_true : ∀ (ws : SLs) (l : TLi), (goW ws l true).2 = true
 | [], _ => rfl
 | _ :: ws, l => goW_true ws _
abbrev P3i := TLi × Int × Int
def stI (W : SLs) (i : Int) (k : Nat) (p : P3i) : X × P3i := bif (dgW W (k : Int)).2 then (.normal, p.1 ++ [t1 (dgW W (k : Int)).1], p.2.1, p.2.2) else (.ret, p.1, i, 25)
theorem drop_cons {W : SLs} {k : Nat} (h : k < W.length) : W.drop k = nth W k :: W.drop (k + 1) := by
 rw [List.drop_eq_getElem_cons h]
 congr 1
 simp [nth, h]
theorem dgW_nat (W : SLs) (k : Nat) : dgW W (k : Int) = dgL (bl (nth W k).1) 14 := by unfold dgW lnL; rw [Int.toNat_natCast]; rfl
theorem runI (W : SLs) (i : Int) : ∀ (f k : Nat) (l : TLi) (r e : Int), k + f = W.length →
  ((goW (W.drop k) l false).2 = false → rgRun 2 (stI W i) f k (l, r, e) = (.exit 2, ((k + f : Nat) : Int), (goW (W.drop k) l false).1, r, e)) ∧
  ((goW (W.drop k) l false).2 = true → ∃ (k' : Int) (l' : TLi), rgRun 2 (stI W i) f k (l, r, e) = (.ret, k', l', i, 25))
 | 0, k, l, r, e, h => by
   rw [List.drop_eq_nil_of_le (by omega)]
   exact ⟨fun _ => rfl, fun h => by cases h⟩
 | f + 1, k, l, r, e, h => by
   have hk : k < W.length := by omega
   obtain ⟨d1, d2⟩ := dg_int (bl (nth W k).1)
   rw [drop_cons hk]
   have hg : goW (nth W k :: W.drop (k + 1)) l false = goW (W.drop (k + 1)) (l ++ [t1 (intL (bl (nth W k).1)).1]) (!(intL (bl (nth W k).1)).2) := rfl
   rw [hg]
   unfold rgRun
   cases ho : (intL (bl (nth W k).1)).2 with
   | true =>
     have es : stI W i k (l, r, e) = (.normal, l ++ [t1 (intL (bl (nth W k).1)).1], r, e) := by
      unfold stI
      rw [dgW_nat, d1, ho, d2 ho]
      rfl
     rw [es]
     have ih := runI W i f (k + 1) (l ++ [t1 (intL (bl (nth W k).1)).1]) r e (by omega)
     rw [show k + (f + 1) = k + 1 + f by omega]
     exact ih
   | false =>
     have es : stI W i k (l, r, e) = (.ret, l, i, 25) := by
      unfold stI
      rw [dgW_nat, d1, ho]
      rfl
     rw [es]
     refine ⟨fun h => ?_, fun _ => ⟨_, _, rfl⟩⟩
     have := goW_true (W.drop (k + 1)) (l ++ [t1 (intL (bl (nth W k).1)).1])
     rw [show (!false) = true from rfl, this] at h
     cases h
theorem cs89_gd (h0 : Lib0 w0) : Gds (cfg w0) cs89 := ⟨gd93 h0, gd165 h0, gd20 h0, trivial⟩
theorem ldI (h0 : Lib0 w0) (L : SLs) (n : Int) (a : Qz) (W : SLs) (hW : 1 ≤ W.length) (hW2 : W.length ≤ 5000) {x : X} {k : Int} {p : P3i} (hx : rgRun 2 (stI W a.i) (W.length - 1) 1 ([], a.r, a.e) = (x, k, p)) :
  LdT ((cfg w0).at cs89) (ld89i L n a W (outX 2 x) (k, p)) (.loop (lpB 2 (fnOf Tryz.f89).body)) (st89i L n a W (1, [], a.r, a.e)) :=
 ldT_rgs (at_ok (cfg_ok w0) cs89) (at_sp h0 (cs89_gd h0)) (N := N89) (rel := rel89i) (B := lpB 2 (fnOf Tryz.f89).body) (id := 2) (k := W.length) (by omega) (fun p : Int × P3i => st89i L n a W p) (stI W a.i) (fun j p => p.1.length ≤ j)
  (fun j p hj hp => .leaf (by
   obtain ⟨l, r, e⟩ := p
   have hp : l.length ≤ j := hp
   refine (round89i L n a W (j : Int) r e l).trans ?_
   have hm : ∀ v, rmI (l ++ [t1 v]) = true := fun v => by
    unfold rmI
    rw [List.length_append, List.length_singleton, (Nat.ble_eq ..).mpr (by omega), (Nat.ble_eq ..).mpr (by omega)]; rfl
   unfold gN stI
   rw [show inL W (j : Int) = true from inL_nat hj, decide_eq_true (show (j : Int) < (W.length : Nat) by omega), hm]
   cases (dgW W (j : Int)).2 <;> rfl))
  (fun j p p' hj hp h => by
   obtain ⟨l, r, e⟩ := p
   have hp : l.length ≤ j := hp
   unfold stI at h
   cases hd : (dgW W (j : Int)).2 with
   | true =>
     rw [hd] at h
     cases h
     show (l ++ _).length ≤ j + 1
     rw [List.length_append, List.length_singleton]; omega
   | false => rw [hd] at h; cases h)
  (fun p _ => .leaf ((round89i L n a W _ p.2.1 p.2.2 p.1).trans (by rw [decide_eq_false (by omega)]; rfl))) (i0 := 1) (a0 := ([], a.r, a.e)) hW (Nat.zero_le _) hx
end
end Go.Proofs.YthcpfignhalffaaGreatDoor
namespace Go.Proofs.YthcpfignhalffaaGreatDoor
open Go Go.Am Go.RowKit
set_option maxRecDepth 100000
variable {w0 : World}
noncomputable section
def rch (p : Rws) (W : SLs) : Bool := ((w0L W).toList == (wordL p).toList) && mayL p W
theorem lineOk_rch (p : Rws) (W : SLs) : lineOk p true W = (rch p W && !(goL W).2) := by
 unfold lineOk rch
 cases ((w0L W).toList == (wordL p).toList) <;> cases (goL W).2 <;> cases mayL p W <;> rfl
theorem goL_n (W : SLs) : (goL W).1.length = W.length - 1 := by
 unfold goL
 rw [goW_len, wsL_eq, List.length_drop]
 simp
theorem tree89_eq {L : SLs} {n : Int} {a : Qz} {W : SLs} {K : Rn'} {j : Nat} (hi : a.i = (j : Int)) (hq : a.q.length = j) (hn : (j : Int) < n) (hj : j < L.length) (hs : smS (lnL L a.i) = true) (hW : 1 ≤ W.length) :
  tree89 L n a W K = bif rch a.q W then K else rt89 L n a := by
 have h1 : inL L a.i = true := by rw [hi]; exact inL_nat hj
 have h2 : inL W 0 = true := inL_nat (j := 0) hW
 unfold tree89 gN
 rw [decide_eq_true (show a.i < n by omega), h1, hs, h2]
 simp only [cond_true]
 unfold rch wordL mayL
 rw [goL_n]
 by_cases h0 : j = 0
 ·rw [show Nat.beq a.q.length 0 = true by rw [Nat.beq_eq]; omega, show (a.i == 0) = true by rw [hi, h0]; rfl]
  simp only [cond_true]
  have hc : chR L n a W K = K := by unfold chR; rw [decide_eq_false (by omega)]; rfl
  rw [hc]
  cases ((w0L W).toList == wGrid.toList) with
  | false => rfl
  | true =>
    simp only [Bool.not_true, cond_false, Bool.true_and]
    by_cases h3 : W.length = 3
    ·rw [h3, show Nat.beq (3 - 1) 2 = true from rfl, show (((3 : Nat) : Int) != 3) = false from rfl]; rfl
    ·rw [show Nat.beq (W.length - 1) 2 = false by cases hx : Nat.beq (W.length - 1) 2 with | false => rfl | true => rw [Nat.beq_eq] at hx; omega, show (((W.length : Nat) : Int) != 3) = true by rw [bne_iff_ne]; omega]; rfl
 ·rw [show Nat.beq a.q.length 0 = false by cases hx : Nat.beq a.q.length 0 with | false => rfl | true => rw [Nat.beq_eq] at hx; omega, show (a.i == 0) = false by rw [beq_eq_false_iff_ne]; omega]
  simp only [cond_false]
  unfold chR gN
  rw [decide_eq_true (show a.i > 0 by omega), h2]
  simp only [cond_true]
  cases ((w0L W).toList == wRow.toList) with
  | false => rfl
  | true =>
    simp only [Bool.not_true, cond_false, Bool.true_and]
    by_cases h3 : W.length < 2
    ·rw [decide_eq_true (by omega), show Nat.blt 0 (W.length - 1) = false by cases hx : Nat.blt 0 (W.length - 1) with | false => rfl | true => rw [Nat.blt_eq] at hx; omega]; rfl
    ·rw [decide_eq_false (by omega), show Nat.blt 0 (W.length - 1) = true by rw [Nat.blt_eq]; omega]; rfl
abbrev Q3 := Rws × Int × Int
def qOf (i : Int) (a : Q3) : Qz := ⟨a.1, i, a.2.1, a.2.2⟩
def stp89 (P : List (List UInt8)) (j : Nat) (a : Q3) : X × Q3 := bif lineOk a.1 true (splW (P.getD j [])) then (.normal, nxP a.1 (P.getD j []), a.2) else (.ret, a.1, (j : Int), 25)
theorem wL_eq {P : List (List UInt8)} {j : Nat} (hj : j < P.length) : wL (P.map tupS) (j : Int) = splW P[j] ∧ lnL (P.map tupS) (j : Int) = mkB P[j] := by
 have e : lnL (P.map tupS) (j : Int) = mkB P[j] := by unfold lnL; rw [Int.toNat_natCast]; exact nth_map hj
 refine ⟨?_, e⟩
 unfold wL
 rw [e]
 unfold splC splW
 rw [bl_mkB]
 rfl
theorem rd89 (h0 : Lib0 w0) {P : List (List UInt8)} (hP : P.length ≤ 5000) (hPs : ∀ x ∈ P, x.length ≤ 4096) {j : Nat} {a : Q3} (hj : j < P.length - 1) (ha : a.1.length = j) :
  RdOK ((cfg w0).at cs89) N89 rel89 (lpB 0 (fnOf Tryz.f89).body) (st89 (P.map tupS) ((P.length - 1 : Nat) : Int) (qOf (j : Int) a)) (stp89 P j a).1 (st89 (P.map tupS) ((P.length - 1 : Nat) : Int) (qOf (nx j (stp89 P j a)).1 (nx j (stp89 P j a)).2)) := by
 obtain ⟨q, r, e⟩ := a
 have ha : q.length = j := ha
 have hj1 : j < P.length := by omega
 obtain ⟨eW, eL⟩ := wL_eq hj1
 have hgd : P.getD j [] = P[j] := by rw [List.getD_eq_getElem?_getD, List.getElem?_eq_getElem hj1]; rfl
 have hlen := hPs P[j] (List.getElem_mem hj1)
 have hcnt := List.count_le_length (a := (32 : UInt8)) (l := P[j])
 have hWl : (splW P[j]).length = P[j].count 32 + 1 := by unfold splW; rw [List.length_map, spl_len]
 have hsm : smS (lnL (P.map tupS) (qOf (j : Int) (q, r, e)).i) = true := by
  show smS (lnL (P.map tupS) (j : Int)) = true
  rw [eL]
  exact (Nat.ble_eq ..).mpr (by rw [← bl_len, bl_mkB]; omega)
 have key : ∀ K : Rn', tree89 (P.map tupS) ((P.length - 1 : Nat) : Int) (qOf (j : Int) (q, r, e)) (wL (P.map tupS) (qOf (j : Int) (q, r, e)).i) K = bif rch q (splW P[j]) then K else rt89 (P.map tupS) ((P.length - 1 : Nat) : Int) (qOf (j : Int) (q, r, e)) := fun K => by
  rw [show wL (P.map tupS) (qOf (j : Int) (q, r, e)).i = splW P[j] from eW]
  exact tree89_eq (j := j) rfl ha (by omega) (by rw [List.length_map]; exact hj1) hsm (by omega)
 unfold stp89
 rw [hgd]
 simp only
 rw [lineOk_rch]
 cases hr : rch q (splW P[j]) with
 | false =>
   simp only [Bool.false_and, cond_false]
   refine .leaf (L := [ld89i (P.map tupS) ((P.length - 1 : Nat) : Int) (qOf (j : Int) (q, r, e)) (wL (P.map tupS) (qOf (j : Int) (q, r, e)).i) .normal (0, [], 0, 0)]) ((round89n _ _ _ _).trans ?_)
   rw [key, hr]
   rfl
 | true =>
   obtain ⟨i1, i2⟩ := runI (splW P[j]) (j : Int) ((splW P[j]).length - 1) 1 [] r e (by omega)
   have hdr : (splW P[j]).drop 1 = wsL (splW P[j]) := (wsL_eq _).symm
   rw [hdr] at i1 i2
   cases hg : (goL (splW P[j])).2 with
   | true =>
     simp only [Bool.not_true, Bool.and_false, cond_false]
     obtain ⟨k', l', hx⟩ := i2 hg
     have hl := ldI h0 (P.map tupS) ((P.length - 1 : Nat) : Int) (qOf (j : Int) (q, r, e)) (splW P[j]) (by omega) (by omega) (x := .ret) (k := k') (p := (l', (j : Int), 25)) hx
     refine .one (b := .loop (lpB 2 (fnOf Tryz.f89).body)) (l := ld89i (P.map tupS) ((P.length - 1 : Nat) : Int) (qOf (j : Int) (q, r, e)) (splW P[j]) .ret (k', l', (j : Int), 25)) (mid := st89i (P.map tupS) ((P.length - 1 : Nat) : Int) (qOf (j : Int) (q, r, e)) (splW P[j]) (1, [], r, e))
      ((round89r (P.map tupS) ((P.length - 1 : Nat) : Int) (qOf (j : Int) (q, r, e)) (k', l', (j : Int), 25)).trans ?_) hl
     rw [key, hr]
     simp only [cond_true]
     unfold rK ob89i
     rw [show wL (P.map tupS) (qOf (j : Int) (q, r, e)).i = splW P[j] from eW]
     rfl
   | false =>
     simp only [Bool.not_false, Bool.and_true, cond_true]
     have hx := i1 hg
     have hl := ldI h0 (P.map tupS) ((P.length - 1 : Nat) : Int) (qOf (j : Int) (q, r, e)) (splW P[j]) (by omega) (by omega) (x := .exit 2) hx
     refine .one (b := .loop (lpB 2 (fnOf Tryz.f89).body)) (l := ld89i (P.map tupS) ((P.length - 1 : Nat) : Int) (qOf (j : Int) (q, r, e)) (splW P[j]) .normal (((1 + ((splW P[j]).length - 1) : Nat) : Int), (goW (wsL (splW P[j])) [] false).1, r, e)) (mid := st89i (P.map tupS) ((P.length - 1 : Nat) : Int) (qOf (j : Int) (q, r, e)) (splW P[j]) (1, [], r, e))
      ((round89n (P.map tupS) ((P.length - 1 : Nat) : Int) (qOf (j : Int) (q, r, e)) (((1 + ((splW P[j]).length - 1) : Nat) : Int), (goW (wsL (splW P[j])) [] false).1, r, e)).trans ?_) hl
     ·rw [key, hr]
      simp only [cond_true]
      unfold nK ob89i gN
      have hm : rmR ((qOf (j : Int) (q, r, e)).q ++ [rowT (goW (wsL (splW P[j])) [] false).1]) = true := by
       unfold rmR
       show (Nat.ble ((q ++ [rowT _]).length * 24) _ && Nat.ble (q ++ [rowT _]).length _) = true
       rw [List.length_append, List.length_singleton, (Nat.ble_eq ..).mpr (by omega), (Nat.ble_eq ..).mpr (by omega)]; rfl
      rw [show wL (P.map tupS) (qOf (j : Int) (q, r, e)).i = splW P[j] from eW, hm]
      rfl
theorem run89 (P : List (List UInt8)) : ∀ (f j : Nat) (q : Rws) (r e : Int), j + f + 1 = P.length → q.length = j → match goP (P.drop j) q with
  | .bad q' => (∃ (k : Int) (q2 : Rws), rgRun 0 (stp89 P) f j (q, r, e) = (X.ret, k, q2, (((q'.length : Nat) : Int)), (25 : Int))) ∨ (∃ q2 : Rws, rgRun 0 (stp89 P) f j (q, r, e) = (X.exit 0, ((j + f : Nat) : Int), q2, r, e) ∧ P.getD (j + f) [] ≠ [] ∧ q'.length = j + f)
  | .good q' => rgRun 0 (stp89 P) f j (q, r, e) = (X.exit 0, ((j + f : Nat) : Int), q', r, e) ∧ P.getD (j + f) [] = [] ∧ q'.length = j + f
 | 0, j, q, r, e, h, hq => by
   have hj : j < P.length := by omega
   rw [List.drop_eq_getElem_cons hj, List.drop_eq_nil_of_le (by omega)]
   have hg : P.getD (j + 0) [] = P[j] := by rw [Nat.add_zero, List.getD_eq_getElem?_getD, List.getElem?_eq_getElem hj]; rfl
   rw [hg]
   cases hx : P[j] with
   | nil => exact ⟨rfl, rfl, hq⟩
   | cons b l => exact .inr ⟨q, rfl, by simp, hq⟩
 | f + 1, j, q, r, e, h, hq => by
   have hj : j < P.length := by omega
   have hj2 : j + 1 < P.length := by omega
   have hd : P.drop j = P[j] :: P[j + 1] :: P.drop (j + 1 + 1) := by rw [List.drop_eq_getElem_cons hj, List.drop_eq_getElem_cons hj2]
   have hd2 : P.drop (j + 1) = P[j + 1] :: P.drop (j + 1 + 1) := List.drop_eq_getElem_cons hj2
   have hg : P.getD j [] = P[j] := by rw [List.getD_eq_getElem?_getD, List.getElem?_eq_getElem hj]; rfl
   have hgo : goP (P.drop j) q = bif lineOk q true (splW P[j]) then goP (P.drop (j + 1)) (nxP q P[j]) else .bad q := by rw [hd, hd2]; rfl
   rw [hgo]
   unfold rgRun
   cases hok : lineOk q true (splW P[j]) with
   | false =>
     have es : stp89 P j (q, r, e) = (.ret, q, (j : Int), 25) := by
      unfold stp89
      rw [hg]
      simp only [hok]
      rfl
     rw [es]
     exact .inl ⟨_, q, by rw [hq]⟩
   | true =>
     have es : stp89 P j (q, r, e) = (.normal, nxP q P[j], r, e) := by
      unfold stp89
      rw [hg]
      simp only [hok]
      rfl
     rw [es]
     simp only [cond_true]
     have ih := run89 P f (j + 1) (nxP q P[j]) r e (by omega) (by
      show (lineE q (splW P[j])).length = j + 1
      rw [lineE_len, hq])
     rw [show j + (f + 1) = j + 1 + f by omega]
     exact ih
theorem ldO (h0 : Lib0 w0) {P : List (List UInt8)} (h1 : 1 ≤ P.length) (hP : P.length ≤ 5000) (hPs : ∀ x ∈ P, x.length ≤ 4096) {x : X} {i : Int} {a : Q3} (hx : rgRun 0 (stp89 P) (P.length - 1) 0 ([], 0, 0) = (x, i, a)) :
  LdT ((cfg w0).at cs89) (ld89 (P.map tupS) ((P.length - 1 : Nat) : Int) (outX 0 x) (qOf i a)) (.loop (lpB 0 (fnOf Tryz.f89).body)) (st89 (P.map tupS) ((P.length - 1 : Nat) : Int) ⟨[], 0, 0, 0⟩) :=
 ldT_rg (at_ok (cfg_ok w0) cs89) (at_sp h0 (cs89_gd h0)) (N := N89) (rel := rel89) (B := lpB 0 (fnOf Tryz.f89).body) (id := 0) (k := P.length - 1) (by omega) (fun p : Int × Q3 => st89 (P.map tupS) ((P.length - 1 : Nat) : Int) (qOf p.1 p.2)) (stp89 P) (fun j a => a.1.length = j)
  (fun j a hj ha => rd89 h0 hP hPs hj ha)
  (fun j a a' hj ha h => by
   unfold stp89 at h
   cases hok : lineOk a.1 true (splW (P.getD j [])) with
   | false => rw [hok] at h; cases h
   | true =>
     rw [hok] at h
     cases h
     show (lineE a.1 (splW (P.getD j []))).length = j + 1
     have ha : a.1.length = j := ha
     rw [lineE_len, ha])
  (fun a _ => .leaf (L := [ld89i (P.map tupS) ((P.length - 1 : Nat) : Int) (qOf ((P.length - 1 : Nat) : Int) a) (wL (P.map tupS) (qOf ((P.length - 1 : Nat) : Int) a).i) .normal (0, [], 0, 0)]) ((round89n _ _ (qOf _ a) _).trans (by
   unfold tree89
   rw [show decide ((qOf ((P.length - 1 : Nat) : Int) a).i < ((P.length - 1 : Nat) : Int)) = false from decide_eq_false (by show ¬ ((P.length - 1 : Nat) : Int) < ((P.length - 1 : Nat) : Int); omega)]
   rfl))) (a0 := ([], 0, 0)) rfl hx
end
end Go.Proofs.YthcpfignhalffaaGreatDoor
namespace Go.Proofs.YthcpfignhalffaaGreatDoor
open Go Go.Am Go.RowKit
set_option maxRecDepth 100000
variable {w0 : World}
noncomputable section
def stC (q : Rws) (w n : Int) (j : Nat) (p : P3i) : X × P3i := bif (((rowQ (nth q j)).length : Nat) : Int) != w then (.ret, p.1, n, 2) else (.normal, p.1 ++ rowQ (nth q j), p.2.1, p.2.2)
theorem runC (q : Rws) (g : Gr) (n : Int) : ∀ (f j : Nat) (l : TLi) (r e : Int), j + f = q.length →
  ((q.drop j).any (neQ g) = false → rgRun 4 (stC q g.w n) f j (l, r, e) = (.exit 4, ((j + f : Nat) : Int), l ++ flQ (q.drop j), r, e)) ∧
  ((q.drop j).any (neQ g) = true → ∃ (k : Int) (l' : TLi), rgRun 4 (stC q g.w n) f j (l, r, e) = (.ret, k, l', n, 2))
 | 0, j, l, r, e, h => by
   rw [List.drop_eq_nil_of_le (by omega)]
   exact ⟨fun _ => by rw [flQ_nil, List.append_nil]; rfl, fun h => by cases h⟩
 | f + 1, j, l, r, e, h => by
   have hj : j < q.length := by omega
   rw [List.drop_eq_getElem_cons hj, ← nthQ hj, List.any_cons, flQ_cons]
   unfold rgRun
   cases hn : neQ g (nth q j) with
   | true =>
     have es : stC q g.w n j (l, r, e) = (.ret, l, n, 2) := by
      unfold stC
      rw [show ((((rowQ (nth q j)).length : Nat) : Int) != g.w) = true from hn]
      rfl
     rw [es]
     exact ⟨fun h => (by cases h), fun _ => ⟨_, _, rfl⟩⟩
   | false =>
     have es : stC q g.w n j (l, r, e) = (.normal, l ++ rowQ (nth q j), r, e) := by
      unfold stC
      rw [show ((((rowQ (nth q j)).length : Nat) : Int) != g.w) = false from hn]
      rfl
     rw [es]
     have ih := runC q g n f (j + 1) (l ++ rowQ (nth q j)) r e (by omega)
     rw [List.append_assoc] at ih
     rw [show j + (f + 1) = j + 1 + f by omega]
     exact ih
theorem ldC' (h0 : Lib0 w0) (w h : Int) (q : Rws) (hq : 1 ≤ q.length) (hq2 : q.length ≤ 5000) (hf : (flQ q).length ≤ 5000) {r0 e0 : Int} {x : X} {k : Int} {p : P3i} (hx : rgRun 4 (stC q w (q.length : Nat)) (q.length - 1) 1 ([], r0, e0) = (x, k, p)) :
  LdT ((cfg w0).at cs89) (ld89c (q.length : Nat) w h q (outX 4 x) (k, p)) (.loop (lpB 4 (fnOf Tryz.f89).body)) (st89c (q.length : Nat) w h q (1, [], r0, e0)) :=
 ldT_rgs (at_ok (cfg_ok w0) cs89) (at_sp h0 (cs89_gd h0)) (N := N89) (rel := rel89c) (B := lpB 4 (fnOf Tryz.f89).body) (id := 4) (k := q.length) (by omega) (fun p : Int × P3i => st89c (q.length : Nat) w h q p) (stC q w (q.length : Nat)) (fun j p => p.1.length ≤ (flQ (q.take j)).length)
  (fun j p hj hp => .leaf (by
   obtain ⟨l, r, e⟩ := p
   have hp : l.length ≤ (flQ (q.take j)).length := hp
   have e1 := flQ_take hj
   have e2 := flQ_take_le q (j + 1)
   have e3 : (flQ (q.take (j + 1))).length = (flQ (q.take j)).length + (rowQ (nth q j)).length := by rw [e1, List.length_append]
   refine (round89c (q.length : Nat) w h q (j : Int) r e l).trans ?_
   have hin : inQ q (j : Int) = true := inA_t hj
   have hr : rwA q (j : Int) = rowQ (nth q j) := by unfold rwA; rw [Int.toNat_natCast]; rfl
   have hm : rmI (l ++ rowQ (nth q j)) = true := by
    unfold rmI
    rw [List.length_append, (Nat.ble_eq ..).mpr (by omega), (Nat.ble_eq ..).mpr (by omega)]; rfl
   unfold gN stC
   rw [hin, hr, hm, decide_eq_true (show (j : Int) < (q.length : Nat) by omega)]
   cases ((((rowQ (nth q j)).length : Nat) : Int) != w) <;> rfl))
  (fun j p p' hj hp h => by
   obtain ⟨l, r, e⟩ := p
   have hp : l.length ≤ (flQ (q.take j)).length := hp
   have e1 := flQ_take hj
   have e3 : (flQ (q.take (j + 1))).length = (flQ (q.take j)).length + (rowQ (nth q j)).length := by rw [e1, List.length_append]
   unfold stC at h
   cases hd : ((((rowQ (nth q j)).length : Nat) : Int) != w) with
   | true => rw [hd] at h; cases h
   | false =>
     rw [hd] at h
     cases h
     show (l ++ _).length ≤ _
     rw [List.length_append]; omega)
  (fun p _ => .leaf ((round89c (q.length : Nat) w h q _ p.2.1 p.2.2 p.1).trans (by rw [decide_eq_false (by omega)]; rfl))) (i0 := 1) (a0 := ([], r0, e0)) hq (Nat.zero_le _) hx
def en89 (L : SLs) : Int := IntKind.i64.wrap (((L.length : Nat) : Int) - 1)
def LS (s : ByteArray) : SLs := splC (cU 10) s
def ob89 (s : ByteArray) (x : X) (a : Qz) : Obs := [(ld89 (LS s) (en89 (LS s)) x a, .loop (lpB 0 (fnOf Tryz.f89).body), st89 (LS s) (en89 (LS s)) ⟨[], 0, 0, 0⟩)]
def ob89c (s : ByteArray) (w h : Int) (x : X) (a : Qz) (p : Pi) : Obs := (ld89c (en89 (LS s)) w h a.q x p, .loop (lpB 4 (fnOf Tryz.f89).body), st89c (en89 (LS s)) (gW a.q) (gH a.q) a.q (1, [], a.r, a.e)) :: ob89 s .normal a
def hd89 (s : ByteArray) (k : Bo') : Bo' := bif decide (((s.size : Nat) : Int) > 4096) then some ([], nl3 0 26) else bif s.toList == mtL.toList then some ([], nl3 0 25) else gOd (smS s) k
theorem body89r (s : ByteArray) (a : Qz) : bodyT ((cfg w0).at cs89) 40 [ld89 (LS s) (en89 (LS s)) .ret a] 40 (fnOf Tryz.f89) [St_ s] = hd89 s (some (ob89 s .ret a, nl3 a.r a.e)) := by
 obtain ⟨q, i, r, e⟩ := a
 kernel_rfl
def mid89 (s : ByteArray) (a : Qz) (K : Bo') : Bo' :=
 gOd (inL (LS s) (en89 (LS s))) (bif !((lnL (LS s) (en89 (LS s))).toList == mtL.toList) then some (ob89 s .normal a, nl3 (en89 (LS s)) 25) else
  gOd (inA a.q.length 0) (gOd (inA (hdR a.q).length 0) (gOd (inA a.q.length 0) (gOd (inA (hdR a.q).length 1) (bif IntKind.i64.wrap (en89 (LS s) - 1) != gH a.q then some (ob89 s .normal a, nl3 (en89 (LS s)) 2) else K)))))
theorem body89n (s : ByteArray) (a : Qz) (w h : Int) (p : Pi) : bodyT ((cfg w0).at cs89) 40 [ld89 (LS s) (en89 (LS s)) .normal a, ld89c (en89 (LS s)) w h a.q .normal p] 40 (fnOf Tryz.f89) [St_ s] =
  hd89 s (mid89 s a (gOd (smG ⟨w, h, p.2.1⟩) (bif chkG ⟨w, h, p.2.1⟩ != 0 then some (ob89c s w h .normal a p, nl3 (en89 (LS s)) (chkG ⟨w, h, p.2.1⟩)) else some (ob89c s w h .normal a p, .tup [gD ⟨w, h, p.2.1⟩, I 0, I 0])))) := by
 obtain ⟨q, i, r, e⟩ := a
 kernel_rfl
theorem body89m (s : ByteArray) (a : Qz) (w h : Int) (p : Pi) : bodyT ((cfg w0).at cs89) 40 [ld89 (LS s) (en89 (LS s)) .normal a, ld89c (en89 (LS s)) w h a.q .ret p] 40 (fnOf Tryz.f89) [St_ s] =
  hd89 s (mid89 s a (some (ob89c s w h .ret a p, nl3 p.2.2.1 p.2.2.2))) := by
 obtain ⟨q, i, r, e⟩ := a
 kernel_rfl
theorem hd89_f {s : ByteArray} (h : (gtT s != 0) = false) (K : Bo') : hd89 s K = K := by
 obtain ⟨h1, h2⟩ := gtT_le h
 have e2 : (s.toList == mtL.toList) = false := by
  rw [str_eq]
  cases hx : (bl s == bl mtL) with
  | false => rfl
  | true => exact absurd (by simpa using hx : bl s = bl mtL) (fun e => h2 (e.trans rfl))
 unfold hd89 gOd
 rw [decide_eq_false (show ¬ ((s.size : Nat) : Int) > 4096 by omega), e2, show smS s = true from (Nat.ble_eq ..).mpr (by omega)]
 rfl
theorem hd89_t {s : ByteArray} (h : (gtT s != 0) = true) (K : Bo') : hd89 s K = some ([], nl3 0 (gtT s)) := by
 unfold hd89 gtT firstZ firstZ firstZ whenZ
 unfold gtT firstZ firstZ firstZ whenZ at h
 cases h1 : decide (((s.size : Nat) : Int) > 4096) with
 | true => rfl
 | false =>
   rw [h1] at h
   cases h2 : (s.toList == mtL.toList) with
   | true => rfl
   | false => rw [h2] at h; cases h
theorem e87_val (b : Bool) (q : Rws) : e87 b q = bif b then 2 else chkG (gR q) := by
 unfold e87 firstZ firstZ firstZ whenZ
 cases b with
 | true => rfl
 | false =>
   simp only [cond_false]
   cases hx : (chkG (gR q) != 0) with
   | true => rfl
   | false => have : chkG (gR q) = 0 := by simpa using hx
              rw [this]; rfl
theorem fn89 (h0 : Lib0 w0) (s : ByteArray) : FnD (cfg w0) 89 [St_ s] (p3D (parP s)) := by
 have fin : ∀ {L : List Ld} {o : Obs} {d : D}, bodyT ((cfg w0).at cs89) 40 L 40 (fnOf Tryz.f89) [St_ s] = some (o, d) → Owed ((cfg w0).at cs89) o → FnD (cfg w0) 89 [St_ s] d :=
  fun h hO => fnD_t (cfg_ok w0) h0 (cs89_gd h0) (g := 89) (fd := fnOf Tryz.f89) rfl h hO
 unfold parP
 cases hc : (gtT s != 0) with
 | true => exact fnD_nl3 (fin ((body89r s ⟨[], 0, 0, 0⟩).trans (hd89_t hc _)) trivial)
 | false =>
   obtain ⟨hs, hne⟩ := gtT_le hc
   simp only [cond_false]
   have hL : LS s = (spl 10 (bl s)).map tupS := rfl
   have hPl := spl_len 10 (bl s)
   have hcl : (bl s).count 10 ≤ s.size := by rw [← bl_len]; exact List.count_le_length
   have hPs := spl_small 10 (bl s)
   rw [bl_len] at hPs
   have hrun := run89 (spl 10 (bl s)) ((spl 10 (bl s)).length - 1) 0 [] 0 0 (by omega) rfl
   rw [List.drop_zero, Nat.zero_add] at hrun
   have hen : en89 (LS s) = (((spl 10 (bl s)).length - 1 : Nat) : Int) := by
    unfold en89
    rw [hL, List.length_map, W_id (by omega) (by omega)]
    omega
   have hbr := body89r (w0 := w0) s
   have hbn := body89n (w0 := w0) s
   have hbm := body89m (w0 := w0) s
   have hgl := goP_len (spl 10 (bl s)) []
   have hgf := goP_fl (spl 10 (bl s)) []
   have hg1 : ∀ q, goP (spl 10 (bl s)) [] = .good q → q ≠ [] ∧ (hdR q).length = 2 := fun q h => goP_first h hne
   have hsu := spl_sum 10 (bl s)
   rw [bl_len] at hsu
   simp only [hd89_f hc] at hbr hbn hbm
   unfold mid89 at hbn hbm
   unfold ob89c at hbn hbm
   unfold ob89 at hbr hbn hbm
   rw [hen, hL] at hbr hbn hbm
   generalize hP : spl 10 (bl s) = P at *
   have hP1 : 1 ≤ P.length := by omega
   have hP5 : P.length ≤ 5000 := by omega
   have hP4 : ∀ x ∈ P, x.length ≤ 4096 := fun x hx => by have := hPs x hx; omega
   have hlast : lnL (P.map tupS) (((P.length - 1 : Nat) : Int)) = mkB (P.getD (P.length - 1) []) := by
    unfold lnL
    rw [Int.toNat_natCast, List.getD_eq_getElem?_getD, List.getElem?_eq_getElem (by omega)]
    exact nth_map (by omega)
   have hinl : inL (P.map tupS) (((P.length - 1 : Nat) : Int)) = true := inL_nat (by rw [List.length_map]; omega)
   have hemp : ∀ l : List UInt8, (!((mkB l).toList == mtL.toList)) = !decide (l = []) := fun l => by
    rw [str_eq, bl_mkB]
    cases l with
    | nil => rfl
    | cons b l => rfl
   unfold gOd at hbn hbm
   rw [hinl, hlast, hemp] at hbn hbm
   simp only [cond_true] at hbn hbm
   cases hg : goP P [] with
   | bad q =>
     rw [hg] at hrun
     show FnD (cfg w0) 89 [St_ s] (p3D (g0, (q.length : Nat), 25))
     rcases hrun with ⟨k, q2, hx⟩ | ⟨q2, hx, hnl, hql⟩
     ·exact fnD_nl3 (fin (hbr (qOf k (q2, (q.length : Nat), 25))) ⟨ldO h0 hP1 hP5 hP4 hx, trivial⟩)
     ·have hb := hbn (qOf ((P.length - 1 : Nat) : Int) (q2, 0, 0)) 0 0 (0, [], 0, 0)
      rw [decide_eq_false hnl] at hb
      rw [hql]
      exact fnD_nl3 (fin hb ⟨ldO h0 hP1 hP5 hP4 hx, trivial⟩)
   | good q =>
     rw [hg] at hrun
     obtain ⟨hx, hnl, hql⟩ := hrun
     obtain ⟨hq0, hq2⟩ := hg1 q hg
     have hO := ldO h0 hP1 hP5 hP4 hx
     have hqp : 1 ≤ q.length := List.length_pos_iff.2 hq0
     have hfl := hgf q hg
     simp only [flQ_nil, List.length_nil] at hfl
     have hf5 : (flQ q).length ≤ 5000 := by omega
     have hgr : (gR q).l = flQ (q.drop 1) := by show flQ (tlQ q) = _; rw [tlQ_eq]
     have hfd := flQ_drop_le q 1
     have e1 : inA q.length 0 = true := inA_t (j := 0) hqp
     have e2 : inA (hdR q).length 0 = true := inA_t (j := 0) (by omega)
     have e3 : inA (hdR q).length 1 = true := inA_t (j := 1) (by omega)
     have hw : IntKind.i64.wrap (((q.length : Nat) : Int) - 1) = ((q.length : Nat) : Int) - 1 := W_id (by omega) (by omega)
     have hbn := hbn (qOf ((P.length - 1 : Nat) : Int) (q, 0, 0))
     have hbm := hbm (qOf ((P.length - 1 : Nat) : Int) (q, 0, 0))
     rw [decide_eq_true hnl] at hbn hbm
     have eq1 : (qOf ((P.length - 1 : Nat) : Int) (q, 0, 0)).q = q := rfl
     have eq2 : (qOf ((P.length - 1 : Nat) : Int) (q, 0, 0)).r = 0 := rfl
     have eq3 : (qOf ((P.length - 1 : Nat) : Int) (q, 0, 0)).e = 0 := rfl
     rw [eq1, eq2, eq3, e1, e2, e3, ← hql, hw] at hbn hbm
     rw [← hql] at hO
     simp only [Bool.not_true, cond_true, cond_false] at hbn hbm
     show FnD (cfg w0) 89 [St_ s] (p3D (fz87 q))
     unfold fz87
     rw [e87_val]
     cases hh : (((q.length : Nat) : Int) - 1 != gH q) with
     | true =>
       rw [hh] at hbn
       exact fnD_nl3 (fin (hbn 0 0 (0, [], 0, 0)) ⟨hO, trivial⟩)
     | false =>
       rw [hh] at hbn hbm
       simp only [cond_false, Bool.false_or] at hbn hbm ⊢
       obtain ⟨c1, c2⟩ := runC q (gR q) (q.length : Nat) (q.length - 1) 1 [] 0 0 (by omega)
       have hap : apQ q = (q.drop 1).any (neQ (gR q)) := by unfold apQ; rw [tlQ_eq]
       rw [hap]
       cases ha : (q.drop 1).any (neQ (gR q)) with
       | true =>
         obtain ⟨k, l', hc⟩ := c2 ha
         exact fnD_nl3 (fin (hbm (gW q) (gH q) (k, l', (q.length : Nat), 2)) ⟨ldC' h0 (gW q) (gH q) q hqp (by omega) hf5 hc, hO, trivial⟩)
       | false =>
         have hc := c1 ha
         rw [List.nil_append] at hc
         have hgq : (⟨gW q, gH q, flQ (q.drop 1)⟩ : Gr) = gR q := by unfold gR; rw [tlQ_eq]
         have hb := hbn (gW q) (gH q) (((1 + (q.length - 1) : Nat) : Int), flQ (q.drop 1), 0, 0)
         simp only [hgq] at hb
         rw [show smG (gR q) = true by unfold smG; rw [hgr, (Nat.ble_eq ..).mpr (by omega)]] at hb
         simp only [cond_true, cond_false] at hb ⊢
         have hC := ldC' h0 (gW q) (gH q) q hqp (by omega) hf5 hc
         cases he : (chkG (gR q) != 0) with
         | true =>
           rw [he] at hb
           exact fnD_nl3 (fin hb ⟨hC, hO, trivial⟩)
         | false =>
           rw [he] at hb
           exact fin hb ⟨hC, hO, trivial⟩
def c89 : Ct := ct 89 [.c .str] fun a => .leaf (p3D (parP a.1))
theorem gd89 (h0 : Lib0 w0) : Gd (cfg w0) c89 := gd_sig fun a d hd => by
 obtain ⟨s, u⟩ := a
 cases hd
 exact fn89 h0 s
end
end Go.Proofs.YthcpfignhalffaaGreatDoor
namespace Go.Proofs.YthcpfignhalffaaGreatDoor
open Go Go.Am Go.RowKit
set_option maxRecDepth 100000
variable {w0 : World}
noncomputable section
def grid5 : ByteArray := ⟨#[103, 114, 105, 100, 32]⟩
def rel88i : List (Nat × Cv) := [(1, .id), (3, .id), (4, .id), (5, .id)]
def st88i (g : Gr) (y : Int) (p : Int × ByteArray) : List D := [.obox (gcs g), St_ p.2, I y, I p.1]
def rel88 : List (Nat × Cv) := [(1, .id), (3, .id), (4, .id)]
def st88 (g : Gr) (p : Int × ByteArray) : List D := [.obox (gcs g), St_ p.2, I p.1]
def ixV (g : Gr) (y x : Int) : Int := IntKind.i64.wrap (IntKind.i64.wrap (y * g.w) + x)
def enV (g : Gr) (y x : Int) : Int := i1 (nth g.l ((ixV g y x).toNat + 0))
def cs88 : List Ct := [c164]
theorem round88i (g : Gr) (y x : Int) (s : ByteArray) : rndD ((cfg w0).at cs88) 40 [] 40 (fnOf Tryz.f88).ntmps rel88i (lpB 2 (fnOf Tryz.f88).body) (st88i g y (x, s)) =
  bif decide (x < g.w) then gN (catB s spB) (gN (inO g.l (ixV g y x)) (gN (in64 (enV g y x)) (gN (catB (s ++ spB) (itoB (enV g y x))) (some ([], .normal, st88i g y (IntKind.i64.wrap (x + 1), (s ++ spB) ++ itoB (enV g y x)))))))
  else some ([], .exit 2, st88i g y (x, s)) := by cases g; kernel_rfl
def ld88i (g : Gr) (y : Int) (p : Int × ByteArray) : Ld := ldP 2 (fnOf Tryz.f88).ntmps rel88i .normal (st88i g y p)
theorem round88 (g : Gr) (y : Int) (s : ByteArray) (p : Int × ByteArray) : rndD ((cfg w0).at cs88) 40 [ld88i g y p] 40 (fnOf Tryz.f88).ntmps rel88 (lpB 0 (fnOf Tryz.f88).body) (st88 g (y, s)) =
  bif decide (y < g.h) then gN (catB s wRow) (gN (catB p.2 nlB) (some ([(ld88i g y p, .loop (lpB 2 (fnOf Tryz.f88).body), st88i g y (0, s ++ wRow))], .normal, st88 g (IntKind.i64.wrap (y + 1), p.2 ++ nlB))))
  else some ([], .exit 0, st88 g (y, s)) := by cases g; kernel_rfl
def hd1 (g : Gr) : ByteArray := grid5 ++ itoB g.w
def hd2 (g : Gr) : ByteArray := hd1 g ++ spB
def hd3 (g : Gr) : ByteArray := hd2 g ++ itoB g.h
def hd4 (g : Gr) : ByteArray := hd3 g ++ nlB
def ld88 (g : Gr) (p : Int × ByteArray) : Ld := ldP 0 (fnOf Tryz.f88).ntmps rel88 .normal (st88 g p)
theorem body88 (g : Gr) (p : Int × ByteArray) : bodyT ((cfg w0).at cs88) 40 [ld88 g p] 40 (fnOf Tryz.f88) [gD g] =
  gOd (in64 g.w) (gOd (catB grid5 (itoB g.w)) (gOd (catB (hd1 g) spB) (gOd (in64 g.h) (gOd (catB (hd2 g) (itoB g.h)) (gOd (catB (hd3 g) nlB) (some ([(ld88 g p, .loop (lpB 0 (fnOf Tryz.f88).body), st88 g (0, hd4 g))], St_ p.2))))))) := by cases g; kernel_rfl
theorem hd4_eq (g : Gr) : hd4 g = hdG g := bl_inj (by
 unfold hdG
 rw [lineB_bl]
 unfold hd4 hd3 hd2 hd1
 simp only [bl_append]
 show (((bl grid5 ++ bl (itoB g.w)) ++ [32]) ++ bl (itoB g.h)) ++ [10] = (bl wGrid ++ ((32 :: bl (itoB g.w)) ++ ((32 :: bl (itoB g.h)) ++ []))) ++ [10]
 have e : bl grid5 = bl wGrid ++ [32] := rfl
 rw [e]
 simp only [List.append_assoc, List.cons_append, List.nil_append, List.append_nil])
def stpV (g : Gr) (y : Nat) (j : Nat) (s : ByteArray) : X × ByteArray := (.normal, (s ++ spB) ++ itoB (i1 (nth g.l (y * g.w.toNat + j))))
theorem foldV (l : TLi) (k : Nat) : ∀ (n j : Nat) (s : ByteArray), bl ((List.range' j n).foldl (fun (s : ByteArray) (j : Nat) => (s ++ spB) ++ itoB (i1 (nth l (k + j)))) s) = bl s ++ numS ((List.range' (k + j) n).map (nth l))
 | 0, j, s => by simp [numS]
 | n + 1, j, s => by
   rw [List.range'_succ, List.foldl_cons, foldV l k n (j + 1), List.range'_succ, List.map_cons]
   simp only [bl_append]
   show _ = bl s ++ ((32 :: bl (itoB (i1 (nth l (k + j))))) ++ numS _)
   have e : bl spB = [32] := rfl
   rw [e, show k + (j + 1) = k + j + 1 by omega]
   simp only [List.append_assoc, List.cons_append, List.nil_append]
theorem ixV_nat {g : Gr} (hc : chkG g = 0) {y x : Nat} (hy : (y : Int) < g.h) (hx : (x : Int) < g.w) : ixV g (y : Int) (x : Int) = ((y * g.w.toNat + x : Nat) : Int) ∧ y * g.w.toNat + x < g.l.length := by
 obtain ⟨hlw, w1, w2, h1, h2, he⟩ := chk_len hc
 have hm := chk_mul hc
 obtain ⟨W, hW⟩ : ∃ n : Nat, g.w = (n : Int) := ⟨g.w.toNat, by omega⟩
 obtain ⟨H, hH⟩ : ∃ n : Nat, g.h = (n : Int) := ⟨g.h.toNat, by omega⟩
 have hWn : g.w.toNat = W := by omega
 have hL : g.l.length = H * W := by rw [hW, hH, ← Int.natCast_mul] at hm; exact Int.ofNat.inj hm
 have hmul : y * W + W ≤ H * W := by rw [← Nat.succ_mul]; exact Nat.mul_le_mul_right _ (by omega)
 have hH16 : H * W ≤ 16 * 16 := Nat.mul_le_mul (by omega) (by omega)
 unfold ixV
 rw [hWn, hW, ← Int.natCast_mul, Wid (n := ((y * W : Nat) : Int)) (by omega) (by omega), Wid (by omega) (by omega)]
 refine ⟨by omega, by omega⟩
theorem cs88_gd (h0 : Lib0 w0) : Gds (cfg w0) cs88 := ⟨gd164 h0, trivial⟩
def rowE (g : Gr) (y : Nat) (s : ByteArray) : ByteArray := (List.range' 0 g.w.toNat).foldl (fun (s : ByteArray) (j : Nat) => (s ++ spB) ++ itoB (i1 (nth g.l (y * g.w.toNat + j)))) s
theorem rowE_bl {g : Gr} (hc : chkG g = 0) {y : Nat} (hy : (y : Int) < g.h) (s : ByteArray) : bl (rowE g y s) = bl s ++ numS (rowG g y) := by
 obtain ⟨hlw, w1, w2, h1, h2, he⟩ := chk_len hc
 obtain ⟨_, h⟩ := ixV_nat hc hy (x := g.w.toNat - 1) (by omega)
 unfold rowE rowG
 rw [foldV, Nat.add_zero, drop_take _ _ (by omega)]
theorem lI88 (h0 : Lib0 w0) {g : Gr} (hc : chkG g = 0) {y : Nat} (hy : (y : Int) < g.h) (s : ByteArray) (hs : s.size ≤ 100000) : LdT ((cfg w0).at cs88) (ld88i g (y : Int) (((0 + g.w.toNat : Nat) : Int), rowE g y s)) (.loop (lpB 2 (fnOf Tryz.f88).body)) (st88i g (y : Int) (0, s)) := by
 obtain ⟨hlw, w1, w2, h1, h2, he⟩ := chk_len hc
 have hrun : rgRun 2 (stpV g y) g.w.toNat 0 s = (.exit 2, (((0 + g.w.toNat : Nat) : Int), rowE g y s)) := rgRun_fold 2 (h := fun (j : Nat) (s : ByteArray) => (s ++ spB) ++ itoB (i1 (nth g.l (y * g.w.toNat + j)))) _ _ _ (fun _ _ _ _ => rfl)
 exact ldT_rg (at_ok (cfg_ok w0) cs88) (at_sp h0 (cs88_gd h0)) (N := (fnOf Tryz.f88).ntmps) (rel := rel88i) (B := lpB 2 (fnOf Tryz.f88).body) (id := 2) (k := g.w.toNat) (by omega) (st88i g (y : Int)) (stpV g y) (fun j t => t.size ≤ 100000 + 21 * j)
  (fun j t hj ht => .leaf (by
   obtain ⟨e1, e2⟩ := ixV_nat hc hy (x := j) (by omega)
   have hen : enV g (y : Int) (j : Int) = i1 (nth g.l (y * g.w.toNat + j)) := by unfold enV; rw [e1, Int.toNat_natCast]; rfl
   have hr := he _ (show nth g.l (y * g.w.toNat + j) ∈ g.l by rw [show nth g.l (y * g.w.toNat + j) = g.l[y * g.w.toNat + j] by simp [nth, e2]]; exact List.getElem_mem e2)
   have hz := itoB_size hr.1
   have hsp : spB.size = 1 := rfl
   refine (round88i g (y : Int) (j : Int) t).trans ?_
   unfold gN
   rw [decide_eq_true (show (j : Int) < g.w by omega), cat_ok (by omega), hen, e1, show inO g.l ((y * g.w.toNat + j : Nat) : Int) = true from inb 1 e2, in64_of hr.1 hr.2, cat_ok (a := t ++ spB) (by rw [size_app]; omega)]
   rfl))
  (fun j t t' hj ht h => by
   cases h
   obtain ⟨e1, e2⟩ := ixV_nat hc hy (x := j) (by omega)
   have hr := he _ (show nth g.l (y * g.w.toNat + j) ∈ g.l by rw [show nth g.l (y * g.w.toNat + j) = g.l[y * g.w.toNat + j] by simp [nth, e2]]; exact List.getElem_mem e2)
   have hz := itoB_size hr.1
   have hsp : spB.size = 1 := rfl
   simp only [size_app]
   omega)
  (fun t _ => .leaf ((round88i g (y : Int) _ t).trans (by rw [decide_eq_false (by omega)]; rfl))) (a0 := s) (by omega) hrun
theorem rowE_line {g : Gr} (hc : chkG g = 0) {y : Nat} (hy : (y : Int) < g.h) (s : ByteArray) : rowE g y (s ++ wRow) ++ nlB = s ++ lineB wRow (rowG g y) := bl_inj (by
 rw [bl_append, rowE_bl hc hy, bl_append, bl_append, lineB_bl]
 have e : bl nlB = [10] := rfl
 rw [e]
 simp only [List.append_assoc])
def stpR (g : Gr) (y : Nat) (s : ByteArray) : X × ByteArray := (.normal, s ++ lineB wRow (rowG g y))
theorem fn88 (h0 : Lib0 w0) {g : Gr} (hc : chkG g = 0) : FnD (cfg w0) 88 [gD g] (St_ (prtG g)) := by
 obtain ⟨hlw, w1, w2, h1, h2, he⟩ := chk_len hc
 have hhd := lineB_size (hdG_ok hc)
 have hhz : (hdG g).size ≤ 200 := by unfold hdG; simp only [List.length_cons, List.length_nil] at hhd; omega
 have hrun : rgRun 0 (stpR g) g.h.toNat 0 (hdG g) = (.exit 0, (((0 + g.h.toNat : Nat) : Int), prtG g)) := rgRun_fold 0 (h := fun (y : Nat) (s : ByteArray) => s ++ lineB wRow (rowG g y)) _ _ _ (fun _ _ _ _ => rfl)
 have hld : LdT ((cfg w0).at cs88) (ld88 g (((0 + g.h.toNat : Nat) : Int), prtG g)) (.loop (lpB 0 (fnOf Tryz.f88).body)) (st88 g (0, hdG g)) :=
  ldT_rg (at_ok (cfg_ok w0) cs88) (at_sp h0 (cs88_gd h0)) (N := (fnOf Tryz.f88).ntmps) (rel := rel88) (B := lpB 0 (fnOf Tryz.f88).body) (id := 0) (k := g.h.toNat) (by omega) (st88 g) (stpR g) (fun j t => t.size ≤ 200 + 1000 * j)
   (fun y s hy hs => by
    have hy' : (y : Int) < g.h := by omega
    have hw3 : wRow.size = 3 := rfl
    have hnl : nlB.size = 1 := rfl
    have hlz := lineB_size (rowG_ok hc y)
    have hlr : (rowG g y).length ≤ 16 := by unfold rowG; rw [List.length_take]; omega
    have hez : (rowE g y (s ++ wRow)).size ≤ 100000 := by
     have := congrArg ByteArray.size (rowE_line hc hy' s)
     rw [size_app, size_app] at this
     omega
    refine .one ((round88 g (y : Int) s (((0 + g.w.toNat : Nat) : Int), rowE g y (s ++ wRow))).trans ?_) (lI88 h0 hc hy' (s ++ wRow) (by rw [size_app]; omega))
    unfold gN
    simp only
    rw [decide_eq_true hy', cat_ok (a := s) (by omega), cat_ok (a := rowE g y (s ++ wRow)) (by omega), rowE_line hc hy']
    rfl)
   (fun j t t' hj ht h => by
    cases h
    have hlz := lineB_size (rowG_ok hc j)
    have hlr : (rowG g j).length ≤ 16 := by unfold rowG; rw [List.length_take]; omega
    simp only [size_app]
    omega)
   (fun t _ => .leaf ((round88 g _ t (0, mtL)).trans (by rw [decide_eq_false (by omega)]; rfl))) (a0 := hdG g) (by omega) hrun
 have hiw := itoB_size (n := g.w) (by omega)
 have hih := itoB_size (n := g.h) (by omega)
 have z1 : grid5.size = 5 := rfl
 have z2 : spB.size = 1 := rfl
 have z3 : nlB.size = 1 := rfl
 refine fnD_lp (cfg_ok w0) h0 (cs88_gd h0) (g := 88) (fd := fnOf Tryz.f88) rfl ((body88 g _).trans ?_) hld
 unfold gOd
 rw [in64_of (n := g.w) (by omega) (by rw [maxE_val]; omega), in64_of (n := g.h) (by omega) (by rw [maxE_val]; omega), cat_ok (a := grid5) (by omega), cat_ok (a := hd1 g) (by unfold hd1; simp only [size_app]; omega),
  cat_ok (a := hd2 g) (by unfold hd2 hd1; simp only [size_app]; omega), cat_ok (a := hd3 g) (by unfold hd3 hd2 hd1; simp only [size_app]; omega), hd4_eq]
 rfl
def c88 : Ct := gC 88 [] fun g _ => .br (chkG g == 0) (.leaf (St_ (prtG g))) .bad
theorem gd88 (h0 : Lib0 w0) : Gd (cfg w0) c88 := gd_g fun g a d hd => by
 obtain ⟨hg, hd⟩ := br_run hd
 cases hd
 exact fn88 h0 (by simpa using hg)
end
end Go.Proofs.YthcpfignhalffaaGreatDoor
