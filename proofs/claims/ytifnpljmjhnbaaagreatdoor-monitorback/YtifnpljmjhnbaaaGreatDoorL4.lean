/-
  A part of the proof of the statement that the claim names: see the last file.
-/
import Derived.Test.YtifnpljmjhnbaaaGreatDoorL3
import Derived.Test.YtifnpljmjhnbaaaGreatDoorAm4
namespace Go.Proofs.YtifnpljmjhnbaaaGreatDoor
open Go Go.Am Go.RowKit
set_option maxRecDepth 100000
variable {w0 : World}
noncomputable section


inductive Sx where
  | go (p : Pz) (s : ByteArray)
  | er (p : Pz) (i : Int) (s : ByteArray)
def st80 (tm : Option (Nat × Array Value)) : Sx → List D
  | .go p s => st170 tm p s
  | .er p i s => st170r tm p i 25 s
def lnS (s : ByteArray) : ByteArray := bif Nat.beq ((bl s).count 10) 0 then s else mkB ((bl s).take ((ixI s 10).toNat + 1))
def rsS (s : ByteArray) : ByteArray := bif Nat.beq ((bl s).count 10) 0 then mtL else mkB ((bl s).drop ((ixI s 10).toNat + 1))
def wS (s : ByteArray) : SLs := splT (cutN (lnS s))
def nx80 : Sx → X × Sx
  | .go p s => bif Nat.beq s.size 0 then (.exit 0, .go p s) else
    bif lineOk p (endL (bl (lnS s))) (wS s) then (.normal, .go ⟨(lineE p (wS s)).o, p.n + 1, (lineE p (wS s)).k⟩ (rsS s)) else (.ret, .er (lineE p (wS s)) p.n (rsS s))
  | a => (.exit 0, a)
theorem lineE_n (p : Pz) (W : SLs) : (lineE p W).n = p.n := by
  unfold lineE
  cases (p.n == 0) <;> cases misW W <;> rfl
theorem lineE_o (p : Pz) (W : SLs) : (lineE p W).o.length ≤ p.o.length + 1 := by
  unfold lineE
  cases (p.n == 0) <;> cases misW W <;> simp
theorem splT_len (s : ByteArray) : (splT s).length = (bl s).count 32 + 1 := by unfold splT; rw [List.length_map, spl_len]
theorem cutN_size (s : ByteArray) : (cutN s).size ≤ s.size := by
  unfold cutN
  cases endL (bl s)
  · exact Nat.le_refl _
  · show (mkB _).size ≤ _
    rw [← bl_len, bl_mkB, List.length_dropLast, bl_len]; omega
theorem lnS_size (s : ByteArray) : (lnS s).size ≤ s.size := by
  unfold lnS
  cases Nat.beq ((bl s).count 10) 0
  · show (mkB _).size ≤ _
    rw [← bl_len, bl_mkB, List.length_take, bl_len]; omega
  · exact Nat.le_refl _
theorem rsS_size {s : ByteArray} (h : s.size ≠ 0) : (rsS s).size < s.size := by
  unfold rsS
  cases Nat.beq ((bl s).count 10) 0
  · show (mkB _).size < _
    rw [← bl_len, bl_mkB, List.length_drop, bl_len]; omega
  · show mtL.size < _
    have : mtL.size = 0 := rfl
    omega
theorem tree170_eq {tm : Option (Nat × Array Value)} {p : Pz} {s : ByteArray} (hs : s.size ≤ 5000) (ho : p.o.length ≤ 5000) (hn : 0 ≤ p.n ∧ p.n ≤ 5000) :
    tree170 tm p s = some ([], (nx80 (.go p s)).1, st80 tm (nx80 (.go p s)).2) := by
  unfold tree170 nx80
  by_cases h0 : s.size = 0
  · have hb : Nat.beq s.size 0 = true := by rw [Nat.beq_eq]; exact h0
    rw [decide_eq_false (show ¬ ((s.size : Nat) : Int) > 0 by omega)]
    simp only [hb]
    rfl
  · have hb : Nat.beq s.size 0 = false := by cases hx : Nat.beq s.size 0 with | false => rfl | true => rw [Nat.beq_eq] at hx; omega
    rw [decide_eq_true (show ((s.size : Nat) : Int) > 0 by omega)]
    simp only [hb, cond_true, cond_false]
    have fin : ∀ line r : ByteArray, line = lnS s → r = rsS s → lineT tm p line r (splT (cutN line)) = some ([], (bif lineOk p (endL (bl (lnS s))) (wS s) then ((.normal : X), Sx.go ⟨(lineE p (wS s)).o, p.n + 1, (lineE p (wS s)).k⟩ (rsS s)) else (.ret, .er (lineE p (wS s)) p.n (rsS s))).1, st80 tm (bif lineOk p (endL (bl (lnS s))) (wS s) then ((.normal : X), Sx.go ⟨(lineE p (wS s)).o, p.n + 1, (lineE p (wS s)).k⟩ (rsS s)) else (.ret, .er (lineE p (wS s)) p.n (rsS s))).2) := fun line r e1 e2 => by
      subst e1 e2
      have k1 := lnS_size s
      have k2 := cutN_size (lnS s)
      have k3 : (bl (cutN (lnS s))).count 32 ≤ (bl (cutN (lnS s))).length := List.count_le_length
      rw [bl_len] at k3
      rw [lineT_eq ((Nat.ble_eq ..).mpr (by omega)) ((Nat.ble_eq ..).mpr (by omega)) (by rw [splT_len]; omega) (by rw [splT_len]; omega) (by omega)]
      show rs80T tm (lineOk p (endL (bl (lnS s))) (wS s)) (lineE p (wS s)) (rsS s) = _
      unfold rs80T nm80 rt80
      rw [lineE_n, W_id (n := p.n + 1) (by omega) (by omega)]
      cases lineOk p (endL (bl (lnS s))) (wS s) <;> rfl
    by_cases hc : (bl s).count 10 = 0
    · have hi : ixI s 10 = -1 := ix_none hc
      have hcb : Nat.beq ((bl s).count 10) 0 = true := by rw [Nat.beq_eq]; exact hc
      rw [hi]
      exact fin s mtL (by unfold lnS; rw [hcb]; rfl) (by unfold rsS; rw [hcb]; rfl)
    · obtain ⟨m, h1, h2, _⟩ := ix_cut (c := 10) (l := bl s) (by omega)
      have hi : ixI s 10 = (m : Int) := h1
      rw [bl_len] at h2
      have hcb : Nat.beq ((bl s).count 10) 0 = false := by cases hx : Nat.beq ((bl s).count 10) 0 with | false => rfl | true => rw [Nat.beq_eq] at hx; omega
      have hx1 : ix1 s = ((m + 1 : Nat) : Int) := by unfold ix1; rw [hi, W_id (by omega) (by omega)]; omega
      have hk : cutOk s ((m + 1 : Nat) : Int) = true := by unfold cutOk; rw [decide_eq_true (show (0 : Int) ≤ ((m + 1 : Nat) : Int) by omega), decide_eq_true (show ((m + 1 : Nat) : Int) ≤ s.size by omega)]; rfl
      rw [hx1, hk, hi, decide_eq_true (show (m : Int) ≥ 0 by omega), Int.toNat_natCast, ext_0, ext_e]
      exact fin _ _ (by unfold lnS; rw [hcb, hi, Int.toNat_natCast]; rfl) (by unfold rsS; rw [hcb, hi, Int.toNat_natCast]; rfl)


def splW (l : List UInt8) : SLs := (spl 32 l).map tupS
def nxP (p : Pz) (l : List UInt8) : Pz := ⟨(lineE p (splW l)).o, p.n + 1, (lineE p (splW l)).k⟩
inductive Rz where
  | bad (i : Int)
  | good (p : Pz)
def goP : List (List UInt8) → Pz → Rz
  | [], p => .good p
  | [l], p => match l with
    | [] => .good p
    | _ :: _ => .bad p.n
  | l :: ls, p => bif lineOk p true (splW l) then goP ls (nxP p l) else .bad p.n
theorem getLast_no {l : List UInt8} (h : l.count 10 = 0) : endL l = false := by
  unfold endL
  cases hx : l.getLast? with
  | none => rfl
  | some x =>
    have hm : x ∈ l := List.mem_of_getLast? hx
    show (x == 10) = false
    rw [beq_eq_false_iff_ne]
    intro e
    subst e
    have := List.count_pos_iff.2 hm
    omega
theorem take_cut {l : List UInt8} {m : Nat} (h : l.drop m = 10 :: l.drop (m + 1)) (hm : m < l.length) : l.take (m + 1) = l.take m ++ [10] := by
  rw [List.take_succ_eq_append_getElem hm]
  have := List.drop_eq_getElem_cons hm
  rw [h] at this
  rw [← (List.cons.inj this).1]
theorem it80 : ∀ (k : Nat) (p : Pz) (s : ByteArray), s.size ≤ k → ∃ f x b, iterN nx80 f (.go p s) = some (x, b) ∧ match goP (spl 10 (bl s)) p with
    | .bad i => x = .ret ∧ ∃ q r, b = .er q i r
    | .good q => x = .exit 0 ∧ ∃ r, b = .go q r
  | k, p, s, hk => by
    by_cases h0 : s.size = 0
    · have hl : bl s = [] := List.length_eq_zero_iff.1 (by rw [bl_len]; exact h0)
      refine ⟨1, .exit 0, .go p s, ?_, ?_⟩
      · have hb : Nat.beq s.size 0 = true := by rw [Nat.beq_eq]; exact h0
        unfold iterN nx80
        simp only [hb]
        rfl
      · rw [hl]
        exact ⟨rfl, s, rfl⟩
    · cases k with
      | zero => omega
      | succ k =>
        have hb : Nat.beq s.size 0 = false := by cases hx : Nat.beq s.size 0 with | false => rfl | true => rw [Nat.beq_eq] at hx; omega
        have hlt := rsS_size h0
        by_cases hc : (bl s).count 10 = 0
        · have hcb : Nat.beq ((bl s).count 10) 0 = true := by rw [Nat.beq_eq]; exact hc
          have hln : lnS s = s := by unfold lnS; rw [hcb]; rfl
          refine ⟨1, .ret, .er (lineE p (wS s)) p.n (rsS s), ?_, ?_⟩
          · unfold iterN nx80
            simp only [hb, hln, getLast_no hc]
            rfl
          · rw [spl_none hc]
            obtain ⟨a, aa, ha⟩ : ∃ a aa, bl s = a :: aa := by
              cases hx : bl s with
              | nil => exact absurd (by rw [← bl_len, hx]; rfl) h0
              | cons a aa => exact ⟨a, aa, rfl⟩
            rw [ha]
            exact ⟨rfl, _, _, rfl⟩
        · obtain ⟨m, h1, h2, h3, h4, h5, h6⟩ := ix_cut (c := 10) (l := bl s) (by omega)
          have hi : (ixI s 10).toNat = m := by show (Lib.indexByte (bl s) 10).toNat = m; rw [h1]; rfl
          have hcb : Nat.beq ((bl s).count 10) 0 = false := by cases hx : Nat.beq ((bl s).count 10) 0 with | false => rfl | true => rw [Nat.beq_eq] at hx; omega
          have hln : lnS s = mkB ((bl s).take m ++ [10]) := by unfold lnS; rw [hcb, hi, take_cut h6 h2]; rfl
          have hrs : bl (rsS s) = (bl s).drop (m + 1) := by unfold rsS; rw [hcb, hi]; exact bl_mkB _
          have hend : endL (bl (lnS s)) = true := by rw [hln, bl_mkB]; unfold endL; rw [List.getLast?_append]; rfl
          have hw : wS s = splW ((bl s).take m) := by
            unfold wS splT splW cutN
            rw [hend, hln, bl_mkB]
            show (spl 32 (bl (mkB ((bl s).take m ++ [10]).dropLast))).map tupS = _
            rw [bl_mkB, List.dropLast_concat]
          obtain ⟨y, ys, hy⟩ : ∃ y ys, spl 10 ((bl s).drop (m + 1)) = y :: ys := by
            cases hx : spl 10 ((bl s).drop (m + 1)) with
            | nil => have := spl_len 10 ((bl s).drop (m + 1)); rw [hx] at this; simp at this
            | cons y ys => exact ⟨y, ys, rfl⟩
          have hgo : goP (spl 10 (bl s)) p = bif lineOk p true (splW ((bl s).take m)) then goP (spl 10 ((bl s).drop (m + 1))) (nxP p ((bl s).take m)) else .bad p.n := by rw [h4, hy]; rfl
          rw [hgo]
          cases hok : lineOk p true (splW ((bl s).take m)) with
          | false =>
            refine ⟨1, .ret, .er (lineE p (wS s)) p.n (rsS s), ?_, rfl, _, _, rfl⟩
            unfold iterN nx80
            simp only [hb, hend, hw, hok]
            rfl
          | true =>
            obtain ⟨f, x, b, e1, e2⟩ := it80 k (nxP p ((bl s).take m)) (rsS s) (by omega)
            rw [hrs] at e2
            refine ⟨f + 1, x, b, ?_, e2⟩
            unfold iterN
            have : nx80 (.go p s) = (.normal, .go (nxP p ((bl s).take m)) (rsS s)) := by
              unfold nx80
              simp only [hb, hend, hw, hok]
              rfl
            rw [this]
            exact e1
end
end Go.Proofs.YtifnpljmjhnbaaaGreatDoor

namespace Go.Proofs.YtifnpljmjhnbaaaGreatDoor
open Go Go.Am Go.RowKit
set_option maxRecDepth 100000
variable {w0 : World}
noncomputable section


theorem goP_len : ∀ (ls : List (List UInt8)) (p q : Pz), goP ls p = .good q → q.o.length ≤ p.o.length + ls.length
  | [], p, q, h => by cases h; exact Nat.le_add_right _ _
  | [l], p, q, h => by
    cases l with
    | nil => cases h; exact Nat.le_add_right _ _
    | cons a l => cases h
  | l :: m :: ls, p, q, h => by
    have h : (bif lineOk p true (splW l) then goP (m :: ls) (nxP p l) else .bad p.n) = .good q := h
    cases hok : lineOk p true (splW l) with
    | false => rw [hok] at h; cases h
    | true =>
      rw [hok] at h
      have ih := goP_len (m :: ls) (nxP p l) q h
      have := lineE_o p (splW l)
      have e : (nxP p l).o = (lineE p (splW l)).o := rfl
      rw [e] at ih
      simp only [List.length_cons] at ih ⊢
      omega
theorem cs80_gd (h0 : Lib0 w0) : Gds (cgN w0) cs80 := Gds.onH (C := cfg w0) ⟨gd192, gd137 h0, gd138 h0, gd104 h0, gd34 h0, gd84 h0, trivial⟩
theorem cgN_ok (w0 : World) : CfgOk (cgN w0) := Cfg.onH_ok (cfg_ok w0) [numC]
theorem cgN_sp (h0 : Lib0 w0) : SpecOK (cgN w0) := specs_onH h0 ⟨gdH139 h0, trivial⟩
def inv80 : Sx → Prop
  | .go p s => p.o.length + s.size ≤ 5000 ∧ 0 ≤ p.n ∧ p.n + s.size ≤ 5000
  | .er .. => False
theorem lL80 (h0 : Lib0 w0) (tm : Option (Nat × Array Value)) {s : ByteArray} (hs : s.size ≤ 4096) {f : Nat} {x : X} {b : Sx} (hit : iterN nx80 f (.go ⟨[], 0, 0⟩ s) = some (x, b)) :
    LdT ((cgN w0).at cs80) (ldP 0 (fnOf Tryz.f170).ntmps rel170 (outX 0 x) (st80 tm b)) (.loop B170) (st80 tm (.go ⟨[], 0, 0⟩ s)) :=
  ldT_iter (at_ok (cgN_ok w0) cs80) (at_sp (cgN_sp h0) (cs80_gd h0)) (N := (fnOf Tryz.f170).ntmps) (rel := rel170) (B := B170) (id := 0) (st80 tm) nx80 inv80
    (fun a ha => by
      cases a with
      | er => exact ha.elim
      | go p s => exact .leaf ((round170 tm p s).trans (tree170_eq (by have := ha.1; omega) (by have := ha.1; omega) ⟨ha.2.1, by have := ha.2.2; omega⟩)))
    (fun a b ha hn => by
      cases a with
      | er => exact ha.elim
      | go p s =>
        obtain ⟨h1, h2, h3⟩ := ha
        unfold nx80 at hn
        simp only at hn
        cases hb : Nat.beq s.size 0 with
        | true => rw [hb] at hn; cases hn
        | false =>
          rw [hb] at hn
          simp only [cond_false] at hn
          cases hok : lineOk p (endL (bl (lnS s))) (wS s) with
          | false => rw [hok] at hn; cases hn
          | true =>
            rw [hok] at hn
            cases hn
            have hz : s.size ≠ 0 := fun e => by rw [e] at hb; cases hb
            have k1 := rsS_size hz
            have k2 := lineE_o p (wS s)
            refine ⟨?_, ?_, ?_⟩
            · show (lineE p (wS s)).o.length + (rsS s).size ≤ 5000
              omega
            · show 0 ≤ p.n + 1
              omega
            · show p.n + 1 + ((rsS s).size : Int) ≤ 5000
              omega)
    (a0 := .go ⟨[], 0, 0⟩ s) ⟨by show 0 + s.size ≤ 5000; omega, Int.le_refl _, by show (0 : Int) + (s.size : Int) ≤ 5000; omega⟩ hit
abbrev TLq := List (Tup intK)
abbrev P3 := TLq × Int × Int
def p3D (x : P3) : D := .tup [.vec intK x.1, I x.2.1, I x.2.2]
def fz80 : Rz → P3
  | .bad i => ([], i, 25)
  | .good q => bif e80b q != 0 then ([], q.n, e80b q) else (q.o, 0, 0)
def parP (s : ByteArray) : P3 := bif e80 s != 0 then ([], 0, e80 s) else fz80 (goP (spl 10 (bl s)) ⟨[], 0, 0⟩)
theorem e80_le {s : ByteArray} (h : (e80 s != 0) = false) : s.size ≤ 4096 := by
  have h : e80 s = 0 := by simpa using h
  unfold e80 firstZ firstZ firstZ at h
  obtain ⟨h1, _⟩ := first_zero h
  unfold whenZ at h1
  by_cases hs : ((s.size : Nat) : Int) > 4096
  · rw [decide_eq_true hs] at h1; cases h1
  · omega
theorem fn80 (h0 : Lib0 w0) (s : ByteArray) : FnD (cfg w0) 80 [St_ s] (p3D (parP s)) := by
  have fin : ∀ {L : List Ld} {o : Obs} {d : D}, bodyT ((cgN w0).at cs80) 40 L 40 (fnOf Tryz.f80) [St_ s] = some (o, d) → Owed ((cgN w0).at cs80) o → FnD (cfg w0) 80 [St_ s] d :=
    fun h hO => fnD_t (C := cgN w0) (cgN_ok w0) (cgN_sp h0) (cs80_gd h0) (fd := fnOf Tryz.f80) rfl h hO
  unfold parP
  cases hc : (e80 s != 0) with
  | true =>
    have hb := body80r (w0 := w0) s ⟨[], 0, 0⟩ 0 0
    rw [hc] at hb
    exact FnD.nil_vec (ks := intK) (vs := [iv 0, iv (e80 s)]) rfl (by decide) (fin hb trivial)
  | false =>
    have hs := e80_le hc
    obtain ⟨f, x, b, hit, hgo⟩ := it80 s.size ⟨[], 0, 0⟩ s (Nat.le_refl _)
    simp only [cond_false]
    have hrf : ∀ (y : X) (q : Pz) (i e : Int), (∀ tm, ∃ r, bodyI ((cgN w0).at cs80) 40 [ldP 0 (fnOf Tryz.f170).ntmps rel170 (outX 0 x) (st80 tm b)] 40 (fnOf Tryz.f170)
        (startI (fnOf Tryz.f170) (ldS N80 (rel80.map (·.1)) (pre80 s)) #[] #[.pointer (some ⟨K0 + 0, 0, none⟩)] (rfPs (fnOf Tryz.f80).body) (rfAs (fnOf Tryz.f80).body) (rfBd (fnOf Tryz.f80).body) tm) 0 rs80 =
        some ([(ldP 0 (fnOf Tryz.f170).ntmps rel170 (outX 0 x) (st80 tm b), .loop B170, st170 tm ⟨[], 0, 0⟩ s)], y, tm, fin80 q i e) ∧ r = ()) → LdT ((cgN w0).at cs80) (ld80 y q i e) rf80 (pre80 s) := fun y q i e hb =>
      ldT_range (C := (cgN w0).at cs80) (at_ok (cgN_ok w0) cs80) (at_sp (cgN_sp h0) (cs80_gd h0)) (id := 300029) (N := N80) (rel := rel80) (pre := pre80 s) (x := y) (ds' := fin80 q i e) (tf := 29) (rs := rs80) (fd := fnOf Tryz.f170) (py := 0) (xs := #[]) (ys := #[.pointer (some ⟨K0 + 0, 0, none⟩)]) (g := 170) rfl (by kernel_rfl) rfl rfl
        fun tm => by
          obtain ⟨_, h, _⟩ := hb tm
          exact ⟨40, 40, _, _, h, lL80 h0 tm hs hit, trivial⟩
    cases hg : goP (spl 10 (bl s)) ⟨[], 0, 0⟩ with
    | bad i =>
      rw [hg] at hgo
      obtain ⟨rfl, q, r, rfl⟩ := hgo
      have hb := body80r (w0 := w0) s q i 25
      rw [hc] at hb
      exact fin hb ⟨hrf .ret q i 25 fun tm => ⟨(), iter80r s tm q i 25 r, rfl⟩, trivial⟩
    | good q =>
      have hql := goP_len _ _ _ hg
      rw [hg] at hgo
      obtain ⟨rfl, r, rfl⟩ := hgo
      have hb := body80n (w0 := w0) s q
      have hsm : sm q.o = true := (Nat.ble_eq ..).mpr (by
        rw [spl_len] at hql
        have : (bl s).count 10 ≤ (bl s).length := List.count_le_length
        rw [bl_len] at this
        simp only [List.length_nil] at hql
        omega)
      rw [hc, hsm] at hb
      have hO : Owed ((cgN w0).at cs80) (ob80 .normal q 0 0 s) := ⟨hrf .normal q 0 0 fun tm => ⟨(), iter80n s tm q r, rfl⟩, trivial⟩
      unfold fz80
      simp only
      cases hce : (e80b q != 0) with
      | true =>
        rw [hce] at hb
        exact FnD.nil_vec (ks := intK) (vs := [iv q.n, iv (e80b q)]) rfl (by decide) (fin hb hO)
      | false =>
        rw [hce] at hb
        exact fin hb hO
def c80 : Ct := ct 80 [.c .str] fun a => .leaf (p3D (parP a.1))
theorem gd80 (h0 : Lib0 w0) : Gd (cfg w0) c80 := gd_sig fun a d hd => by
  obtain ⟨s, u⟩ := a
  cases hd
  exact fn80 h0 s
end
end Go.Proofs.YtifnpljmjhnbaaaGreatDoor
