/-
 A part of the proof of the statement that the claim names: see the last file.
-/
import Derived.Test.YtmlglimahbjgbaaGreatDoorS3
import Derived.Test.YtmlglimahbjgbaaGreatDoorAm4
namespace Go.Proofs.YtmlglimahbjgbaaGreatDoor
open Go Go.Am Go.RowKit Go.Town
set_option maxRecDepth 100000
variable {w0 : World}
noncomputable section
abbrev cgN (w0 : World) : Cfg := ((cfg w0).onI [151]).onH [nmC, wdC]
abbrev WL := List (Tup wallK)
def cs87 : List Ct := [c205, c152, c153, checkC 38]
abbrev N87 : Nat := (fnOf Tryz.f87).ntmps
def lp87 (st : LoopState) (pd : Option Code) (tm : Option (Nat × Array Value)) : ALoop := { state := st, pending := pd, fn := 0, tmps := [], params := rfPs (fnOf Tryz.f87).body, assign := rfAs (fnOf Tryz.f87).body, body := rfBd (fnOf Tryz.f87).body, tm := tm }
def rs87 : List (Nat × Cw) := [(2, .bv wallK), (3, .id), (4, .id), (5, .bv wallK)]
def yl87 (st : LoopState) (pd : Option Code) (tm : Option (Nat × Array Value)) (o : WL) (i e : Int) : D := .yl N87 (lp87 st pd tm) [2, 3, 4, 5] [.obox [.ovec wallK []], .obox [I i], .obox [I e], .obox [.ovec wallK o]]
def rel186 : List (Nat × Cv) := [(0, .yl rs87), (1, .id)]
def st186 (tm : Option (Nat × Array Value)) (o : WL) (s : ByteArray) : List D := [yl87 .ready none tm o 0 0, .obox [St_ s]]
end
end Go.Proofs.YtmlglimahbjgbaaGreatDoor
namespace Go.Proofs.YtmlglimahbjgbaaGreatDoor
open Go Go.Am Go.RowKit Go.Town
set_option maxRecDepth 100000
variable {w0 : World}
noncomputable section
def walB : ByteArray := ⟨#[119, 97, 108, 108]⟩
def rt87 (tm : Option (Nat × Array Value)) (o : WL) (r : ByteArray) : Rn' := some ([], .ret, [yl87 .done (some .ret) tm o o.length 25, .obox [St_ r]])
def nm87 (tm : Option (Nat × Array Value)) (o : WL) (r : ByteArray) : Rn' := some ([], .normal, [yl87 .ready none tm o 0 0, .obox [St_ r]])
abbrev Tk := Nat × Nat × Bool
def tk0 (W : SLs) : Tk := (0, W.length, false)
def tkW (W : SLs) (p : Tk) : Tk := (wdL W p.1 p.2.1, wdN W p.1 p.2.1, wdB W p.1 p.2.1 p.2.2)
def tkN (W : SLs) (p : Tk) : Tk := (wdL W p.1 p.2.1, wdN W p.1 p.2.1, nmB W p.1 p.2.1 p.2.2)
def tk1 (W : SLs) : Tk := tkW W (tk0 W)
def tk2 (W : SLs) : Tk := tkW W (tk1 W)
def tk3 (W : SLs) : Tk := tkN W (tk2 W)
def tk4 (W : SLs) : Tk := tkN W (tk3 W)
def tk5 (W : SLs) : Tk := tkN W (tk4 W)
def tk6 (W : SLs) : Tk := tkN W (tk5 W)
def tk7 (W : SLs) : Tk := tkN W (tk6 W)
def tk8 (W : SLs) : Tk := tkN W (tk7 W)
def hdW (W : SLs) : ByteArray := wdW W (tk0 W).1 (tk0 W).2.1
def wlT (W : SLs) : Tup wallK := (wdW W (tk1 W).1 (tk1 W).2.1, (isN W (tk2 W).1 (tk2 W).2.1).1, (isN W (tk3 W).1 (tk3 W).2.1).1, (isN W (tk4 W).1 (tk4 W).2.1).1, (isN W (tk5 W).1 (tk5 W).2.1).1, (isN W (tk6 W).1 (tk6 W).2.1).1, (isN W (tk7 W).1 (tk7 W).2.1).1, ())
def rmW (o : WL) : Bool := Nat.ble (o.length * 64) 1000000000000 && Nat.ble o.length 1000000000000
def lineT (tm : Option (Nat × Array Value)) (o : WL) (line r : ByteArray) (W : SLs) : Rn' :=
 gN (smS line) (gN (smS (cutN line)) (bif !endL (bl line) then rt87 tm o r else bif !((hdW W).toList == walB.toList) then rt87 tm o r else bif (tk8 W).2.2 then rt87 tm o r else bif decide (((tk8 W).2.1 : Int) > 0) then rt87 tm o r else
  gN (rmW (o ++ [wlT W])) (nm87 tm (o ++ [wlT W]) r)))
def ix1 (s : ByteArray) : Int := IntKind.i64.wrap (ixI s 10 + 1)
def tree186 (tm : Option (Nat × Array Value)) (o : WL) (s : ByteArray) : Rn' :=
 bif decide (((s.size : Nat) : Int) > 0) then bif decide (ixI s 10 ≥ 0) then gN (cutOk s (ix1 s)) (gN (cutOk s (ix1 s)) (lineT tm o (s.extract 0 (ix1 s).toNat) (s.extract (ix1 s).toNat s.size) (splT (cutN (s.extract 0 (ix1 s).toNat)))))
  else lineT tm o s mtL (splT (cutN s))
 else some ([], .exit 0, st186 tm o s)
theorem round186 (tm : Option (Nat × Array Value)) (o : WL) (s : ByteArray) : rndD ((cgN w0).at cs87) 40 [] 40 (fnOf Tryz.f186).ntmps rel186 (lpB 0 (fnOf Tryz.f186).body) (st186 tm o s) = tree186 tm o s := by kernel_rfl
end
end Go.Proofs.YtmlglimahbjgbaaGreatDoor
namespace Go.Proofs.YtmlglimahbjgbaaGreatDoor
open Go Go.Am Go.RowKit Go.Town
set_option maxRecDepth 100000
variable {w0 : World}
noncomputable section
def rel87 : List (Nat × Cv) := [(18, .id), (2, .bv wallK), (3, .id), (4, .id), (5, .bv wallK)]
noncomputable def pre87 (s : ByteArray) : List D := [.fn 186 [] [.obox [St_ s]], .obox [.ovec wallK []], .obox [I 0], .obox [I 0], .obox [.ovec wallK []]]
def fin87 (o : WL) (i e : Int) : List D := [.obox [.ovec wallK []], .obox [I i], .obox [I e], .obox [.ovec wallK o]]
def rf87 : Code := .rangeFunc (.tmp 18) (rfPs (fnOf Tryz.f87).body) (rfAs (fnOf Tryz.f87).body) (rfBd (fnOf Tryz.f87).body)
def st186r (tm : Option (Nat × Array Value)) (o : WL) (i e : Int) (s : ByteArray) : List D := [yl87 .done (some .ret) tm o i e, .obox [St_ s]]
def B186 : Code := lpB 0 (fnOf Tryz.f186).body
theorem iter87n (s : ByteArray) (tm : Option (Nat × Array Value)) (o : WL) (r : ByteArray) : bodyI ((cgN w0).at cs87) 40 [ldP 0 (fnOf Tryz.f186).ntmps rel186 .normal (st186 tm o r)] 40 (fnOf Tryz.f186)
  (startI (fnOf Tryz.f186) (ldS N87 (rel87.map (·.1)) (pre87 s)) #[] #[.pointer (some ⟨K0 + 0, 0, none⟩)] (rfPs (fnOf Tryz.f87).body) (rfAs (fnOf Tryz.f87).body) (rfBd (fnOf Tryz.f87).body) tm) 0 rs87 =
  some ([(ldP 0 (fnOf Tryz.f186).ntmps rel186 .normal (st186 tm o r), .loop B186, st186 tm [] s)], .normal, tm, fin87 o 0 0) := by kernel_rfl
theorem iter87r (s : ByteArray) (tm : Option (Nat × Array Value)) (o : WL) (i e : Int) (r : ByteArray) : bodyI ((cgN w0).at cs87) 40 [ldP 0 (fnOf Tryz.f186).ntmps rel186 .ret (st186r tm o i e r)] 40 (fnOf Tryz.f186)
  (startI (fnOf Tryz.f186) (ldS N87 (rel87.map (·.1)) (pre87 s)) #[] #[.pointer (some ⟨K0 + 0, 0, none⟩)] (rfPs (fnOf Tryz.f87).body) (rfAs (fnOf Tryz.f87).body) (rfBd (fnOf Tryz.f87).body) tm) 0 rs87 =
  some ([(ldP 0 (fnOf Tryz.f186).ntmps rel186 .ret (st186r tm o i e r), .loop B186, st186 tm [] s)], .ret, tm, fin87 o i e) := by kernel_rfl
def ld87 (x : X) (o : WL) (i e : Int) : Ld := ldP 300018 N87 rel87 x (.val unk :: fin87 o i e)
def ob87 (x : X) (o : WL) (i e : Int) (s : ByteArray) : Obs := [(ld87 x o i e, rf87, pre87 s)]
def lgS (s : ByteArray) : Bool := decide (((s.size : Nat) : Int) > 4096)
theorem body87n (s : ByteArray) (o : WL) : bodyT ((cgN w0).at cs87) 40 [ld87 .normal o 0 0] 40 (fnOf Tryz.f87) [St_ s] =
  bif lgS s then some ([], .tup [.val (.slice none 0 0), I 0, I 26]) else bif chkAllW o != 0 then some (ob87 .normal o 0 0 s, .tup [.val (.slice none 0 0), I o.length, I (chkAllW o)]) else
   some (ob87 .normal o 0 0 s, .tup [.vec wallK o, I 0, I 0]) := by kernel_rfl
theorem body87r (s : ByteArray) (o : WL) (i e : Int) : bodyT ((cgN w0).at cs87) 40 [ld87 .ret o i e] 40 (fnOf Tryz.f87) [St_ s] =
  bif lgS s then some ([], .tup [.val (.slice none 0 0), I 0, I 26]) else some (ob87 .ret o i e s, .tup [.vec wallK [], I i, I e]) := by kernel_rfl
def lineOk (e : Bool) (W : SLs) : Bool := e && ((hdW W).toList == walB.toList && (!(tk8 W).2.2 && Nat.beq (tk8 W).2.1 0))
theorem lineT_eq {tm : Option (Nat × Array Value)} {o : WL} {line r : ByteArray} {W : SLs} (h1 : smS line = true) (h2 : smS (cutN line) = true) (ho : o.length ≤ 100000) :
  lineT tm o line r W = bif lineOk (endL (bl line)) W then nm87 tm (o ++ [wlT W]) r else rt87 tm o r := by
 unfold lineT gN lineOk
 rw [h1, h2, show rmW (o ++ [wlT W]) = true by unfold rmW; rw [List.length_append, List.length_singleton, (Nat.ble_eq ..).mpr (by omega), (Nat.ble_eq ..).mpr (by omega)]; rfl]
 simp only [cond_true]
 have hd : decide (((tk8 W).2.1 : Int) > 0) = !Nat.beq (tk8 W).2.1 0 := by
  cases h : (tk8 W).2.1 with
  | zero => rfl
  | succ m => rw [decide_eq_true (by omega)]; rfl
 rw [hd]
 cases endL (bl line) <;> cases ((hdW W).toList == walB.toList) <;> cases (tk8 W).2.2 <;> cases Nat.beq (tk8 W).2.1 0 <;> rfl
end
end Go.Proofs.YtmlglimahbjgbaaGreatDoor
namespace Go.Proofs.YtmlglimahbjgbaaGreatDoor
open Go Go.Am Go.RowKit Go.Town
set_option maxRecDepth 100000
variable {w0 : World}
noncomputable section
inductive Sx where
 | go (o : WL) (s : ByteArray)
 | er (o : WL) (i : Int) (s : ByteArray)
def st87 (tm : Option (Nat × Array Value)) : Sx → List D
 | .go o s => st186 tm o s
 | .er o i s => st186r tm o i 25 s
def lnS (s : ByteArray) : ByteArray := bif Nat.beq ((bl s).count 10) 0 then s else mkB ((bl s).take ((ixI s 10).toNat + 1))
def rsS (s : ByteArray) : ByteArray := bif Nat.beq ((bl s).count 10) 0 then mtL else mkB ((bl s).drop ((ixI s 10).toNat + 1))
def wS (s : ByteArray) : SLs := splT (cutN (lnS s))
def nx87 : Sx → X × Sx
 | .go o s => bif Nat.beq s.size 0 then (.exit 0, .go o s) else
   bif lineOk (endL (bl (lnS s))) (wS s) then (.normal, .go (o ++ [wlT (wS s)]) (rsS s)) else (.ret, .er o o.length (rsS s))
 | a => (.exit 0, a)
theorem cutN_size (s : ByteArray) : (cutN s).size ≤ s.size := by
 unfold cutN
 cases endL (bl s)
 ·exact Nat.le_refl _
 ·show (mkB _).size ≤ _
  rw [← bl_len, bl_mkB, List.length_dropLast, bl_len]; omega
theorem lnS_size (s : ByteArray) : (lnS s).size ≤ s.size := by
 unfold lnS
 cases Nat.beq ((bl s).count 10) 0
 ·show (mkB _).size ≤ _
  rw [← bl_len, bl_mkB, List.length_take, bl_len]; omega
 ·exact Nat.le_refl _
theorem rsS_size {s : ByteArray} (h : s.size ≠ 0) : (rsS s).size < s.size := by
 unfold rsS
 cases Nat.beq ((bl s).count 10) 0
 ·show (mkB _).size < _
  rw [← bl_len, bl_mkB, List.length_drop, bl_len]; omega
 ·show mtL.size < _
  have : mtL.size = 0 := rfl
  omega
theorem tree186_eq {tm : Option (Nat × Array Value)} {o : WL} {s : ByteArray} (hs : s.size ≤ 5000) (ho : o.length ≤ 5000) :
  tree186 tm o s = some ([], (nx87 (.go o s)).1, st87 tm (nx87 (.go o s)).2) := by
 unfold tree186 nx87
 by_cases h0 : s.size = 0
 ·have hb : Nat.beq s.size 0 = true := by rw [Nat.beq_eq]; exact h0
  rw [decide_eq_false (show ¬ ((s.size : Nat) : Int) > 0 by omega)]
  simp only [hb]
  rfl
 ·have hb : Nat.beq s.size 0 = false := by cases hx : Nat.beq s.size 0 with | false => rfl | true => rw [Nat.beq_eq] at hx; omega
  rw [decide_eq_true (show ((s.size : Nat) : Int) > 0 by omega)]
  simp only [hb, cond_true, cond_false]
  have fin : ∀ line r : ByteArray, line = lnS s → r = rsS s → lineT tm o line r (splT (cutN line)) = some ([], (bif lineOk (endL (bl (lnS s))) (wS s) then ((.normal : X), Sx.go (o ++ [wlT (wS s)]) (rsS s)) else (.ret, .er o o.length (rsS s))).1, st87 tm (bif lineOk (endL (bl (lnS s))) (wS s) then ((.normal : X), Sx.go (o ++ [wlT (wS s)]) (rsS s)) else (.ret, .er o o.length (rsS s))).2) := fun line r e1 e2 => by
   subst e1 e2
   have k1 := lnS_size s
   have k2 := cutN_size (lnS s)
   rw [lineT_eq ((Nat.ble_eq ..).mpr (by omega)) ((Nat.ble_eq ..).mpr (by omega)) (by omega)]
   show (bif lineOk (endL (bl (lnS s))) (wS s) then nm87 tm (o ++ [wlT (wS s)]) (rsS s) else rt87 tm o (rsS s)) = _
   unfold nm87 rt87
   cases lineOk (endL (bl (lnS s))) (wS s) <;> rfl
  by_cases hc : (bl s).count 10 = 0
  ·have hi : ixI s 10 = -1 := ix_none hc
   have hcb : Nat.beq ((bl s).count 10) 0 = true := by rw [Nat.beq_eq]; exact hc
   rw [hi]
   exact fin s mtL (by unfold lnS; rw [hcb]; rfl) (by unfold rsS; rw [hcb]; rfl)
  ·obtain ⟨m, h1, h2, _⟩ := ix_cut (c := 10) (l := bl s) (by omega)
   have hi : ixI s 10 = (m : Int) := h1
   rw [bl_len] at h2
   have hcb : Nat.beq ((bl s).count 10) 0 = false := by cases hx : Nat.beq ((bl s).count 10) 0 with | false => rfl | true => rw [Nat.beq_eq] at hx; omega
   have hx1 : ix1 s = ((m + 1 : Nat) : Int) := by unfold ix1; rw [hi, W_id (by omega) (by omega)]; omega
   have hk : cutOk s ((m + 1 : Nat) : Int) = true := by unfold cutOk; rw [decide_eq_true (show (0 : Int) ≤ ((m + 1 : Nat) : Int) by omega), decide_eq_true (show ((m + 1 : Nat) : Int) ≤ s.size by omega)]; rfl
   unfold gN
   rw [hx1, hk, hi, decide_eq_true (show (m : Int) ≥ 0 by omega), Int.toNat_natCast, ext_0, ext_e]
   exact fin _ _ (by unfold lnS; rw [hcb, hi, Int.toNat_natCast]; rfl) (by unfold rsS; rw [hcb, hi, Int.toNat_natCast]; rfl)
def splW (l : List UInt8) : SLs := (spl 32 l).map tupS
inductive Rz where
 | bad (i : Int)
 | good (o : WL)
def goP : List (List UInt8) → WL → Rz
 | [], o => .good o
 | [l], o => match l with
   | [] => .good o
   | _ :: _ => .bad o.length
 | l :: ls, o => bif lineOk true (splW l) then goP ls (o ++ [wlT (splW l)]) else .bad o.length
theorem getLast_no {l : List UInt8} (h : l.count 10 = 0) : endL l = false := by
 unfold endL
 cases hx : l.getLast? with
 | none => rfl
 | some x =>
   have hm : x ∈ l := List.mem_of_getLast? hx
   show (x == 10) = false
   rw [beq_eq_false_iff_ne]
   intro e
   subst e
   have := List.count_pos_iff.2 hm
   omega
theorem take_cut {l : List UInt8} {m : Nat} (h : l.drop m = 10 :: l.drop (m + 1)) (hm : m < l.length) : l.take (m + 1) = l.take m ++ [10] := by
 rw [List.take_succ_eq_append_getElem hm]
 have := List.drop_eq_getElem_cons hm
 rw [h] at this
 rw [← (List.cons.inj this).1]
theorem it87 : ∀ (k : Nat) (o : WL) (s : ByteArray), s.size ≤ k → ∃ f x b, iterN nx87 f (.go o s) = some (x, b) ∧ match goP (spl 10 (bl s)) o with
  | .bad i => x = .ret ∧ ∃ q r, b = .er q i r
  | .good q => x = .exit 0 ∧ ∃ r, b = .go q r
 | k, o, s, hk => by
   by_cases h0 : s.size = 0
   ·have hl : bl s = [] := List.length_eq_zero_iff.1 (by rw [bl_len]; exact h0)
    refine ⟨1, .exit 0, .go o s, ?_, ?_⟩
    ·have hb : Nat.beq s.size 0 = true := by rw [Nat.beq_eq]; exact h0
     unfold iterN nx87
     simp only [hb]
     rfl
    ·rw [hl]
     exact ⟨rfl, s, rfl⟩
   ·cases k with
    | zero => omega
    | succ k =>
      have hb : Nat.beq s.size 0 = false := by cases hx : Nat.beq s.size 0 with | false => rfl | true => rw [Nat.beq_eq] at hx; omega
      have hlt := rsS_size h0
      by_cases hc : (bl s).count 10 = 0
      ·have hcb : Nat.beq ((bl s).count 10) 0 = true := by rw [Nat.beq_eq]; exact hc
       have hln : lnS s = s := by unfold lnS; rw [hcb]; rfl
       refine ⟨1, .ret, .er o o.length (rsS s), ?_, ?_⟩
       ·unfold iterN nx87
        simp only [hb, hln, getLast_no hc]
        rfl
       ·rw [spl_none hc]
        obtain ⟨a, aa, ha⟩ : ∃ a aa, bl s = a :: aa := by
         cases hx : bl s with
         | nil => exact absurd (by rw [← bl_len, hx]; rfl) h0
         | cons a aa => exact ⟨a, aa, rfl⟩
        rw [ha]
        exact ⟨rfl, _, _, rfl⟩
      ·obtain ⟨m, h1, h2, h3, h4, h5, h6⟩ := ix_cut (c := 10) (l := bl s) (by omega)
       have hi : (ixI s 10).toNat = m := by show (Lib.indexByte (bl s) 10).toNat = m; rw [h1]; rfl
       have hcb : Nat.beq ((bl s).count 10) 0 = false := by cases hx : Nat.beq ((bl s).count 10) 0 with | false => rfl | true => rw [Nat.beq_eq] at hx; omega
       have hln : lnS s = mkB ((bl s).take m ++ [10]) := by unfold lnS; rw [hcb, hi, take_cut h6 h2]; rfl
       have hrs : bl (rsS s) = (bl s).drop (m + 1) := by unfold rsS; rw [hcb, hi]; exact bl_mkB _
       have hend : endL (bl (lnS s)) = true := by rw [hln, bl_mkB]; unfold endL; rw [List.getLast?_append]; rfl
       have hw : wS s = splW ((bl s).take m) := by
        unfold wS splT splW cutN
        rw [hend, hln, bl_mkB]
        show (spl 32 (bl (mkB ((bl s).take m ++ [10]).dropLast))).map tupS = _
        rw [bl_mkB, List.dropLast_concat]
       obtain ⟨y, ys, hy⟩ : ∃ y ys, spl 10 ((bl s).drop (m + 1)) = y :: ys := by
        cases hx : spl 10 ((bl s).drop (m + 1)) with
        | nil => have := spl_len 10 ((bl s).drop (m + 1)); rw [hx] at this; simp at this
        | cons y ys => exact ⟨y, ys, rfl⟩
       have hgo : goP (spl 10 (bl s)) o = bif lineOk true (splW ((bl s).take m)) then goP (spl 10 ((bl s).drop (m + 1))) (o ++ [wlT (splW ((bl s).take m))]) else .bad o.length := by rw [h4, hy]; rfl
       rw [hgo]
       cases hok : lineOk true (splW ((bl s).take m)) with
       | false =>
         refine ⟨1, .ret, .er o o.length (rsS s), ?_, rfl, _, _, rfl⟩
         unfold iterN nx87
         simp only [hb, hend, hw, hok]
         rfl
       | true =>
         obtain ⟨f, x, b, e1, e2⟩ := it87 k (o ++ [wlT (splW ((bl s).take m))]) (rsS s) (by omega)
         rw [hrs] at e2
         refine ⟨f + 1, x, b, ?_, e2⟩
         unfold iterN
         have : nx87 (.go o s) = (.normal, .go (o ++ [wlT (splW ((bl s).take m))]) (rsS s)) := by
          unfold nx87
          simp only [hb, hend, hw, hok]
          rfl
         rw [this]
         exact e1
theorem cgN_ok (w0 : World) : CfgOk (cgN w0) := Cfg.onH_ok (Cfg.onI_ok (cfg_ok w0) [151]) [nmC, wdC]
theorem cgN_sp (h0 : Lib0 w0) : SpecOK (cgN w0) := specs_onH (C := (cfg w0).onI [151]) (specs_onI h0 [151]) ⟨gdH154 h0, gdH155 h0, trivial⟩
theorem cs87_gd (h0 : Lib0 w0) : Gds (cgN w0) cs87 := Gds.onH (C := (cfg w0).onI [151]) (hs := [nmC, wdC]) (cs := cs87) ⟨gd205, gd152 h0, gd153 h0, gd38 h0, trivial⟩
def inv87 : Sx → Prop
 | .go o s => o.length + s.size ≤ 5000
 | .er .. => False
theorem lL87 (h0 : Lib0 w0) (tm : Option (Nat × Array Value)) {s : ByteArray} (hs : s.size ≤ 4096) {f : Nat} {x : X} {b : Sx} (hit : iterN nx87 f (.go [] s) = some (x, b)) :
  LdT ((cgN w0).at cs87) (ldP 0 (fnOf Tryz.f186).ntmps rel186 (outX 0 x) (st87 tm b)) (.loop B186) (st87 tm (.go [] s)) :=
 ldT_iter (at_ok (cgN_ok w0) cs87) (at_sp (cgN_sp h0) (cs87_gd h0)) (N := (fnOf Tryz.f186).ntmps) (rel := rel186) (B := B186) (id := 0) (st87 tm) nx87 inv87
  (fun a ha => by
   cases a with
   | er => exact ha.elim
   | go o s =>
     have ha : o.length + s.size ≤ 5000 := ha
     exact .leaf ((round186 tm o s).trans (tree186_eq (by omega) (by omega))))
  (fun a b ha hn => by
   cases a with
   | er => exact ha.elim
   | go o s =>
     have ha : o.length + s.size ≤ 5000 := ha
     unfold nx87 at hn
     simp only at hn
     cases hb : Nat.beq s.size 0 with
     | true => rw [hb] at hn; cases hn
     | false =>
       rw [hb] at hn
       simp only [cond_false] at hn
       cases hok : lineOk (endL (bl (lnS s))) (wS s) with
       | false => rw [hok] at hn; cases hn
       | true =>
         rw [hok] at hn
         cases hn
         have hz : s.size ≠ 0 := fun e => by rw [e] at hb; cases hb
         have k1 := rsS_size hz
         show (o ++ [wlT (wS s)]).length + (rsS s).size ≤ 5000
         rw [List.length_append, List.length_singleton]
         omega)
  (a0 := .go [] s) (by show 0 + s.size ≤ 5000; omega) hit
abbrev P3 := WL × Int × Int
def p3D (x : P3) : D := .tup [.vec wallK x.1, I x.2.1, I x.2.2]
def fz87 : Rz → P3
 | .bad i => ([], i, 25)
 | .good q => bif chkAllW q != 0 then ([], q.length, chkAllW q) else (q, 0, 0)
def parP (s : ByteArray) : P3 := bif lgS s then ([], 0, 26) else fz87 (goP (spl 10 (bl s)) [])
theorem lgS_le {s : ByteArray} (h : lgS s = false) : s.size ≤ 4096 := by
 have := of_decide_eq_false h
 omega
theorem fn87 (h0 : Lib0 w0) (s : ByteArray) : FnD (cfg w0) 87 [St_ s] (p3D (parP s)) := by
 have fin : ∀ {L : List Ld} {o : Obs} {d : D}, bodyT ((cgN w0).at cs87) 40 L 40 (fnOf Tryz.f87) [St_ s] = some (o, d) → Owed ((cgN w0).at cs87) o → FnD (cfg w0) 87 [St_ s] d :=
  fun h hO => fnD_t (C := cgN w0) (cgN_ok w0) (cgN_sp h0) (cs87_gd h0) (fd := fnOf Tryz.f87) rfl h hO
 unfold parP
 cases hc : lgS s with
 | true =>
   have hb := body87r (w0 := w0) s [] 0 0
   rw [hc] at hb
   exact FnD.nil_vec (ks := wallK) (vs := [.int .i64 0, .int .i64 26]) rfl (by decide) (fin hb trivial)
 | false =>
   have hs := lgS_le hc
   obtain ⟨f, x, b, hit, hgo⟩ := it87 s.size [] s (Nat.le_refl _)
   simp only [cond_false]
   have hrf : ∀ (y : X) (q : WL) (i e : Int), (∀ tm, ∃ r, bodyI ((cgN w0).at cs87) 40 [ldP 0 (fnOf Tryz.f186).ntmps rel186 (outX 0 x) (st87 tm b)] 40 (fnOf Tryz.f186)
     (startI (fnOf Tryz.f186) (ldS N87 (rel87.map (·.1)) (pre87 s)) #[] #[.pointer (some ⟨K0 + 0, 0, none⟩)] (rfPs (fnOf Tryz.f87).body) (rfAs (fnOf Tryz.f87).body) (rfBd (fnOf Tryz.f87).body) tm) 0 rs87 =
     some ([(ldP 0 (fnOf Tryz.f186).ntmps rel186 (outX 0 x) (st87 tm b), .loop B186, st186 tm [] s)], y, tm, fin87 q i e) ∧ r = ()) → LdT ((cgN w0).at cs87) (ld87 y q i e) rf87 (pre87 s) := fun y q i e hb =>
    ldT_range (C := (cgN w0).at cs87) (at_ok (cgN_ok w0) cs87) (at_sp (cgN_sp h0) (cs87_gd h0)) (id := 300018) (N := N87) (rel := rel87) (pre := pre87 s) (x := y) (ds' := fin87 q i e) (tf := 18) (rs := rs87) (fd := fnOf Tryz.f186) (py := 0) (xs := #[]) (ys := #[.pointer (some ⟨K0 + 0, 0, none⟩)]) (g := 186) rfl (by kernel_rfl) rfl rfl
     fun tm => by
      obtain ⟨_, h, _⟩ := hb tm
      exact ⟨40, 40, _, _, h, lL87 h0 tm hs hit, trivial⟩
   cases hg : goP (spl 10 (bl s)) [] with
   | bad i =>
     rw [hg] at hgo
     obtain ⟨rfl, q, r, rfl⟩ := hgo
     have hb := body87r (w0 := w0) s q i 25
     rw [hc] at hb
     exact fin hb ⟨hrf .ret q i 25 fun tm => ⟨(), iter87r s tm q i 25 r, rfl⟩, trivial⟩
   | good q =>
     rw [hg] at hgo
     obtain ⟨rfl, r, rfl⟩ := hgo
     have hb := body87n (w0 := w0) s q
     rw [hc] at hb
     have hO : Owed ((cgN w0).at cs87) (ob87 .normal q 0 0 s) := ⟨hrf .normal q 0 0 fun tm => ⟨(), iter87n s tm q r, rfl⟩, trivial⟩
     unfold fz87
     simp only
     cases hce : (chkAllW q != 0) with
     | true =>
       rw [hce] at hb
       exact FnD.nil_vec (ks := wallK) (vs := [.int .i64 q.length, .int .i64 (chkAllW q)]) rfl (by decide) (fin hb hO)
     | false =>
       rw [hce] at hb
       exact fin hb hO
def c87 : Ct := ct 87 [.c .str] fun a => .leaf (p3D (parP a.1))
theorem gd87 (h0 : Lib0 w0) : Gd (cfg w0) c87 := gd_sig fun a d hd => by
 obtain ⟨s, u⟩ := a
 cases hd
 exact fn87 h0 s
end
end Go.Proofs.YtmlglimahbjgbaaGreatDoor
