/-
  A part of the proof of the statement that the claim names: see the last file.
-/
import Derived.Test.YtifnpljmjhnbaaaGreatDoorL1
import Derived.Test.YtifnpljmjhnbaaaGreatDoorL2
namespace Go.Proofs.YtifnpljmjhnbaaaGreatDoor
open Go Go.Am Go.RowKit
set_option maxRecDepth 100000
variable {w0 : World}
noncomputable section


abbrev cgN (w0 : World) : Cfg := (cfg w0).onH [numC]
abbrev Rn' := Option (Obs × X × List D)
def recB : ByteArray := ⟨#[114, 101, 99, 111, 114, 100]⟩
def secB : ByteArray := ⟨#[115, 101, 99, 111, 110, 100]⟩
def misBy : ByteArray := ⟨#[109, 105, 115, 115, 105, 110, 103]⟩
def rt80 (tm : Option (Nat × Array Value)) (p : Pz) (r : ByteArray) : Rn' := some ([], .ret, [yl80 .done (some .ret) tm p p.n 25, .obox [St_ r]])
def nm80 (tm : Option (Nat × Array Value)) (p : Pz) (r : ByteArray) : Rn' := some ([], .normal, [yl80 .ready none tm ⟨p.o, IntKind.i64.wrap (p.n + 1), p.k⟩ 0 0, .obox [St_ r]])
def gN (b : Bool) (k : Rn') : Rn' := bif b then k else none
def endK (tm : Option (Nat × Array Value)) (e : Bool) (r : ByteArray) (wr : Bool) (m : Nat) (p : Pz) : Rn' := bif !e then rt80 tm p r else bif wr then rt80 tm p r else bif decide ((m : Int) > 0) then rt80 tm p r else nm80 tm p r
def w0L (W : SLs) : ByteArray := (nth W (Int.toNat 0 + 0)).1
def mW (W : SLs) : Nat := ((W.length : Int)).toNat - Int.toNat 1
def mW2 (W : SLs) : Nat := ((mW W : Int)).toNat - Int.toNat 1
def wrK (tm : Option (Nat × Array Value)) (e : Bool) (r : ByteArray) (W : SLs) (word : ByteArray) (m : Nat) (p : Pz) (wr : Bool) : Rn' := bif wr then endK tm e r true m p else gN (inL W 0) (endK tm e r ((w0L W).toList != word.toList) m p)
def rm80 (o : List (Tup intK)) : Bool := Nat.ble (o.length * 8) 1000000000000 && Nat.ble o.length 1000000000000
def nmW (W : SLs) (dg : Int) : Int × Bool := nmP W (0 + Int.toNat 1) false dg
def lineT (tm : Option (Nat × Array Value)) (p : Pz) (line r : ByteArray) (W : SLs) : Rn' :=
  gN (smS line) (gN (smS (cutN line)) (gN (cutM W.length) (
    bif p.n == 0 then
      bif ((mW W : Nat) : Int) == 0 then wrK tm (endL (bl line)) r W recB (mW W) ⟨p.o, p.n, 0⟩ true else
      gN (okN (mW W) 9) (wrK tm (endL (bl line)) r W recB (mW2 W) ⟨p.o, p.n, (nmW W 9).1⟩ (nmW W 9).2)
    else gN (inL W 0) (bif (w0L W).toList == misBy.toList then gN (rm80 (p.o ++ [t1 (-1)])) (endK tm (endL (bl line)) r false (mW W) ⟨p.o ++ [t1 (-1)], p.n, p.k⟩) else
      bif ((mW W : Nat) : Int) == 0 then gN (rm80 (p.o ++ [t1 0])) (wrK tm (endL (bl line)) r W secB (mW W) ⟨p.o ++ [t1 0], p.n, p.k⟩ true) else
      gN (okN (mW W) 15) (gN (rm80 (p.o ++ [t1 (nmW W 15).1])) (wrK tm (endL (bl line)) r W secB (mW2 W) ⟨p.o ++ [t1 (nmW W 15).1], p.n, p.k⟩ (nmW W 15).2))))))
def ix1 (s : ByteArray) : Int := IntKind.i64.wrap (ixI s 10 + 1)
def mtL : ByteArray := ⟨#[]⟩
def tree170 (tm : Option (Nat × Array Value)) (p : Pz) (s : ByteArray) : Rn' :=
  bif decide (((s.size : Nat) : Int) > 0) then bif decide (ixI s 10 ≥ 0) then gN (cutOk s (ix1 s)) (gN (cutOk s (ix1 s)) (lineT tm p (s.extract 0 (ix1 s).toNat) (s.extract (ix1 s).toNat s.size) (splT (cutN (s.extract 0 (ix1 s).toNat)))))
    else lineT tm p s mtL (splT (cutN s))
  else some ([], .exit 0, st170 tm p s)
theorem round170 (tm : Option (Nat × Array Value)) (p : Pz) (s : ByteArray) : rndD ((cgN w0).at cs80) 40 [] 40 (fnOf Tryz.f170).ntmps rel170 (lpB 0 (fnOf Tryz.f170).body) (st170 tm p s) = tree170 tm p s := by kernel_rfl
end
end Go.Proofs.YtifnpljmjhnbaaaGreatDoor

namespace Go.Proofs.YtifnpljmjhnbaaaGreatDoor
open Go Go.Am Go.RowKit
set_option maxRecDepth 100000
variable {w0 : World}
noncomputable section


def rel80 : List (Nat × Cv) := [(29, .id), (2, .bv intK), (3, .id), (4, .id), (6, .bv intK), (7, .id), (8, .id)]
def pre80 (s : ByteArray) : List D := [.fn 170 [] [.obox [St_ s]], .obox [.ovec intK []], .obox [I 0], .obox [I 0], .obox [.ovec intK []], .obox [I 0], .obox [I 0]]
def fin80 (p : Pz) (i e : Int) : List D := [.obox [.ovec intK []], .obox [I i], .obox [I e], .obox [.ovec intK p.o], .obox [I p.n], .obox [I p.k]]
def rf80 : Code := .rangeFunc (.tmp 29) (rfPs (fnOf Tryz.f80).body) (rfAs (fnOf Tryz.f80).body) (rfBd (fnOf Tryz.f80).body)
def st170r (tm : Option (Nat × Array Value)) (p : Pz) (i e : Int) (s : ByteArray) : List D := [yl80 .done (some .ret) tm p i e, .obox [St_ s]]
def B170 : Code := lpB 0 (fnOf Tryz.f170).body
theorem iter80n (s : ByteArray) (tm : Option (Nat × Array Value)) (p : Pz) (r : ByteArray) : bodyI ((cgN w0).at cs80) 40 [ldP 0 (fnOf Tryz.f170).ntmps rel170 .normal (st170 tm p r)] 40 (fnOf Tryz.f170)
    (startI (fnOf Tryz.f170) (ldS N80 (rel80.map (·.1)) (pre80 s)) #[] #[.pointer (some ⟨K0 + 0, 0, none⟩)] (rfPs (fnOf Tryz.f80).body) (rfAs (fnOf Tryz.f80).body) (rfBd (fnOf Tryz.f80).body) tm) 0 rs80 =
    some ([(ldP 0 (fnOf Tryz.f170).ntmps rel170 .normal (st170 tm p r), .loop B170, st170 tm ⟨[], 0, 0⟩ s)], .normal, tm, fin80 p 0 0) := by kernel_rfl
theorem iter80r (s : ByteArray) (tm : Option (Nat × Array Value)) (p : Pz) (i e : Int) (r : ByteArray) : bodyI ((cgN w0).at cs80) 40 [ldP 0 (fnOf Tryz.f170).ntmps rel170 .ret (st170r tm p i e r)] 40 (fnOf Tryz.f170)
    (startI (fnOf Tryz.f170) (ldS N80 (rel80.map (·.1)) (pre80 s)) #[] #[.pointer (some ⟨K0 + 0, 0, none⟩)] (rfPs (fnOf Tryz.f80).body) (rfAs (fnOf Tryz.f80).body) (rfBd (fnOf Tryz.f80).body) tm) 0 rs80 =
    some ([(ldP 0 (fnOf Tryz.f170).ntmps rel170 .ret (st170r tm p i e r), .loop B170, st170 tm ⟨[], 0, 0⟩ s)], .ret, tm, fin80 p i e) := by kernel_rfl
def ld80 (x : X) (p : Pz) (i e : Int) : Ld := ldP 300029 N80 rel80 x (.val unk :: fin80 p i e)
def e80 (s : ByteArray) : Int := firstZ [whenZ (decide (((s.size : Nat) : Int) > 4096)) 26, whenZ (s.toList == mtL.toList) 25]
def e80b (p : Pz) : Int := firstZ [whenZ ((p.o.length : Int) != p.k) 2, chkR p.o]
def ob80 (x : X) (p : Pz) (i e : Int) (s : ByteArray) : Obs := [(ld80 x p i e, rf80, pre80 s)]
theorem body80n (s : ByteArray) (p : Pz) : bodyT ((cgN w0).at cs80) 40 [ld80 .normal p 0 0] 40 (fnOf Tryz.f80) [St_ s] =
    bif e80 s != 0 then some ([], .tup [.val (.slice none 0 0), I 0, I (e80 s)]) else bif sm p.o then bif e80b p != 0 then some (ob80 .normal p 0 0 s, .tup [.val (.slice none 0 0), I p.n, I (e80b p)]) else
      some (ob80 .normal p 0 0 s, .tup [.vec intK p.o, I 0, I 0]) else none := by kernel_rfl
theorem body80r (s : ByteArray) (p : Pz) (i e : Int) : bodyT ((cgN w0).at cs80) 40 [ld80 .ret p i e] 40 (fnOf Tryz.f80) [St_ s] =
    bif e80 s != 0 then some ([], .tup [.val (.slice none 0 0), I 0, I (e80 s)]) else some (ob80 .ret p i e s, .tup [.vec intK [], I i, I e]) := by kernel_rfl


def misW (W : SLs) : Bool := (w0L W).toList == misBy.toList
def wrB (W : SLs) (word : ByteArray) (dg : Int) : Bool := bif Nat.beq W.length 1 then true else ((nmW W dg).2 || ((w0L W).toList != word.toList))
def valW (W : SLs) (dg : Int) : Int := bif Nat.beq W.length 1 then 0 else (nmW W dg).1
def lineE (p : Pz) (W : SLs) : Pz := bif p.n == 0 then ⟨p.o, p.n, valW W 9⟩ else bif misW W then ⟨p.o ++ [t1 (-1)], p.n, p.k⟩ else ⟨p.o ++ [t1 (valW W 15)], p.n, p.k⟩
def lineOk (p : Pz) (e : Bool) (W : SLs) : Bool := e && (bif p.n == 0 then !wrB W recB 9 && Nat.ble W.length 2 else bif misW W then Nat.ble W.length 1 else !wrB W secB 15 && Nat.ble W.length 2)
def rs80T (tm : Option (Nat × Array Value)) (ok : Bool) (q : Pz) (r : ByteArray) : Rn' := bif ok then nm80 tm q r else rt80 tm q r
theorem endK_eq (tm : Option (Nat × Array Value)) (e : Bool) (r : ByteArray) (wr : Bool) (m : Nat) (p : Pz) : endK tm e r wr m p = rs80T tm (e && (!wr && Nat.beq m 0)) p r := by
  unfold endK rs80T
  cases e with
  | false => rfl
  | true =>
    cases wr with
    | true => rfl
    | false =>
      cases m with
      | zero => rfl
      | succ m => rw [decide_eq_true (show ((m + 1 : Nat) : Int) > 0 by omega)]; rfl
theorem wrK_eq (tm : Option (Nat × Array Value)) (e : Bool) (r : ByteArray) (W : SLs) (hW : 0 < W.length) (word : ByteArray) (m : Nat) (p : Pz) (wr : Bool) : wrK tm e r W word m p wr = rs80T tm (e && (!(wr || ((w0L W).toList != word.toList)) && Nat.beq m 0)) p r := by
  unfold wrK gN
  rw [show inL W 0 = true from inL_nat hW, endK_eq, endK_eq]
  cases wr <;> rfl
theorem lineT_eq {tm : Option (Nat × Array Value)} {p : Pz} {line r : ByteArray} {W : SLs} (h1 : smS line = true) (h2 : smS (cutN line) = true) (hW : 0 < W.length) (hW2 : W.length ≤ 200000) (ho : p.o.length ≤ 100000) :
    lineT tm p line r W = rs80T tm (lineOk p (endL (bl line)) W) (lineE p W) r := by
  have hc : ∀ m : Nat, 1 ≤ m → cutM m = true := fun m hm => by
    unfold cutM
    rw [decide_eq_true (show (0 : Int) ≤ 1 by omega), decide_eq_true (show (1 : Int) ≤ (m : Nat) by omega), decide_eq_true (show ((m : Nat) : Int) ≤ (m : Nat) by omega)]
    rfl
  have hk : ∀ (m : Nat) (dg : Int), 1 ≤ m → dg ≤ 15 → okN m dg = true := fun m dg hm hd => by
    unfold okN inM
    rw [hc m hm, decide_eq_true hd, decide_eq_true (show (0 : Int) ≤ 0 by omega), decide_eq_true (show (0 : Int) < (m : Nat) by omega)]
    rfl
  have hr : ∀ x : Int, rm80 (p.o ++ [t1 x]) = true := fun x => by
    unfold rm80
    rw [List.length_append, List.length_singleton, (Nat.ble_eq ..).mpr (by omega), (Nat.ble_eq ..).mpr (by omega)]
    rfl
  have hm : mW W = W.length - 1 := by unfold mW; rw [Int.toNat_natCast]; rfl
  have hm2 : mW2 W = W.length - 2 := by unfold mW2; rw [Int.toNat_natCast, hm]; show W.length - 1 - 1 = _; omega
  have one : ∀ (e : Bool) (word : ByteArray) (q : Pz), W.length = 1 → rs80T tm (e && (!(true || ((w0L W).toList != word.toList)) && Nat.beq (W.length - 1) 0)) q r = rs80T tm (e && (!wrB W word 9 && Nat.ble W.length 2)) q r := fun e word q h => by
    unfold wrB
    rw [h]
    rfl
  unfold lineT gN
  rw [h1, h2, hc _ hW, show inL W 0 = true from inL_nat hW, hm, hm2]
  simp only [cond_true]
  unfold lineOk lineE valW wrB
  by_cases hw : W.length = 1
  · rw [hw]
    rw [show (((1 - 1 : Nat) : Int) == 0) = true from rfl, show Nat.beq 1 1 = true from rfl]
    simp only [cond_true]
    rw [wrK_eq _ _ _ _ hW, wrK_eq _ _ _ _ hW, endK_eq, hr, hr]
    unfold misW
    cases (p.n == 0) with
    | true => rfl
    | false => cases ((w0L W).toList == misBy.toList) <;> rfl
  · have hb : Nat.beq W.length 1 = false := by cases hx : Nat.beq W.length 1 with | false => rfl | true => rw [Nat.beq_eq] at hx; omega
    have hz : (((W.length - 1 : Nat) : Int) == 0) = false := by rw [beq_eq_false_iff_ne]; omega
    rw [hz, hb, hk _ 9 (by omega) (by omega), hk _ 15 (by omega) (by omega)]
    simp only [cond_true, cond_false]
    rw [wrK_eq _ _ _ _ hW, wrK_eq _ _ _ _ hW, endK_eq, hr, hr]
    have e2 : Nat.beq (W.length - 2) 0 = Nat.ble W.length 2 := by
      cases hx : Nat.ble W.length 2 with
      | true => rw [Nat.ble_eq] at hx; rw [show W.length - 2 = 0 by omega]; rfl
      | false =>
        cases hy : Nat.beq (W.length - 2) 0 with
        | false => rfl
        | true => rw [Nat.beq_eq] at hy; rw [show Nat.ble W.length 2 = true from (Nat.ble_eq ..).mpr (by omega)] at hx; cases hx
    have e1 : Nat.beq (W.length - 1) 0 = Nat.ble W.length 1 := by
      cases hx : Nat.ble W.length 1 with
      | true => rw [Nat.ble_eq] at hx; rw [show W.length - 1 = 0 by omega]; rfl
      | false =>
        cases hy : Nat.beq (W.length - 1) 0 with
        | false => rfl
        | true => rw [Nat.beq_eq] at hy; rw [show Nat.ble W.length 1 = true from (Nat.ble_eq ..).mpr (by omega)] at hx; cases hx
    rw [e2, e1]
    unfold misW
    cases (p.n == 0) with
    | true => rfl
    | false => cases ((w0L W).toList == misBy.toList) <;> rfl
end
end Go.Proofs.YtifnpljmjhnbaaaGreatDoor
