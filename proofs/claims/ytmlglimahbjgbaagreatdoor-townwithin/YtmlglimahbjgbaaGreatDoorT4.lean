/-
 A part of the proof of the statement that the claim names: see the last file.
-/
import Derived.Test.YtmlglimahbjgbaaGreatDoorT2
import Derived.Test.YtmlglimahbjgbaaGreatDoorT3
import Derived.Test.YtmlglimahbjgbaaGreatDoorT1
import Derived.Test.YtmlglimahbjgbaaGreatDoorAm3
namespace Go.Proofs.YtmlglimahbjgbaaGreatDoor
open Go Go.Am Go.Town
set_option maxRecDepth 100000
abbrev I (n : Int) : D := .val (iv n)
abbrev Bo (b : Bool) : D := .val (.bool b)
abbrev Str (s : ByteArray) : D := .val (.string s)
structure Ctr where
 g : Nat
 F : List D → Option (Bool × D)
noncomputable def modeC (cs : List Ctr) (f : FuncId) : Am.Mode :=
 match cs with
 | [] => modeF f
 | c :: r => match Nat.beq f c.g with
   | true => .specG c.F
   | false => modeC r f
noncomputable def cfgC (w0 : World) (cs : List Ctr) : Cfg := { cfg w0 with mode := modeC cs }
theorem cfgC_ok (w0 : World) (cs : List Ctr) : CfgOk (cfgC w0 cs) :=
 ⟨fun _ _ h => Tr.get_all tyTr_all h, fun _ _ h => Tr.get_all fnTr_all h, by kernel_rfl⟩
def Good (w0 : World) (c : Ctr) : Prop := ∀ ds d, c.F ds = some (true, d) → FnD (cfg w0) c.g ds d
def Lib0 (w0 : World) : Prop := SpecOK (cfg w0)
def Goods (w0 : World) : List Ctr → Prop
 | [] => True
 | c :: cs => Good w0 c ∧ Goods w0 cs
theorem specs_ok {w0 : World} (h0 : Lib0 w0) : ∀ {cs : List Ctr}, Goods w0 cs → SpecOK (cfgC w0 cs)
 | [], _ => h0
 | c :: cs, ⟨h1, h2⟩ => by
   have ih := specs_ok h0 (cs := cs) h2
   refine ⟨fun g Fn hm => ?_, fun g Fn hm => ?_, fun g Fn hm => ?_, fun g Fn hm => ?_⟩
   ·have hm : modeC (c :: cs) g = .spec Fn := hm
    unfold modeC at hm
    split at hm
    ·cases hm
    ·exact ih.1 g Fn hm
   ·have hm : modeC (c :: cs) g = .specG Fn := hm
    unfold modeC at hm
    split at hm
    ·rename_i e
     rw [Nat.beq_eq] at e
     cases hm
     intro ds d hd
     rw [e]
     exact h1 ds d hd
    ·exact ih.2.1 g Fn hm
   ·have hm : modeC (c :: cs) g = .specT Fn := hm
    unfold modeC at hm
    split at hm
    ·cases hm
    ·exact ih.2.2.1 g Fn hm
   ·have hm : modeC (c :: cs) g = .specH Fn := hm
    unfold modeC at hm
    split at hm
    ·cases hm
    ·exact ih.2.2.2 g Fn hm
theorem good_body {w0 : World} (h0 : Lib0 w0) {cs : List Ctr} (hcs : Goods w0 cs) (c : Ctr) (fd : AFn) (hfd : fnTr.get c.g = some fd)
  (H : ∀ ds d, c.F ds = some (true, d) → ∃ n, bodyK (cfgC w0 cs) n fd ds = some d) : Good w0 c := fun ds d hd => by
 obtain ⟨n, hn⟩ := H ds d hd
 rw [bodyK_eq] at hn
 exact bodyD_sound (C := cfgC w0 cs) (cfgC_ok w0 cs) (ev_sound (cfgC_ok w0 cs) (specs_ok h0 hcs) n) hfd hn
def gIs : List D → Option (List Int)
 | [] => some []
 | .val (.int .i64 n) :: ds => match gIs ds with
   | some ns => some (n :: ns)
   | none => none
 | _ => none
theorem gIs_inv : ∀ {ds : List D} {ns : List Int}, gIs ds = some ns → ds = ns.map I
 | [], ns, h => by simp [gIs] at h; subst h; rfl
 | d :: ds, ns, h => by
   unfold gIs at h
   split at h
   ·rename_i heq; cases heq
   ·rename_i n ds' heq
    cases heq
    cases hr : gIs ds with
    | none => simp [hr] at h
    | some ms =>
      simp [hr] at h
      subst h
      rw [gIs_inv hr]; rfl
   ·cases h
end Go.Proofs.YtmlglimahbjgbaaGreatDoor
namespace Go.Proofs.YtmlglimahbjgbaaGreatDoor
open Go Go.Am Go.Town
set_option maxRecDepth 100000
variable {w0 : World}
def whenF (ds : List D) : Option (Bool × D) :=
 match ds with
 | [.val (.bool b), .val (.int .i64 e)] => some (true, I (whenZ b e))
 | _ => none
theorem whenF_inv {ds : List D} {d : D} (h : whenF ds = some (true, d)) : ∃ b e, ds = [Bo b, I e] ∧ d = I (whenZ b e) := by
 unfold whenF at h
 split at h
 ·rename_i b e; cases h; exact ⟨b, e, rfl, rfl⟩
 ·cases h
def intsF (k : List Int → Option (Bool × D)) (ds : List D) : Option (Bool × D) :=
 match gIs ds with
 | some ns => k ns
 | none => none
theorem intsF_inv {k : List Int → Option (Bool × D)} {ds : List D} {d : D} (h : intsF k ds = some (true, d)) : ∃ ns, ds = ns.map I ∧ k ns = some (true, d) := by
 unfold intsF at h
 cases hr : gIs ds with
 | none => simp [hr] at h
 | some ns => simp only [hr] at h; exact ⟨ns, gIs_inv hr, h⟩
def withinK (ns : List Int) : Option (Bool × D) :=
 match ns with
 | [n, lo, hi] => some (true, I (withinZ n lo hi))
 | _ => none
theorem withinK_inv {ns : List Int} {d : D} (h : withinK ns = some (true, d)) : ∃ n lo hi, ns = [n, lo, hi] ∧ d = I (withinZ n lo hi) := by
 unfold withinK at h
 split at h
 ·rename_i n lo hi; cases h; exact ⟨n, lo, hi, rfl, rfl⟩
 ·cases h
def cmpZ (p q : Int) : Int := bif decide (p < q) then -1 else bif decide (q < p) then 1 else 0
def cmpK (ns : List Int) : Option (Bool × D) :=
 match ns with
 | [p, q] => some (true, I (cmpZ p q))
 | _ => none
theorem cmpK_inv {ns : List Int} {d : D} (h : cmpK ns = some (true, d)) : ∃ p q, ns = [p, q] ∧ d = I (cmpZ p q) := by
 unfold cmpK at h
 split at h
 ·rename_i n lo; cases h; exact ⟨n, lo, rfl, rfl⟩
 ·cases h
def sgnK (ns : List Int) : Option (Bool × D) :=
 match ns with
 | [p] => some (true, I (sgnZ p))
 | _ => none
theorem sgnK_inv {ns : List Int} {d : D} (h : sgnK ns = some (true, d)) : ∃ p, ns = [p] ∧ d = I (sgnZ p) := by
 unfold sgnK at h
 split at h
 ·rename_i n; cases h; exact ⟨n, rfl, rfl⟩
 ·cases h
theorem when_good (h0 : Lib0 w0) : Good w0 ⟨119, whenF⟩ := good_body h0 (cs := []) trivial _ (fnOf Tryz.f119) rfl fun ds d h => by
 obtain ⟨b, e, rfl, rfl⟩ := whenF_inv h
 refine ⟨20, ?_⟩
 have : bodyK (cfgC w0 []) 20 (fnOf Tryz.f119) [Bo b, I e] = bif b then some (I e) else some (I 0) := by kernel_rfl
 rw [this]; cases b <;> rfl
theorem rwhen_good (h0 : Lib0 w0) : Good w0 ⟨54, whenF⟩ := good_body h0 (cs := []) trivial _ (fnOf Tryz.f54) rfl fun ds d h => by
 obtain ⟨b, e, rfl, rfl⟩ := whenF_inv h
 refine ⟨20, ?_⟩
 have : bodyK (cfgC w0 []) 20 (fnOf Tryz.f54) [Bo b, I e] = bif b then some (I e) else some (I 0) := by kernel_rfl
 rw [this]; cases b <;> rfl
theorem within_good (h0 : Lib0 w0) : Good w0 ⟨115, intsF withinK⟩ := good_body h0 (cs := [⟨119, whenF⟩]) ⟨when_good h0, trivial⟩ _ (fnOf Tryz.f115) rfl fun ds d h => by
 obtain ⟨ns, rfl, hk⟩ := intsF_inv h
 obtain ⟨n, lo, hi, rfl, rfl⟩ := withinK_inv hk
 refine ⟨20, ?_⟩
 have : bodyK (cfgC w0 [⟨119, whenF⟩]) 20 (fnOf Tryz.f115) [I n, I lo, I hi] = bif decide (n < lo) then some (I (whenZ true 3)) else some (I (whenZ (decide (n > hi)) 3)) := by kernel_rfl
 refine this.trans ?_
 unfold withinZ
 cases decide (n < lo) <;> rfl
theorem range_good (h0 : Lib0 w0) : Good w0 ⟨32, intsF withinK⟩ := good_body h0 (cs := [⟨54, whenF⟩]) ⟨rwhen_good h0, trivial⟩ _ (fnOf Tryz.f32) rfl fun ds d h => by
 obtain ⟨ns, rfl, hk⟩ := intsF_inv h
 obtain ⟨n, lo, hi, rfl, rfl⟩ := withinK_inv hk
 refine ⟨20, ?_⟩
 have : bodyK (cfgC w0 [⟨54, whenF⟩]) 20 (fnOf Tryz.f32) [I n, I lo, I hi] = bif decide (n < lo) then some (I (whenZ true 3)) else some (I (whenZ (decide (n > hi)) 3)) := by kernel_rfl
 refine this.trans ?_
 unfold withinZ
 cases decide (n < lo) <;> rfl
theorem cmp_good (h0 : Lib0 w0) : Good w0 ⟨101, intsF cmpK⟩ := good_body h0 (cs := []) trivial _ (fnOf Tryz.f101) rfl fun ds d h => by
 obtain ⟨ns, rfl, hk⟩ := intsF_inv h
 obtain ⟨p, q, rfl, rfl⟩ := cmpK_inv hk
 refine ⟨40, ?_⟩
 have : bodyK (cfgC w0 []) 40 (fnOf Tryz.f101) [I p, I q] =
  bif (p != p) then bif (q != q) then some (I 0) else some (I (-1)) else bif (q != q) then some (I 1) else bif decide (p < q) then some (I (-1)) else bif decide (p > q) then some (I 1) else some (I 0) := by kernel_rfl
 refine this.trans ?_
 unfold cmpZ
 simp only [bne_self_eq_false, cond_false]
 cases decide (p < q)
 ·simp only [cond_false, gt_iff_lt]
  cases decide (q < p) <;> rfl
 ·rfl
theorem sgn_good (h0 : Lib0 w0) : Good w0 ⟨110, intsF sgnK⟩ := good_body h0 (cs := []) trivial _ (fnOf Tryz.f110) rfl fun ds d h => by
 obtain ⟨ns, rfl, hk⟩ := intsF_inv h
 obtain ⟨p, rfl, rfl⟩ := sgnK_inv hk
 refine ⟨40, ?_⟩
 have : bodyK (cfgC w0 []) 40 (fnOf Tryz.f110) [I p] = bif decide (p > 0) then some (I 1) else bif decide (p < 0) then some (I (-1)) else some (I 0) := by kernel_rfl
 refine this.trans ?_
 unfold sgnZ
 simp only [gt_iff_lt]
 cases decide (0 < p)
 ·simp only [cond_false]
  cases decide (p < 0) <;> rfl
 ·rfl
def firstF (ds : List D) : Option (Bool × D) :=
 match ds with
 | [.sl n sz cs] => match gIs cs with
   | some ns => match Nat.ble ns.length 6 && Nat.beq n ns.length && Nat.beq sz 1 with
     | true => some (true, I (firstZ ns))
     | false => none
   | none => none
 | _ => none
theorem firstF_inv {ds : List D} {d : D} (h : firstF ds = some (true, d)) : ∃ ns : List Int, ds = [.sl ns.length 1 (ns.map I)] ∧ ns.length ≤ 6 ∧ d = I (firstZ ns) := by
 unfold firstF at h
 split at h
 ·rename_i n sz cs
  cases hr : gIs cs with
  | none => simp [hr] at h
  | some ns =>
    simp only [hr] at h
    split at h
    ·rename_i hb
     simp only [Bool.and_eq_true, Nat.beq_eq, Nat.ble_eq] at hb
     obtain ⟨⟨h1, h2⟩, h3⟩ := hb
     cases h
     exact ⟨ns, by rw [h2, h3, gIs_inv hr], h1, rfl⟩
    ·cases h
 ·cases h
def firstT : List Int → Option D
 | [] => some (I 0)
 | e :: es => bif e != 0 then some (I e) else firstT es
theorem firstT_eq : ∀ (l : List Int), firstT l = some (I (firstZ l))
 | [] => rfl
 | e :: es => by
   unfold firstT firstZ
   rw [firstT_eq es]
   cases (e != 0) <;> rfl
theorem first_good (h0 : Lib0 w0) : Good w0 ⟨98, firstF⟩ := good_body h0 (cs := []) trivial _ (fnOf Tryz.f98) rfl fun ds d h => by
 obtain ⟨ns, rfl, hl, rfl⟩ := firstF_inv h
 refine ⟨60, ?_⟩
 match ns, hl with
 | [], _ => exact (show bodyK (cfgC w0 []) 60 (fnOf Tryz.f98) [.sl 0 1 []] = firstT [] by kernel_rfl).trans (firstT_eq _)
 | [a], _ => exact (show bodyK (cfgC w0 []) 60 (fnOf Tryz.f98) [.sl 1 1 [I a]] = firstT [a] by kernel_rfl).trans (firstT_eq _)
 | [a, b], _ => exact (show bodyK (cfgC w0 []) 60 (fnOf Tryz.f98) [.sl 2 1 [I a, I b]] = firstT [a, b] by kernel_rfl).trans (firstT_eq _)
 | [a, b, c], _ => exact (show bodyK (cfgC w0 []) 60 (fnOf Tryz.f98) [.sl 3 1 [I a, I b, I c]] = firstT [a, b, c] by kernel_rfl).trans (firstT_eq _)
 | [a, b, c, e], _ => exact (show bodyK (cfgC w0 []) 60 (fnOf Tryz.f98) [.sl 4 1 [I a, I b, I c, I e]] = firstT [a, b, c, e] by kernel_rfl).trans (firstT_eq _)
 | [a, b, c, e, f], _ => exact (show bodyK (cfgC w0 []) 60 (fnOf Tryz.f98) [.sl 5 1 [I a, I b, I c, I e, I f]] = firstT [a, b, c, e, f] by kernel_rfl).trans (firstT_eq _)
 | [a, b, c, e, f, g], _ => exact (show bodyK (cfgC w0 []) 60 (fnOf Tryz.f98) [.sl 6 1 [I a, I b, I c, I e, I f, I g]] = firstT [a, b, c, e, f, g] by kernel_rfl).trans (firstT_eq _)
 | _ :: _ :: _ :: _ :: _ :: _ :: _ :: _, h => simp at h
theorem rfirst_good (h0 : Lib0 w0) : Good w0 ⟨108, firstF⟩ := good_body h0 (cs := []) trivial _ (fnOf Tryz.f108) rfl fun ds d h => by
 obtain ⟨ns, rfl, hl, rfl⟩ := firstF_inv h
 refine ⟨60, ?_⟩
 match ns, hl with
 | [], _ => exact (show bodyK (cfgC w0 []) 60 (fnOf Tryz.f108) [.sl 0 1 []] = firstT [] by kernel_rfl).trans (firstT_eq _)
 | [a], _ => exact (show bodyK (cfgC w0 []) 60 (fnOf Tryz.f108) [.sl 1 1 [I a]] = firstT [a] by kernel_rfl).trans (firstT_eq _)
 | [a, b], _ => exact (show bodyK (cfgC w0 []) 60 (fnOf Tryz.f108) [.sl 2 1 [I a, I b]] = firstT [a, b] by kernel_rfl).trans (firstT_eq _)
 | [a, b, c], _ => exact (show bodyK (cfgC w0 []) 60 (fnOf Tryz.f108) [.sl 3 1 [I a, I b, I c]] = firstT [a, b, c] by kernel_rfl).trans (firstT_eq _)
 | [a, b, c, e], _ => exact (show bodyK (cfgC w0 []) 60 (fnOf Tryz.f108) [.sl 4 1 [I a, I b, I c, I e]] = firstT [a, b, c, e] by kernel_rfl).trans (firstT_eq _)
 | [a, b, c, e, f], _ => exact (show bodyK (cfgC w0 []) 60 (fnOf Tryz.f108) [.sl 5 1 [I a, I b, I c, I e, I f]] = firstT [a, b, c, e, f] by kernel_rfl).trans (firstT_eq _)
 | [a, b, c, e, f, g], _ => exact (show bodyK (cfgC w0 []) 60 (fnOf Tryz.f108) [.sl 6 1 [I a, I b, I c, I e, I f, I g]] = firstT [a, b, c, e, f, g] by kernel_rfl).trans (firstT_eq _)
 | _ :: _ :: _ :: _ :: _ :: _ :: _ :: _, h => simp at h
end Go.Proofs.YtmlglimahbjgbaaGreatDoor
namespace Go.Proofs.YtmlglimahbjgbaaGreatDoor
open Go Go.Am Go.Town
set_option maxRecDepth 100000
variable {w0 : World}
def nameF (ds : List D) : Option (Bool × D) :=
 match ds with
 | [.val (.string s)] => some (true, Bo (isName s))
 | _ => none
theorem nameF_inv {ds : List D} {d : D} (h : nameF ds = some (true, d)) : ∃ s, ds = [Str s] ∧ d = Bo (isName s) := by
 unfold nameF at h
 split at h
 ·rename_i s; cases h; exact ⟨s, rfl, rfl⟩
 ·cases h
abbrev wall (s : ByteArray) (ax ay bx by' h e : Int) : D := .agg [Str s, I ax, I ay, I bx, I by', I h, I e]
abbrev nums (ns : List Int) : D := .agg (ns.map I)
def wallF (k : ByteArray → Int → Int → Int → Int → Int → Int → List D → Option (Bool × D)) (ds : List D) : Option (Bool × D) :=
 match ds with
 | .agg (.val (.string s) :: cs) :: r => match gIs cs with
   | some [ax, ay, bx, by', h, e] => k s ax ay bx by' h e r
   | _ => none
 | _ => none
theorem wallF_inv {k : ByteArray → Int → Int → Int → Int → Int → Int → List D → Option (Bool × D)} {ds : List D} {d : D} (h : wallF k ds = some (true, d)) :
  ∃ s ax ay bx by' h e r, ds = wall s ax ay bx by' h e :: r ∧ k s ax ay bx by' h e r = some (true, d) := by
 unfold wallF at h
 split at h
 ·rename_i s cs r
  split at h
  ·rename_i ax ay bx by' hh e hr
   refine ⟨s, ax, ay, bx, by', hh, e, r, ?_, h⟩
   rw [gIs_inv hr]; rfl
  ·cases h
 ·cases h
def aggF (k : List Int → List D → Option (Bool × D)) (ds : List D) : Option (Bool × D) :=
 match ds with
 | .agg cs :: r => match gIs cs with
   | some ns => k ns r
   | none => none
 | _ => none
theorem aggF_inv {k : List Int → List D → Option (Bool × D)} {ds : List D} {d : D} (h : aggF k ds = some (true, d)) : ∃ ns r, ds = nums ns :: r ∧ k ns r = some (true, d) := by
 unfold aggF at h
 split at h
 ·rename_i cs r
  cases hr : gIs cs with
  | none => simp [hr] at h
  | some ns => simp only [hr] at h; exact ⟨ns, r, by rw [gIs_inv hr], h⟩
 ·cases h
def endF (b : Bool) (d : D) (r : List D) : Option (Bool × D) :=
 match r with
 | [] => some (b, d)
 | _ => none
theorem endF_inv {b : Bool} {d d' : D} {r : List D} (h : endF b d r = some (true, d')) : r = [] ∧ b = true ∧ d' = d := by
 unfold endF at h
 split at h
 ·cases h; exact ⟨rfl, rfl, rfl⟩
 ·cases h
def two (k : Int → Int → List D → Option (Bool × D)) (ns : List Int) (r : List D) : Option (Bool × D) :=
 match ns with
 | [x, y] => k x y r
 | _ => none
theorem two_inv {k : Int → Int → List D → Option (Bool × D)} {ns : List Int} {r : List D} {d : D} (h : two k ns r = some (true, d)) : ∃ x y, ns = [x, y] ∧ k x y r = some (true, d) := by
 unfold two at h
 split at h
 ·rename_i x y; exact ⟨x, y, rfl, h⟩
 ·cases h
def three (k : Int → Int → Int → List D → Option (Bool × D)) (ns : List Int) (r : List D) : Option (Bool × D) :=
 match ns with
 | [x, y, z] => k x y z r
 | _ => none
theorem three_inv {k : Int → Int → Int → List D → Option (Bool × D)} {ns : List Int} {r : List D} {d : D} (h : three k ns r = some (true, d)) : ∃ x y z, ns = [x, y, z] ∧ k x y z r = some (true, d) := by
 unfold three at h
 split at h
 ·rename_i x y z; exact ⟨x, y, z, rfl, h⟩
 ·cases h
def four (k : Int → Int → Int → Int → List D → Option (Bool × D)) (ns : List Int) (r : List D) : Option (Bool × D) :=
 match ns with
 | [x, y, z, t] => k x y z t r
 | _ => none
theorem four_inv {k : Int → Int → Int → Int → List D → Option (Bool × D)} {ns : List Int} {r : List D} {d : D} (h : four k ns r = some (true, d)) : ∃ x y z t, ns = [x, y, z, t] ∧ k x y z t r = some (true, d) := by
 unfold four at h
 split at h
 ·rename_i x y z t; exact ⟨x, y, z, t, rfl, h⟩
 ·cases h
def one (k : Int → List D → Option (Bool × D)) (ns : List Int) (r : List D) : Option (Bool × D) :=
 match ns with
 | [x] => k x r
 | _ => none
def checkPointF : List D → Option (Bool × D) := aggF (two fun x y => endF true (I (chkPoint x y)))
def checkSpotF : List D → Option (Bool × D) := aggF (three fun x y z => endF true (I (chkSpot x y z)))
def checkWallF : List D → Option (Bool × D) := wallF fun s ax ay bx by' h e => endF true (I (chkWall s ax ay bx by' h e))
def checkPathF : List D → Option (Bool × D) := aggF (three fun x y z => aggF (three fun x' y' z' => endF true (I (firstZ [chkSpot x y z, chkSpot x' y' z']))))
def rangeK (lo hi : Int) (ns : List Int) : Option (Bool × D) :=
 match ns with
 | [n] => some (true, I (withinZ n lo hi))
 | _ => none
theorem rangeK_inv {lo hi : Int} {ns : List Int} {d : D} (h : rangeK lo hi ns = some (true, d)) : ∃ n, ns = [n] ∧ d = I (withinZ n lo hi) := by
 unfold rangeK at h
 split at h
 ·rename_i n; cases h; exact ⟨n, rfl, rfl⟩
 ·cases h
def checkNameF (ds : List D) : Option (Bool × D) :=
 match ds with
 | [.val (.string s)] => some (true, I (whenZ (!isName s) 8))
 | _ => none
theorem checkNameF_inv {ds : List D} {d : D} (h : checkNameF ds = some (true, d)) : ∃ s, ds = [Str s] ∧ d = I (whenZ (!isName s) 8) := by
 unfold checkNameF at h
 split at h
 ·rename_i s; cases h; exact ⟨s, rfl, rfl⟩
 ·cases h
noncomputable def lv1 : List Ctr := [⟨119, whenF⟩, ⟨115, intsF withinK⟩, ⟨98, firstF⟩]
theorem lv1_good (h0 : Lib0 w0) : Goods w0 lv1 := ⟨when_good h0, within_good h0, first_good h0, trivial⟩
noncomputable def rv1 : List Ctr := [⟨54, whenF⟩, ⟨32, intsF withinK⟩, ⟨108, firstF⟩]
theorem rv1_good (h0 : Lib0 w0) : Goods w0 rv1 := ⟨rwhen_good h0, range_good h0, rfirst_good h0, trivial⟩
theorem checkHeight_good (h0 : Lib0 w0) : Good w0 ⟨159, intsF (rangeK 1 1000)⟩ := good_body h0 (lv1_good h0) _ (fnOf Tryz.f159) rfl fun ds d h => by
 obtain ⟨ns, rfl, hk⟩ := intsF_inv h
 obtain ⟨n, rfl, rfl⟩ := rangeK_inv hk
 exact ⟨20, show bodyK (cfgC w0 lv1) 20 (fnOf Tryz.f159) [I n] = some (I (withinZ n 1 1000)) by kernel_rfl⟩
theorem checkEcho_good (h0 : Lib0 w0) : Good w0 ⟨160, intsF (rangeK 0 1000)⟩ := good_body h0 (lv1_good h0) _ (fnOf Tryz.f160) rfl fun ds d h => by
 obtain ⟨ns, rfl, hk⟩ := intsF_inv h
 obtain ⟨n, rfl, rfl⟩ := rangeK_inv hk
 exact ⟨20, show bodyK (cfgC w0 lv1) 20 (fnOf Tryz.f160) [I n] = some (I (withinZ n 0 1000)) by kernel_rfl⟩
theorem checkPoint_good (h0 : Lib0 w0) : Good w0 ⟨100, checkPointF⟩ := good_body h0 (lv1_good h0) _ (fnOf Tryz.f100) rfl fun ds d h => by
 obtain ⟨ns, r, rfl, hk⟩ := aggF_inv h
 obtain ⟨x, y, rfl, hk⟩ := two_inv hk
 obtain ⟨rfl, _, rfl⟩ := endF_inv hk
 exact ⟨40, show bodyK (cfgC w0 lv1) 40 (fnOf Tryz.f100) [nums [x, y]] = some (I (chkPoint x y)) by kernel_rfl⟩
theorem checkSpot_good (h0 : Lib0 w0) : Good w0 ⟨104, checkSpotF⟩ := good_body h0 (lv1_good h0) _ (fnOf Tryz.f104) rfl fun ds d h => by
 obtain ⟨ns, r, rfl, hk⟩ := aggF_inv h
 obtain ⟨x, y, z, rfl, hk⟩ := three_inv hk
 obtain ⟨rfl, _, rfl⟩ := endF_inv hk
 exact ⟨40, show bodyK (cfgC w0 lv1) 40 (fnOf Tryz.f104) [nums [x, y, z]] = some (I (chkSpot x y z)) by kernel_rfl⟩
theorem rcheckPoint_good (h0 : Lib0 w0) : Good w0 ⟨20, checkPointF⟩ := good_body h0 (rv1_good h0) _ (fnOf Tryz.f20) rfl fun ds d h => by
 obtain ⟨ns, r, rfl, hk⟩ := aggF_inv h
 obtain ⟨x, y, rfl, hk⟩ := two_inv hk
 obtain ⟨rfl, _, rfl⟩ := endF_inv hk
 exact ⟨40, show bodyK (cfgC w0 rv1) 40 (fnOf Tryz.f20) [nums [x, y]] = some (I (chkPoint x y)) by kernel_rfl⟩
theorem firstZ_flat (a b : Int) (l : List Int) : firstZ (firstZ [a, b] :: l) = firstZ (a :: b :: l) := by
 simp only [firstZ]
 cases ha : (a != 0)
 ·simp only [cond_false]
  cases hb : (b != 0)
  ·simp
  ·simp [hb]
 ·simp [ha]
noncomputable def rv2 : List Ctr := ⟨20, checkPointF⟩ :: rv1
theorem rv2_good (h0 : Lib0 w0) : Goods w0 rv2 := ⟨rcheckPoint_good h0, rv1_good h0⟩
theorem rcheckSpot_good (h0 : Lib0 w0) : Good w0 ⟨34, checkSpotF⟩ := good_body h0 (rv2_good h0) _ (fnOf Tryz.f34) rfl fun ds d h => by
 obtain ⟨ns, r, rfl, hk⟩ := aggF_inv h
 obtain ⟨x, y, z, rfl, hk⟩ := three_inv hk
 obtain ⟨rfl, _, rfl⟩ := endF_inv hk
 refine ⟨40, (show bodyK (cfgC w0 rv2) 40 (fnOf Tryz.f34) [nums [x, y, z]] = some (I (firstZ [chkPoint x y, withinZ z 0 1000])) by kernel_rfl).trans ?_⟩
 unfold chkPoint chkSpot
 rw [firstZ_flat]
noncomputable def rv3 : List Ctr := ⟨34, checkSpotF⟩ :: rv2
theorem rv3_good (h0 : Lib0 w0) : Goods w0 rv3 := ⟨rcheckSpot_good h0, rv2_good h0⟩
theorem rcheckPath_good (h0 : Lib0 w0) : Good w0 ⟨21, checkPathF⟩ := good_body h0 (rv3_good h0) _ (fnOf Tryz.f21) rfl fun ds d h => by
 obtain ⟨ns, r, rfl, hk⟩ := aggF_inv h
 obtain ⟨x, y, z, rfl, hk⟩ := three_inv hk
 obtain ⟨ns2, r2, rfl, hk2⟩ := aggF_inv hk
 obtain ⟨x', y', z', rfl, hk3⟩ := three_inv hk2
 obtain ⟨rfl, _, rfl⟩ := endF_inv hk3
 exact ⟨40, show bodyK (cfgC w0 rv3) 40 (fnOf Tryz.f21) [nums [x, y, z], nums [x', y', z']] = some (I (firstZ [chkSpot x y z, chkSpot x' y' z'])) by kernel_rfl⟩
section names
noncomputable def lv2 : List Ctr := ⟨158, nameF⟩ :: ⟨159, intsF (rangeK 1 1000)⟩ :: ⟨160, intsF (rangeK 0 1000)⟩ :: lv1
theorem lv2_good (hn : Good w0 ⟨158, nameF⟩) (h0 : Lib0 w0) : Goods w0 lv2 := ⟨hn, checkHeight_good h0, checkEcho_good h0, lv1_good h0⟩
noncomputable def rv4 : List Ctr := ⟨109, checkNameF⟩ :: rv3
theorem check_good (hn : Good w0 ⟨158, nameF⟩) (h0 : Lib0 w0) : Good w0 ⟨99, checkWallF⟩ := good_body h0 (lv2_good hn h0) _ (fnOf Tryz.f99) rfl fun ds d h => by
 obtain ⟨s, ax, ay, bx, by', hh, e, r, rfl, hk⟩ := wallF_inv h
 obtain ⟨rfl, _, rfl⟩ := endF_inv hk
 refine ⟨60, (show bodyK (cfgC w0 lv2) 60 (fnOf Tryz.f99) [wall s ax ay bx by' hh e] = bif !isName s then some (I 8) else
   bif withinZ ax (-1000) 1000 != 0 then some (I (withinZ ax (-1000) 1000)) else
   bif withinZ ay (-1000) 1000 != 0 then some (I (withinZ ay (-1000) 1000)) else
   bif withinZ bx (-1000) 1000 != 0 then some (I (withinZ bx (-1000) 1000)) else
   bif withinZ by' (-1000) 1000 != 0 then some (I (withinZ by' (-1000) 1000)) else
   some (I (firstZ [whenZ (ax == bx && (ay == by' && true)) 24, withinZ hh 1 1000, withinZ e 0 1000])) by kernel_rfl).trans ?_⟩
 unfold chkWall
 show _ = some (I (bif whenZ (!isName s) 8 != 0 then whenZ (!isName s) 8 else bif withinZ ax (-1000) 1000 != 0 then withinZ ax (-1000) 1000 else bif withinZ ay (-1000) 1000 != 0 then withinZ ay (-1000) 1000 else
  bif withinZ bx (-1000) 1000 != 0 then withinZ bx (-1000) 1000 else bif withinZ by' (-1000) 1000 != 0 then withinZ by' (-1000) 1000 else firstZ [whenZ (ax == bx && (ay == by' && true)) 24, withinZ hh 1 1000, withinZ e 0 1000]))
 cases isName s
 ·rfl
 ·cases withinZ ax (-1000) 1000 != 0 <;> cases withinZ ay (-1000) 1000 != 0 <;> cases withinZ bx (-1000) 1000 != 0 <;> cases withinZ by' (-1000) 1000 != 0 <;> rfl
theorem rcheckName_good (hr : Good w0 ⟨144, nameF⟩) (h0 : Lib0 w0) : Good w0 ⟨109, checkNameF⟩ := good_body h0 (cs := ⟨144, nameF⟩ :: rv1) ⟨hr, rv1_good h0⟩ _ (fnOf Tryz.f109) rfl fun ds d h => by
 obtain ⟨s, rfl, rfl⟩ := checkNameF_inv h
 exact ⟨20, show bodyK (cfgC w0 (⟨144, nameF⟩ :: rv1)) 20 (fnOf Tryz.f109) [Str s] = some (I (whenZ (!isName s) 8)) by kernel_rfl⟩
theorem rv4_good (hr : Good w0 ⟨144, nameF⟩) (h0 : Lib0 w0) : Goods w0 rv4 := ⟨rcheckName_good hr h0, rv3_good h0⟩
theorem rcheck_good (hr : Good w0 ⟨144, nameF⟩) (h0 : Lib0 w0) : Good w0 ⟨19, checkWallF⟩ := good_body h0 (rv4_good hr h0) _ (fnOf Tryz.f19) rfl fun ds d h => by
 obtain ⟨s, ax, ay, bx, by', hh, e, r, rfl, hk⟩ := wallF_inv h
 obtain ⟨rfl, _, rfl⟩ := endF_inv hk
 refine ⟨60, (show bodyK (cfgC w0 rv4) 60 (fnOf Tryz.f19) [wall s ax ay bx by' hh e] =
  some (I (firstZ [whenZ (!isName s) 8, chkPoint ax ay, chkPoint bx by', whenZ (ax == bx && (ay == by' && true)) 24, withinZ hh 1 1000, withinZ e 0 1000])) by kernel_rfl).trans ?_⟩
 unfold chkWall chkPoint
 have e1 : ∀ a l, firstZ (a :: l) = bif a != 0 then a else firstZ l := fun _ _ => rfl
 rw [e1, firstZ_flat, e1 (withinZ ax _ _), e1 (withinZ ay _ _), firstZ_flat]
 rfl
end names
end Go.Proofs.YtmlglimahbjgbaaGreatDoor
namespace Go.Proofs.YtmlglimahbjgbaaGreatDoor
open Go Go.Am Go.Town
set_option maxRecDepth 100000
variable {w0 : World}
def eucNext (s : Nat × Nat) : X × (Nat × Nat) := if s.2 = 0 then (.exit 0, s) else (.normal, (s.2, s.1 % s.2))
theorem euc_iter : ∀ (f a b : Nat), b < f → iterN eucNext f (a, b) = some (.exit 0, (Nat.gcd a b, 0))
 | 0, a, b, h => by omega
 | f + 1, a, b, h => by
   unfold iterN
   by_cases hb : b = 0
   ·subst hb; simp [eucNext]
   ·have e : eucNext (a, b) = (.normal, (b, a % b)) := by simp [eucNext, hb]
    rw [e]
    simp only
    rw [euc_iter f b (a % b) (by have := Nat.mod_lt a (Nat.pos_of_ne_zero hb); omega), Nat.gcd_comm a b, Nat.gcd_rec b a, Nat.gcd_comm]
theorem tmod_nat (a b : Nat) : (a : Int).tmod b = ((a % b : Nat) : Int) := by simp [Int.tmod]
def euc147V (s : Nat × Nat) : List Value := [iv (s.1 : Nat), iv (s.2 : Nat)]
noncomputable def L147 : Code := lpB 0 (fnOf Tryz.f147).body
theorem euc147_step (cs : List Ctr) (m : Nat) (s : Nat × Nat) (j : Nat → Value) :
  evK (cfgC w0 cs) none (m + 8) false L147 ⟨mkT (fnOf Tryz.f147).ntmps [0, 1] (euc147V s) j, []⟩ (prj [0, 1]) = some ((eucNext s).1, euc147V (eucNext s).2, (fnOf Tryz.f147).ntmps, []) := by
 obtain ⟨a, b⟩ := s
 have h : evK (cfgC w0 cs) none (m + 8) false L147 ⟨mkT (fnOf Tryz.f147).ntmps [0, 1] [iv (a : Nat), iv (b : Nat)] j, []⟩ (prj [0, 1]) =
  bif ((b : Int) != 0) then bif decide ((b : Int) = 0) then none else some (.normal, [iv (b : Nat), iv ((a : Int).tmod b)], (fnOf Tryz.f147).ntmps, []) else some (.exit 0, [iv (a : Nat), iv (b : Nat)], (fnOf Tryz.f147).ntmps, []) := by kernel_rfl
 refine h.trans ?_
 unfold eucNext euc147V
 by_cases hb : b = 0
 ·subst hb; rfl
 ·have h1 : ((b : Int) != 0) = true := by simp [hb]
  have h2 : decide ((b : Int) = 0) = false := by simp [hb]
  simp only [h1, h2, cond_true, cond_false, hb, if_false, tmod_nat]
def euc147O (F : Nat) : Ora := fun j s k =>
 match Nat.beq s.tmps.length 20, relV [0, 1] s.tmps, s.heap with
 | true, [.int .i64 a, .int .i64 b], [] => cond (decide (0 ≤ a) && decide (0 ≤ b) && decide (b < F)) (k .normal ⟨mkT 20 [0, 1] [iv (gcdZ a b), iv 0] j, []⟩) none
 | _, _, _ => none
theorem euc147_ok (cs : List Ctr) (F : Nat) : OraOK (cfgC w0 cs) F 9 (euc147O F) 0 (.loop L147) := by
 have hN : (fnOf Tryz.f147).ntmps = 20 := by kernel_rfl
 refine ora_loop (c := 8) (inv := fun _ => True) (hp := fun _ => []) (fun _ _ _ _ => trivial) (fun m a j _ => euc147_step cs m a j) ?_
 intro j s k d h
 unfold euc147O at h
 split at h
 ·rename_i a b hl hv hh
  rw [Nat.beq_eq] at hl
  cases hc : (decide (0 ≤ a) && decide (0 ≤ b) && decide (b < F)) with
  | false => rw [hc] at h; cases h
  | true =>
    rw [hc] at h
    simp only [Bool.and_eq_true, decide_eq_true_eq] at hc
    obtain ⟨⟨h1, h2⟩, h3⟩ := hc
    refine ⟨(a.toNat, b.toNat), b.toNat + 1, .exit 0, (Nat.gcd a.toNat b.toNat, 0), by rw [hN]; omega, ?_, hh, trivial, by omega, euc_iter _ _ _ (by omega), ?_⟩
    ·rw [hv]
     unfold euc147V
     simp only [iv, Int.toNat_of_nonneg h1, Int.toNat_of_nonneg h2]
    ·rw [hN]
     have e : gcdZ a b = (Nat.gcd a.toNat b.toNat : Nat) := by
      unfold gcdZ
      rw [show a.natAbs = a.toNat by omega, show b.natAbs = b.toNat by omega]
     rw [e] at h
     exact h
 ·cases h
theorem good_loops {w0 : World} (h0 : Lib0 w0) {cs : List Ctr} (hcs : Goods w0 cs) (c : Ctr) (fd : AFn) (hfd : fnTr.get c.g = some fd)
  (H : ∀ ds d, c.F ds = some (true, d) → ∃ F L m, (∀ p ∈ obs L fd.body, OraOK (cfgC w0 cs) F p.1.c p.1.o p.2.1 p.2.2) ∧ bodyL (cfgC w0 cs) F L m fd ds = some d) : Good w0 c :=
 good_body h0 hcs c fd hfd fun ds d hd => by
  obtain ⟨F, L, m, hL, hb⟩ := H ds d hd
  exact ⟨F + m, bodyL_ok (lpOK_of _ hL) hb⟩
def rng (n : Int) : Bool := decide (-4611686018427387904 ≤ n) && decide (n ≤ 4611686018427387904)
theorem absZ_nat {n : Int} (h : rng n = true) : absZ n = (n.natAbs : Nat) := by
 simp only [rng, Bool.and_eq_true, decide_eq_true_eq] at h
 unfold absZ
 rw [W_in (by omega) (by omega)]
 split <;> omega
def gcdK (ns : List Int) : Option (Bool × D) :=
 match ns with
 | [a, b] => some (rng a && rng b, I (gcdZ a b))
 | _ => none
theorem gcdK_inv {ns : List Int} {d : D} (h : gcdK ns = some (true, d)) : ∃ a b, ns = [a, b] ∧ rng a = true ∧ rng b = true ∧ d = I (gcdZ a b) := by
 unfold gcdK at h
 split at h
 ·rename_i a b
  simp only [Option.some.injEq, Prod.mk.injEq, Bool.and_eq_true] at h
  exact ⟨a, b, rfl, h.1.1, h.1.2, h.2.symm⟩
 ·cases h
theorem divisor_good (h0 : Lib0 w0) : Good w0 ⟨147, intsF gcdK⟩ := good_loops h0 (cs := []) trivial _ (fnOf Tryz.f147) rfl fun ds d h => by
 obtain ⟨ns, rfl, hk⟩ := intsF_inv h
 obtain ⟨a, b, rfl, ha, hb, rfl⟩ := gcdK_inv hk
 refine ⟨b.natAbs + 1, [⟨0, 9, euc147O (b.natAbs + 1)⟩], 40, ?_, ?_⟩
 ·have e : obs [⟨0, 9, euc147O (b.natAbs + 1)⟩] (fnOf Tryz.f147).body = [(⟨0, 9, euc147O (b.natAbs + 1)⟩, 0, .loop L147)] := by kernel_rfl
  rw [e]
  intro p hp
  simp only [List.mem_singleton] at hp
  subst hp
  exact euc147_ok [] _
 ·refine (show bodyL (cfgC w0 []) (b.natAbs + 1) [⟨0, 9, euc147O (b.natAbs + 1)⟩] 40 (fnOf Tryz.f147) [I a, I b] =
   bif (decide (0 ≤ absZ a) && decide (0 ≤ absZ b) && decide (absZ b < ((b.natAbs + 1 : Nat) : Int))) then some (I (gcdZ (absZ a) (absZ b))) else none by kernel_rfl).trans ?_
  rw [absZ_nat ha, absZ_nat hb]
  have e : (decide (0 ≤ ((a.natAbs : Nat) : Int)) && decide (0 ≤ ((b.natAbs : Nat) : Int)) && decide (((b.natAbs : Nat) : Int) < ((b.natAbs + 1 : Nat) : Int))) = true := by
   simp only [Bool.and_eq_true, decide_eq_true_eq]; omega
  rw [e]
  simp [gcdZ]
end Go.Proofs.YtmlglimahbjgbaaGreatDoor
namespace Go.Proofs.YtmlglimahbjgbaaGreatDoor
open Go Go.Am Go.Town
set_option maxRecDepth 100000
variable {w0 : World}
def ceilZ (a b : Int) : Int := -((-a) / b)
theorem tdiv_le {a b : Int} (_ : 0 < b) : (a.tdiv b).natAbs ≤ a.natAbs := by
 rw [Int.natAbs_tdiv]
 exact Nat.div_le_self _ _
theorem rng_iff {n : Int} : rng n = true ↔ -4611686018427387904 ≤ n ∧ n ≤ 4611686018427387904 := by
 simp [rng]
theorem W_tdiv {a b : Int} (ha : rng a = true) (hb : 0 < b) : W (a.tdiv b) = a.tdiv b := by
 have := tdiv_le (a := a) hb
 rw [rng_iff] at ha
 exact W_in (by omega) (by omega)
theorem tdiv_mul_le {a b : Int} (_ : 0 < b) : (a.tdiv b * b).natAbs ≤ a.natAbs := by
 rw [Int.natAbs_mul, Int.natAbs_tdiv]
 exact Nat.div_mul_le_self _ _
theorem floor_eq {a b : Int} (hb : 0 < b) : a / b = if a.tdiv b * b > a then a.tdiv b - 1 else a.tdiv b := by
 by_cases ha : 0 ≤ a
 ·rw [Int.tdiv_eq_ediv_of_nonneg ha]
  have := Int.ediv_mul_le a (Int.ne_of_gt hb)
  rw [if_neg (by omega)]
 ·have h1 : a.tdiv b = -((-a) / b) := by
   rw [← Int.tdiv_eq_ediv_of_nonneg (by omega : (0 : Int) ≤ -a), Int.neg_tdiv, Int.neg_neg]
  have h2 := Int.mul_ediv_add_emod (-a) b
  have h3 := Int.emod_nonneg (-a) (Int.ne_of_gt hb)
  have h4 := Int.emod_lt_of_pos (-a) hb
  rw [h1]
  generalize (-a) / b = q at *
  generalize (-a) % b = r at *
  have e1 : -q * b = -(b * q) := by grind
  split
  ·rename_i hg
   have hr : 0 < r := by omega
   refine ((Int.ediv_emod_unique hb (r := b - r) (q := -q - 1)).2 ⟨?_, by omega, by omega⟩).1
   have : b * (-q - 1) = -(b * q) - b := by grind
   omega
  ·rename_i hg
   have hr : r = 0 := by omega
   refine ((Int.ediv_emod_unique hb (r := 0) (q := -q)).2 ⟨?_, by omega, by omega⟩).1
   have : b * -q = -(b * q) := by grind
   omega
theorem ceil_eq {a b : Int} (hb : 0 < b) : ceilZ a b = if a.tdiv b * b < a then a.tdiv b + 1 else a.tdiv b := by
 unfold ceilZ
 rw [floor_eq hb, Int.neg_tdiv, Int.neg_mul]
 split <;> rename_i h <;> split <;> rename_i h' <;> omega
def quoG (a b : Int) : Bool := rng a && (decide (0 < b) && rng b)
theorem quoG_iff {a b : Int} : quoG a b = true ↔ rng a = true ∧ 0 < b ∧ rng b = true := by
 simp [quoG]
def floorK (ns : List Int) : Option (Bool × D) :=
 match ns with
 | [a, b] => some (quoG a b, I (a / b))
 | _ => none
def ceilK (ns : List Int) : Option (Bool × D) :=
 match ns with
 | [a, b] => some (quoG a b, I (ceilZ a b))
 | _ => none
theorem floorK_inv {ns : List Int} {d : D} (h : floorK ns = some (true, d)) : ∃ a b, ns = [a, b] ∧ quoG a b = true ∧ d = I (a / b) := by
 unfold floorK at h
 split at h
 ·rename_i a b; simp only [Option.some.injEq, Prod.mk.injEq] at h; exact ⟨a, b, rfl, h.1, h.2.symm⟩
 ·cases h
theorem ceilK_inv {ns : List Int} {d : D} (h : ceilK ns = some (true, d)) : ∃ a b, ns = [a, b] ∧ quoG a b = true ∧ d = I (ceilZ a b) := by
 unfold ceilK at h
 split at h
 ·rename_i a b; simp only [Option.some.injEq, Prod.mk.injEq] at h; exact ⟨a, b, rfl, h.1, h.2.symm⟩
 ·cases h
def upF : List D → Option (Bool × D) := aggF (two fun a b => endF (quoG a b) (I (ceilZ a b)))
theorem up_good (h0 : Lib0 w0) : Good w0 ⟨165, upF⟩ := good_body h0 (cs := []) trivial _ (fnOf Tryz.f165) rfl fun ds d h => by
 obtain ⟨ns, r, rfl, hk⟩ := aggF_inv h
 obtain ⟨a, b, rfl, hk2⟩ := two_inv hk
 obtain ⟨rfl, hg, rfl⟩ := endF_inv hk2
 refine ⟨60, (show bodyK (cfgC w0 []) 60 (fnOf Tryz.f165) [nums [a, b]] = bif decide (b = 0) then none else bif decide (W (W (a.tdiv b) * b) < a) then some (I (W (W (a.tdiv b) + 1))) else some (I (W (a.tdiv b))) by kernel_rfl).trans ?_⟩
 obtain ⟨ha, hb, hb2⟩ := quoG_iff.1 hg
 have h1 := tdiv_mul_le (a := a) hb
 have h2 := tdiv_le (a := a) hb
 have ha' := rng_iff.1 ha
 rw [W_tdiv ha hb, W_in (n := a.tdiv b * b) (by omega) (by omega), W_in (n := a.tdiv b + 1) (by omega) (by omega), ceil_eq hb, decide_eq_false (by omega : ¬ b = 0)]
 simp only [cond_false]
 by_cases hc : a.tdiv b * b < a <;> simp [hc]
theorem floor_good (h0 : Lib0 w0) : Good w0 ⟨166, intsF floorK⟩ := good_body h0 (cs := []) trivial _ (fnOf Tryz.f166) rfl fun ds d h => by
 obtain ⟨ns, rfl, hk⟩ := intsF_inv h
 obtain ⟨a, b, rfl, hg, rfl⟩ := floorK_inv hk
 refine ⟨60, (show bodyK (cfgC w0 []) 60 (fnOf Tryz.f166) [I a, I b] = bif decide (b = 0) then none else bif decide (W (W (a.tdiv b) * b) > a) then some (I (W (W (a.tdiv b) - 1))) else some (I (W (a.tdiv b))) by kernel_rfl).trans ?_⟩
 obtain ⟨ha, hb, hb2⟩ := quoG_iff.1 hg
 have h1 := tdiv_mul_le (a := a) hb
 have h2 := tdiv_le (a := a) hb
 have ha' := rng_iff.1 ha
 rw [W_tdiv ha hb, W_in (n := a.tdiv b * b) (by omega) (by omega), W_in (n := a.tdiv b - 1) (by omega) (by omega), floor_eq hb, decide_eq_false (by omega : ¬ b = 0)]
 simp only [cond_false]
 by_cases hc : a.tdiv b * b > a <;> simp [hc]
theorem ceil_good (h0 : Lib0 w0) : Good w0 ⟨114, intsF ceilK⟩ := good_body h0 (cs := [⟨166, intsF floorK⟩]) ⟨floor_good h0, trivial⟩ _ (fnOf Tryz.f114) rfl fun ds d h => by
 obtain ⟨ns, rfl, hk⟩ := intsF_inv h
 obtain ⟨a, b, rfl, hg, rfl⟩ := ceilK_inv hk
 refine ⟨60, (show bodyK (cfgC w0 [⟨166, intsF floorK⟩]) 60 (fnOf Tryz.f114) [I a, I b] = bif quoG (W (0 - a)) b then some (I (W (0 - W (0 - a) / b))) else none by kernel_rfl).trans ?_⟩
 obtain ⟨ha, hb, hb2⟩ := quoG_iff.1 hg
 have ha' := rng_iff.1 ha
 have e : W (0 - a) = -a := by rw [W_in (by omega) (by omega)]; omega
 have hf := floor_eq (a := -a) hb
 have h2 := tdiv_le (a := -a) hb
 rw [e]
 have hr : rng (-a) = true := rng_iff.2 ⟨by omega, by omega⟩
 rw [quoG_iff.2 ⟨hr, hb, hb2⟩]
 have e2 : W (0 - -a / b) = ceilZ a b := by
  unfold ceilZ
  rw [W_in]
  ·omega
  ·split at hf <;> omega
  ·split at hf <;> omega
 rw [e2]; rfl
def lowD (a b : Int) : D := nums [a.tdiv (gcdZ a b), b.tdiv (gcdZ a b)]
theorem gcdZ_pos {a b : Int} (hb : 0 < b) : 0 < gcdZ a b := by
 unfold gcdZ
 have : 0 < Nat.gcd a.natAbs b.natAbs := Nat.gcd_pos_of_pos_right _ (by omega)
 omega
def lowK (ns : List Int) : Option (Bool × D) :=
 match ns with
 | [a, b] => some (quoG a b, lowD a b)
 | _ => none
theorem lowK_inv {ns : List Int} {d : D} (h : lowK ns = some (true, d)) : ∃ a b, ns = [a, b] ∧ quoG a b = true ∧ d = lowD a b := by
 unfold lowK at h
 split at h
 ·rename_i a b; simp only [Option.some.injEq, Prod.mk.injEq] at h; exact ⟨a, b, rfl, h.1, h.2.symm⟩
 ·cases h
theorem rlow_good (h0 : Lib0 w0) : Good w0 ⟨84, intsF lowK⟩ := good_body h0 (cs := [⟨147, intsF gcdK⟩]) ⟨divisor_good h0, trivial⟩ _ (fnOf Tryz.f84) rfl fun ds d h => by
 obtain ⟨ns, rfl, hk⟩ := intsF_inv h
 obtain ⟨a, b, rfl, hg, rfl⟩ := lowK_inv hk
 obtain ⟨ha, hb, hb2⟩ := quoG_iff.1 hg
 refine ⟨60, (show bodyK (cfgC w0 [⟨147, intsF gcdK⟩]) 60 (fnOf Tryz.f84) [I a, I b] = bif decide (b < 0) then
   (bif rng (W (0 - a)) && rng (W (0 - b)) then bif decide (gcdZ (W (0 - a)) (W (0 - b)) = 0) then none else bif decide (gcdZ (W (0 - a)) (W (0 - b)) = 0) then none else some (nums [W ((W (0 - a)).tdiv (gcdZ (W (0 - a)) (W (0 - b)))), W ((W (0 - b)).tdiv (gcdZ (W (0 - a)) (W (0 - b))))]) else none)
   else bif rng a && rng b then bif decide (gcdZ a b = 0) then none else bif decide (gcdZ a b = 0) then none else some (nums [W (a.tdiv (gcdZ a b)), W (b.tdiv (gcdZ a b))]) else none by kernel_rfl).trans ?_⟩
 have hp := gcdZ_pos (a := a) hb
 rw [decide_eq_false (by omega : ¬ b < 0), ha, hb2, decide_eq_false (by omega : ¬ gcdZ a b = 0), W_tdiv ha hp, W_tdiv hb2 hp]
 rfl
noncomputable def L106 : Code := lpB 0 (fnOf Tryz.f106).body
def p0 : Value := .pointer (some ⟨K0, 0, none⟩)
def p1 : Value := .pointer (some ⟨K0 + 1, 0, none⟩)
def euc106V (s : Nat × Nat) : List Value := [p0, p1, iv (s.1 : Nat), iv (s.2 : Nat)]
def hp106 (num den : Int) : Heap := [.row [iv num, iv den] true none, .row [iv 0, iv 0] true none]
theorem euc106_step (cs : List Ctr) (num den : Int) (m : Nat) (s : Nat × Nat) (j : Nat → Value) :
  evK (cfgC w0 cs) none (m + 8) false L106 ⟨mkT (fnOf Tryz.f106).ntmps [1, 2, 3, 4] (euc106V s) j, hp106 num den⟩ (prj [1, 2, 3, 4]) = some ((eucNext s).1, euc106V (eucNext s).2, (fnOf Tryz.f106).ntmps, hp106 num den) := by
 obtain ⟨a, b⟩ := s
 have h : evK (cfgC w0 cs) none (m + 8) false L106 ⟨mkT (fnOf Tryz.f106).ntmps [1, 2, 3, 4] [p0, p1, iv (a : Nat), iv (b : Nat)] j, hp106 num den⟩ (prj [1, 2, 3, 4]) =
  bif ((b : Int) != 0) then bif decide ((b : Int) = 0) then none else some (.normal, [p0, p1, iv (b : Nat), iv ((a : Int).tmod b)], (fnOf Tryz.f106).ntmps, hp106 num den) else some (.exit 0, [p0, p1, iv (a : Nat), iv (b : Nat)], (fnOf Tryz.f106).ntmps, hp106 num den) := by kernel_rfl
 refine h.trans ?_
 unfold eucNext euc106V
 by_cases hb : b = 0
 ·subst hb; rfl
 ·have h1 : ((b : Int) != 0) = true := by simp [hb]
  have h2 : decide ((b : Int) = 0) = false := by simp [hb]
  simp only [h1, h2, cond_true, cond_false, hb, if_false, tmod_nat]
def isPtr (v : Value) (b : Nat) : Bool :=
 match v with
 | .pointer (some ⟨c, 0, none⟩) => Nat.beq c b
 | _ => false
theorem isPtr_eq {v : Value} {b : Nat} (h : isPtr v b = true) : v = .pointer (some ⟨b, 0, none⟩) := by
 unfold isPtr at h
 split at h
 ·rw [Nat.beq_eq] at h; subst h; rfl
 ·cases h
def euc106O (F : Nat) (num den : Int) : Ora := fun j s k =>
 match Nat.beq s.tmps.length 25, relV [1, 2, 3, 4] s.tmps, s.heap with
 | true, [q0, q1, .int .i64 a, .int .i64 b], [.row [.int .i64 n', .int .i64 d'] true none, .row [.int .i64 z0, .int .i64 z1] true none] =>
   match isPtr q0 K0 && isPtr q1 (K0 + 1) with
   | true => cond (decide (n' = num) && decide (d' = den) && decide (z0 = 0) && decide (z1 = 0) && decide (0 ≤ a) && decide (0 ≤ b) && decide (b < F)) (k .normal ⟨mkT 25 [1, 2, 3, 4] [p0, p1, iv (gcdZ a b), iv 0] j, hp106 num den⟩) none
   | false => none
 | _, _, _ => none
theorem euc106_ok (cs : List Ctr) (F : Nat) (num den : Int) : OraOK (cfgC w0 cs) F 9 (euc106O F num den) 0 (.loop L106) := by
 have hN : (fnOf Tryz.f106).ntmps = 25 := by kernel_rfl
 refine ora_loop (c := 8) (inv := fun _ => True) (hp := fun _ => hp106 num den) (fun _ _ _ _ => trivial) (fun m a j _ => euc106_step cs num den m a j) ?_
 intro j s k d h
 unfold euc106O at h
 split at h
 ·rename_i q0 q1 a b n' d' z0 z1 hl hv hh
  rw [Nat.beq_eq] at hl
  split at h
  ·rename_i hq
   simp only [Bool.and_eq_true] at hq
   have e0 := isPtr_eq hq.1
   have e1 := isPtr_eq hq.2
   cases hc : (decide (n' = num) && decide (d' = den) && decide (z0 = 0) && decide (z1 = 0) && decide (0 ≤ a) && decide (0 ≤ b) && decide (b < F)) with
   | false => rw [hc] at h; cases h
   | true =>
     rw [hc] at h
     simp only [Bool.and_eq_true, decide_eq_true_eq] at hc
     obtain ⟨⟨⟨⟨⟨⟨g1, g2⟩, g3⟩, g4⟩, h1⟩, h2⟩, h3⟩ := hc
     subst g1 g2 g3 g4
     refine ⟨(a.toNat, b.toNat), b.toNat + 1, .exit 0, (Nat.gcd a.toNat b.toNat, 0), by rw [hN]; omega, ?_, hh, trivial, by omega, euc_iter _ _ _ (by omega), ?_⟩
     ·rw [hv, e0, e1]
      unfold euc106V
      simp only [iv, p0, p1, Int.toNat_of_nonneg h1, Int.toNat_of_nonneg h2]
     ·rw [hN]
      have e : gcdZ a b = (Nat.gcd a.toNat b.toNat : Nat) := by
       unfold gcdZ
       rw [show a.natAbs = a.toNat by omega, show b.natAbs = b.toNat by omega]
      rw [e] at h
      exact h
  ·cases h
 ·cases h
def lowF : List D → Option (Bool × D) := aggF (two fun a b => endF (quoG a b) (lowD a b))
theorem low_good (h0 : Lib0 w0) : Good w0 ⟨106, lowF⟩ := good_loops h0 (cs := []) trivial _ (fnOf Tryz.f106) rfl fun ds d h => by
 obtain ⟨ns, r, rfl, hk⟩ := aggF_inv h
 obtain ⟨a, b, rfl, hk2⟩ := two_inv hk
 obtain ⟨rfl, hg, rfl⟩ := endF_inv hk2
 obtain ⟨ha, hb, hb2⟩ := quoG_iff.1 hg
 refine ⟨b.natAbs + 1, [⟨0, 9, euc106O (b.natAbs + 1) a b⟩], 40, ?_, ?_⟩
 ·have e : obs [⟨0, 9, euc106O (b.natAbs + 1) a b⟩] (fnOf Tryz.f106).body = [(⟨0, 9, euc106O (b.natAbs + 1) a b⟩, 0, .loop L106)] := by kernel_rfl
  rw [e]
  intro p hp
  simp only [List.mem_singleton] at hp
  subst hp
  exact euc106_ok [] _ _ _
 ·refine (show bodyL (cfgC w0 []) (b.natAbs + 1) [⟨0, 9, euc106O (b.natAbs + 1) a b⟩] 40 (fnOf Tryz.f106) [nums [a, b]] =
   bif (decide (a = a) && decide (b = b) && decide ((0 : Int) = 0) && decide ((0 : Int) = 0) && decide (0 ≤ absZ a) && decide (0 ≤ b) && decide (b < ((b.natAbs + 1 : Nat) : Int))) then
    bif decide (gcdZ (absZ a) b = 0) then none else bif decide (gcdZ (absZ a) b = 0) then none else some (nums [W (a.tdiv (gcdZ (absZ a) b)), W (b.tdiv (gcdZ (absZ a) b))]) else none by kernel_rfl).trans ?_
  rw [absZ_nat ha]
  have e : (decide (a = a) && decide (b = b) && decide ((0 : Int) = 0) && decide ((0 : Int) = 0) && decide (0 ≤ ((a.natAbs : Nat) : Int)) && decide (0 ≤ b) && decide (b < ((b.natAbs + 1 : Nat) : Int))) = true := by
   have hn : ((b.natAbs : Nat) : Int) = b := Int.natAbs_of_nonneg (by omega)
   have g1 : decide (0 ≤ ((a.natAbs : Nat) : Int)) = true := decide_eq_true (by omega)
   have g2 : decide (0 ≤ b) = true := decide_eq_true (by omega)
   have g3 : decide (b < ((b.natAbs + 1 : Nat) : Int)) = true := decide_eq_true (by rw [Int.natCast_add, hn]; omega)
   rw [g1, g2, g3]; simp
  rw [e]
  have e2 : gcdZ ((a.natAbs : Nat) : Int) b = gcdZ a b := by simp [gcdZ]
  have hp := gcdZ_pos (a := a) hb
  rw [e2, decide_eq_false (by omega : ¬ gcdZ a b = 0), W_tdiv ha hp, W_tdiv hb2 hp]
  rfl
end Go.Proofs.YtmlglimahbjgbaaGreatDoor
