/-
  A part of the proof of the statement that the claim names: see the last file.
-/
import Derived.Test.YtifnpljmjhnbaaaGreatDoorT5
namespace Go.Proofs.YtifnpljmjhnbaaaGreatDoor
open Go Go.Am
set_option maxRecDepth 100000
variable {w0 : World}
noncomputable section


def cs71 : List Ct := [whenC 102, firstC 17, withinC 30]
def l71 (l : List (Tup evK)) (p : List (Tup paK)) (a b : TLi) : Int := firstZ [whenZ ((a.length : Int) != l.length) 2, whenZ ((b.length : Int) != p.length) 2]
def wi1 (x : Tup intK) : Int := withinZ (i1 x) 0 1000
def tW : TLi → Option D → Option D
  | [], k => k
  | x :: xs, k => bif wi1 x != 0 then some (I (wi1 x)) else tW xs k
def t71 (l : List (Tup evK)) (p : List (Tup paK)) (a b : TLi) : Option D :=
  bif l71 l p a b != 0 then some (I (l71 l p a b)) else tW a (tW b (some (I 0)))
end
end Go.Proofs.YtifnpljmjhnbaaaGreatDoor

namespace Go.Proofs.YtifnpljmjhnbaaaGreatDoor
open Go Go.Am
set_option maxRecDepth 100000
variable {w0 : World}
noncomputable section


theorem run71_00 (l : List (Tup evK)) (p : List (Tup paK)) : bodyK ((cfg w0).at cs71) 60 (fnOf Tryz.f71) [.vec evK l, .vec paK p, .agg [.vec intK [], .vec intK []]] = t71 l p [] [] := by kernel_rfl
theorem run71_01 (l : List (Tup evK)) (p : List (Tup paK)) (y1 : Tup intK) : bodyK ((cfg w0).at cs71) 60 (fnOf Tryz.f71) [.vec evK l, .vec paK p, .agg [.vec intK [], .vec intK [y1]]] = t71 l p [] [y1] := by kernel_rfl
theorem run71_02 (l : List (Tup evK)) (p : List (Tup paK)) (y1 y2 : Tup intK) : bodyK ((cfg w0).at cs71) 60 (fnOf Tryz.f71) [.vec evK l, .vec paK p, .agg [.vec intK [], .vec intK [y1, y2]]] = t71 l p [] [y1, y2] := by kernel_rfl
theorem run71_03 (l : List (Tup evK)) (p : List (Tup paK)) (y1 y2 y3 : Tup intK) : bodyK ((cfg w0).at cs71) 60 (fnOf Tryz.f71) [.vec evK l, .vec paK p, .agg [.vec intK [], .vec intK [y1, y2, y3]]] = t71 l p [] [y1, y2, y3] := by kernel_rfl
theorem run71_04 (l : List (Tup evK)) (p : List (Tup paK)) (y1 y2 y3 y4 : Tup intK) : bodyK ((cfg w0).at cs71) 60 (fnOf Tryz.f71) [.vec evK l, .vec paK p, .agg [.vec intK [], .vec intK [y1, y2, y3, y4]]] = t71 l p [] [y1, y2, y3, y4] := by kernel_rfl
theorem run71_10 (l : List (Tup evK)) (p : List (Tup paK)) (x1 : Tup intK) : bodyK ((cfg w0).at cs71) 60 (fnOf Tryz.f71) [.vec evK l, .vec paK p, .agg [.vec intK [x1], .vec intK []]] = t71 l p [x1] [] := by kernel_rfl
theorem run71_11 (l : List (Tup evK)) (p : List (Tup paK)) (x1 y1 : Tup intK) : bodyK ((cfg w0).at cs71) 60 (fnOf Tryz.f71) [.vec evK l, .vec paK p, .agg [.vec intK [x1], .vec intK [y1]]] = t71 l p [x1] [y1] := by kernel_rfl
theorem run71_12 (l : List (Tup evK)) (p : List (Tup paK)) (x1 y1 y2 : Tup intK) : bodyK ((cfg w0).at cs71) 60 (fnOf Tryz.f71) [.vec evK l, .vec paK p, .agg [.vec intK [x1], .vec intK [y1, y2]]] = t71 l p [x1] [y1, y2] := by kernel_rfl
theorem run71_13 (l : List (Tup evK)) (p : List (Tup paK)) (x1 y1 y2 y3 : Tup intK) : bodyK ((cfg w0).at cs71) 60 (fnOf Tryz.f71) [.vec evK l, .vec paK p, .agg [.vec intK [x1], .vec intK [y1, y2, y3]]] = t71 l p [x1] [y1, y2, y3] := by kernel_rfl
theorem run71_14 (l : List (Tup evK)) (p : List (Tup paK)) (x1 y1 y2 y3 y4 : Tup intK) : bodyK ((cfg w0).at cs71) 60 (fnOf Tryz.f71) [.vec evK l, .vec paK p, .agg [.vec intK [x1], .vec intK [y1, y2, y3, y4]]] = t71 l p [x1] [y1, y2, y3, y4] := by kernel_rfl
theorem run71_20 (l : List (Tup evK)) (p : List (Tup paK)) (x1 x2 : Tup intK) : bodyK ((cfg w0).at cs71) 60 (fnOf Tryz.f71) [.vec evK l, .vec paK p, .agg [.vec intK [x1, x2], .vec intK []]] = t71 l p [x1, x2] [] := by kernel_rfl
theorem run71_21 (l : List (Tup evK)) (p : List (Tup paK)) (x1 x2 y1 : Tup intK) : bodyK ((cfg w0).at cs71) 60 (fnOf Tryz.f71) [.vec evK l, .vec paK p, .agg [.vec intK [x1, x2], .vec intK [y1]]] = t71 l p [x1, x2] [y1] := by kernel_rfl
theorem run71_22 (l : List (Tup evK)) (p : List (Tup paK)) (x1 x2 y1 y2 : Tup intK) : bodyK ((cfg w0).at cs71) 60 (fnOf Tryz.f71) [.vec evK l, .vec paK p, .agg [.vec intK [x1, x2], .vec intK [y1, y2]]] = t71 l p [x1, x2] [y1, y2] := by kernel_rfl
theorem run71_23 (l : List (Tup evK)) (p : List (Tup paK)) (x1 x2 y1 y2 y3 : Tup intK) : bodyK ((cfg w0).at cs71) 60 (fnOf Tryz.f71) [.vec evK l, .vec paK p, .agg [.vec intK [x1, x2], .vec intK [y1, y2, y3]]] = t71 l p [x1, x2] [y1, y2, y3] := by kernel_rfl
theorem run71_24 (l : List (Tup evK)) (p : List (Tup paK)) (x1 x2 y1 y2 y3 y4 : Tup intK) : bodyK ((cfg w0).at cs71) 60 (fnOf Tryz.f71) [.vec evK l, .vec paK p, .agg [.vec intK [x1, x2], .vec intK [y1, y2, y3, y4]]] = t71 l p [x1, x2] [y1, y2, y3, y4] := by kernel_rfl
theorem run71_30 (l : List (Tup evK)) (p : List (Tup paK)) (x1 x2 x3 : Tup intK) : bodyK ((cfg w0).at cs71) 60 (fnOf Tryz.f71) [.vec evK l, .vec paK p, .agg [.vec intK [x1, x2, x3], .vec intK []]] = t71 l p [x1, x2, x3] [] := by kernel_rfl
theorem run71_31 (l : List (Tup evK)) (p : List (Tup paK)) (x1 x2 x3 y1 : Tup intK) : bodyK ((cfg w0).at cs71) 60 (fnOf Tryz.f71) [.vec evK l, .vec paK p, .agg [.vec intK [x1, x2, x3], .vec intK [y1]]] = t71 l p [x1, x2, x3] [y1] := by kernel_rfl
theorem run71_32 (l : List (Tup evK)) (p : List (Tup paK)) (x1 x2 x3 y1 y2 : Tup intK) : bodyK ((cfg w0).at cs71) 60 (fnOf Tryz.f71) [.vec evK l, .vec paK p, .agg [.vec intK [x1, x2, x3], .vec intK [y1, y2]]] = t71 l p [x1, x2, x3] [y1, y2] := by kernel_rfl
theorem run71_33 (l : List (Tup evK)) (p : List (Tup paK)) (x1 x2 x3 y1 y2 y3 : Tup intK) : bodyK ((cfg w0).at cs71) 60 (fnOf Tryz.f71) [.vec evK l, .vec paK p, .agg [.vec intK [x1, x2, x3], .vec intK [y1, y2, y3]]] = t71 l p [x1, x2, x3] [y1, y2, y3] := by kernel_rfl
theorem run71_34 (l : List (Tup evK)) (p : List (Tup paK)) (x1 x2 x3 y1 y2 y3 y4 : Tup intK) : bodyK ((cfg w0).at cs71) 60 (fnOf Tryz.f71) [.vec evK l, .vec paK p, .agg [.vec intK [x1, x2, x3], .vec intK [y1, y2, y3, y4]]] = t71 l p [x1, x2, x3] [y1, y2, y3, y4] := by kernel_rfl
theorem run71_40 (l : List (Tup evK)) (p : List (Tup paK)) (x1 x2 x3 x4 : Tup intK) : bodyK ((cfg w0).at cs71) 60 (fnOf Tryz.f71) [.vec evK l, .vec paK p, .agg [.vec intK [x1, x2, x3, x4], .vec intK []]] = t71 l p [x1, x2, x3, x4] [] := by kernel_rfl
theorem run71_41 (l : List (Tup evK)) (p : List (Tup paK)) (x1 x2 x3 x4 y1 : Tup intK) : bodyK ((cfg w0).at cs71) 60 (fnOf Tryz.f71) [.vec evK l, .vec paK p, .agg [.vec intK [x1, x2, x3, x4], .vec intK [y1]]] = t71 l p [x1, x2, x3, x4] [y1] := by kernel_rfl
theorem run71_42 (l : List (Tup evK)) (p : List (Tup paK)) (x1 x2 x3 x4 y1 y2 : Tup intK) : bodyK ((cfg w0).at cs71) 60 (fnOf Tryz.f71) [.vec evK l, .vec paK p, .agg [.vec intK [x1, x2, x3, x4], .vec intK [y1, y2]]] = t71 l p [x1, x2, x3, x4] [y1, y2] := by kernel_rfl
theorem run71_43 (l : List (Tup evK)) (p : List (Tup paK)) (x1 x2 x3 x4 y1 y2 y3 : Tup intK) : bodyK ((cfg w0).at cs71) 60 (fnOf Tryz.f71) [.vec evK l, .vec paK p, .agg [.vec intK [x1, x2, x3, x4], .vec intK [y1, y2, y3]]] = t71 l p [x1, x2, x3, x4] [y1, y2, y3] := by kernel_rfl
theorem run71_44 (l : List (Tup evK)) (p : List (Tup paK)) (x1 x2 x3 x4 y1 y2 y3 y4 : Tup intK) : bodyK ((cfg w0).at cs71) 60 (fnOf Tryz.f71) [.vec evK l, .vec paK p, .agg [.vec intK [x1, x2, x3, x4], .vec intK [y1, y2, y3, y4]]] = t71 l p [x1, x2, x3, x4] [y1, y2, y3, y4] := by kernel_rfl
def cBad30 : Ct := ct 30 [.x, .x, .x] fun _ => .bad
theorem gdBad30 : Gd (cfg w0) cBad30 := gd_sig fun a d hd => by cases hd
def rest71 (a b : TLi) : Option D :=
  bif decide (0 < (a.length : Int)) then bif inO a 0 then none else none else bif decide (0 < (b.length : Int)) then bif inO b 0 then none else none else some (I 0)
theorem run71_x (l : List (Tup evK)) (p : List (Tup paK)) (a b : TLi) : bodyK ((cfg w0).at [whenC 102, firstC 17, cBad30]) 60 (fnOf Tryz.f71) [.vec evK l, .vec paK p, .agg [.vec intK a, .vec intK b]] = bif l71 l p a b != 0 then some (I (l71 l p a b)) else rest71 a b := by kernel_rfl
def fewI (l : TLi) : Bool := match l with
  | _ :: _ :: _ :: _ :: _ :: _ => false
  | _ => true
theorem run71 (l : List (Tup evK)) (p : List (Tup paK)) (a b : TLi) (ha : fewI a = true) (hb : fewI b = true) : bodyK ((cfg w0).at cs71) 60 (fnOf Tryz.f71) [.vec evK l, .vec paK p, .agg [.vec intK a, .vec intK b]] = t71 l p a b := by
  match a, ha, b, hb with
  | [], _, [], _ => exact run71_00 l p 
  | [], _, [y1], _ => exact run71_01 l p y1
  | [], _, [y1, y2], _ => exact run71_02 l p y1 y2
  | [], _, [y1, y2, y3], _ => exact run71_03 l p y1 y2 y3
  | [], _, [y1, y2, y3, y4], _ => exact run71_04 l p y1 y2 y3 y4
  | [x1], _, [], _ => exact run71_10 l p x1
  | [x1], _, [y1], _ => exact run71_11 l p x1 y1
  | [x1], _, [y1, y2], _ => exact run71_12 l p x1 y1 y2
  | [x1], _, [y1, y2, y3], _ => exact run71_13 l p x1 y1 y2 y3
  | [x1], _, [y1, y2, y3, y4], _ => exact run71_14 l p x1 y1 y2 y3 y4
  | [x1, x2], _, [], _ => exact run71_20 l p x1 x2
  | [x1, x2], _, [y1], _ => exact run71_21 l p x1 x2 y1
  | [x1, x2], _, [y1, y2], _ => exact run71_22 l p x1 x2 y1 y2
  | [x1, x2], _, [y1, y2, y3], _ => exact run71_23 l p x1 x2 y1 y2 y3
  | [x1, x2], _, [y1, y2, y3, y4], _ => exact run71_24 l p x1 x2 y1 y2 y3 y4
  | [x1, x2, x3], _, [], _ => exact run71_30 l p x1 x2 x3
  | [x1, x2, x3], _, [y1], _ => exact run71_31 l p x1 x2 x3 y1
  | [x1, x2, x3], _, [y1, y2], _ => exact run71_32 l p x1 x2 x3 y1 y2
  | [x1, x2, x3], _, [y1, y2, y3], _ => exact run71_33 l p x1 x2 x3 y1 y2 y3
  | [x1, x2, x3], _, [y1, y2, y3, y4], _ => exact run71_34 l p x1 x2 x3 y1 y2 y3 y4
  | [x1, x2, x3, x4], _, [], _ => exact run71_40 l p x1 x2 x3 x4
  | [x1, x2, x3, x4], _, [y1], _ => exact run71_41 l p x1 x2 x3 x4 y1
  | [x1, x2, x3, x4], _, [y1, y2], _ => exact run71_42 l p x1 x2 x3 x4 y1 y2
  | [x1, x2, x3, x4], _, [y1, y2, y3], _ => exact run71_43 l p x1 x2 x3 x4 y1 y2 y3
  | [x1, x2, x3, x4], _, [y1, y2, y3, y4], _ => exact run71_44 l p x1 x2 x3 x4 y1 y2 y3 y4
def prD (a b : TLi) : D := .agg [.vec intK a, .vec intK b]
def asPr (d : D) : Option (TLi × TLi) :=
  match d with
  | .agg [.vec k1 a, .vec k2 b] => match recast k1 intK a, recast k2 intK b with
    | some a, some b => some (a, b)
    | _, _ => none
  | _ => none
theorem asPr_eq {d : D} {p : TLi × TLi} (h : asPr d = some p) : d = prD p.1 p.2 := by
  unfold asPr at h
  split at h
  · split at h
    · rename_i h1 h2
      cases h
      obtain ⟨e1, rfl⟩ := recast_eq h1
      obtain ⟨e2, rfl⟩ := recast_eq h2
      subst e1 e2
      rfl
    · cases h
  · cases h
theorem fewI_len {l : TLi} (h : l.length ≤ 4) : fewI l = true := by
  match l, h with
  | [], _ => rfl
  | [_], _ => rfl
  | [_, _], _ => rfl
  | [_, _, _], _ => rfl
  | [_, _, _, _], _ => rfl
  | _ :: _ :: _ :: _ :: _ :: _, h => simp only [List.length_cons] at h; omega
def wiL (a : TLi) : Int := firstZ (a.map wi1)
def pZ (l : List (Tup evK)) (p : List (Tup paK)) (a b : TLi) : Int := bif l71 l p a b != 0 then l71 l p a b else bif wiL a != 0 then wiL a else wiL b
theorem tW_eq : ∀ (a : TLi) (k : Option D), tW a k = bif wiL a != 0 then some (I (wiL a)) else k
  | [], k => rfl
  | x :: xs, k => by
    unfold tW
    rw [tW_eq xs k, show wiL (x :: xs) = bif wi1 x != 0 then wi1 x else wiL xs from rfl]
    cases h : (wi1 x != 0) with
    | true => simp only [cond_true, h]
    | false => simp only [cond_false]
theorem t71_eq (l : List (Tup evK)) (p : List (Tup paK)) (a b : TLi) : t71 l p a b = some (I (pZ l p a b)) := by
  unfold t71 pZ
  rw [tW_eq, tW_eq]
  cases (l71 l p a b != 0)
  · cases (wiL a != 0)
    · cases h : (wiL b != 0)
      · have : wiL b = 0 := by simpa using h
        rw [this]; rfl
      · rfl
    · rfl
  · rfl
theorem l71_zero {l : List (Tup evK)} {p : List (Tup paK)} {a b : TLi} (h : (l71 l p a b != 0) = false) : a.length = l.length ∧ b.length = p.length := by
  have h : l71 l p a b = 0 := by simpa using h
  unfold l71 firstZ firstZ firstZ whenZ at h
  cases h1 : ((a.length : Int) != l.length) <;> cases h2 : ((b.length : Int) != p.length) <;> rw [h1, h2] at h
  · exact ⟨Int.ofNat.inj (by simpa using h1), Int.ofNat.inj (by simpa using h2)⟩
  · simp at h
  · simp at h
  · simp at h
def le4E (l : List (Tup evK)) : Bool := decide ((l.length : Int) ≤ 4)
def le4P (l : List (Tup paK)) : Bool := decide ((l.length : Int) ≤ 4)
theorem fn71 (h0 : Lib0 w0) (l : List (Tup evK)) (p : List (Tup paK)) (a b : TLi) (hl : l.length ≤ 4) (hp : p.length ≤ 4) : FnD (cfg w0) 71 [.vec evK l, .vec paK p, prD a b] (I (pZ l p a b)) := by
  cases hz : (l71 l p a b != 0) with
  | true => exact fnD_k (cfg_ok w0) h0 (cs := [whenC 102, firstC 17, cBad30]) ⟨gd102 h0, gd17 h0, gdBad30, trivial⟩ (fd := fnOf Tryz.f71) rfl ((run71_x l p a b).trans (by unfold pZ; rw [hz]; rfl))
  | false =>
    obtain ⟨e1, e2⟩ := l71_zero hz
    exact fnD_k (cfg_ok w0) h0 (cs := cs71) ⟨gd102 h0, gd17 h0, gd30 h0, trivial⟩ (fd := fnOf Tryz.f71) rfl ((run71 l p a b (fewI_len (by omega)) (fewI_len (by omega))).trans (t71_eq l p a b))
def c71 : Ct := ct 71 [.v evK, .v paK, .x] fun a => match asPr a.2.2.1 with
  | some q => .br (Nat.ble (a.1 : List (Tup evK)).length 4) (.br (Nat.ble (a.2.1 : List (Tup paK)).length 4) (.leaf (I (pZ a.1 a.2.1 q.1 q.2))) .bad) .bad
  | none => .bad
theorem gd71 (h0 : Lib0 w0) : Gd (cfg w0) c71 := gd_sig fun a d hd => by
  obtain ⟨l, p, x, u⟩ := a
  simp only at hd
  cases hb : asPr x with
  | none => rw [hb] at hd; cases hd
  | some q =>
    rw [hb] at hd
    obtain ⟨h1, hd⟩ := br_run hd
    obtain ⟨h2, hd⟩ := br_run hd
    cases hd
    cases asPr_eq hb
    exact fn71 h0 l p q.1 q.2 (Nat.le_of_ble_eq_true h1) (Nat.le_of_ble_eq_true h2)
end
end Go.Proofs.YtifnpljmjhnbaaaGreatDoor
