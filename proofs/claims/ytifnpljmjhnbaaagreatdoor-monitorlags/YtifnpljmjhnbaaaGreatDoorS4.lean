/-
  A part of the proof of the statement that the claim names: see the last file.
-/
import Derived.Test.YtifnpljmjhnbaaaGreatDoorS3
namespace Go.Proofs.YtifnpljmjhnbaaaGreatDoor
open Go Go.Am
set_option maxRecDepth 100000
variable {w0 : World}
noncomputable section


def distP (e : Tup evK) (p : Tup paK) : Int := mx (mx 0 (IntKind.i64.wrap (pf p - ea e))) (IntKind.i64.wrap (ea e - IntKind.i64.wrap (pt p - 1)))
def distR (e : Tup evK) (p : Tup paK) : Int := mx (mx 0 (IntKind.i64.wrap (pf p - ea e))) (IntKind.i64.wrap (IntKind.i64.wrap (ea e - pt p) + 1))
theorem run119 (e : Tup evK) (p : Tup paK) : bodyK ((cfg w0).at []) 40 (fnOf Tryz.f119) [evD e, paD p] = some (I (distP e p)) := by kernel_rfl
def c119 : Ct := ct 119 [.b evK, .b paK] fun a => .leaf (I (distP a.1 a.2.1))
theorem gd119 (h0 : Lib0 w0) : Gd (cfg w0) c119 := gd_k h0 (cs := []) trivial (fd := fnOf Tryz.f119) rfl (n := 40) fun a d hd => by
  obtain ⟨⟨a1, a2, a3, a4, a5, a6, _⟩, ⟨b1, b2, b3, b4, b5, _⟩, u⟩ := a
  cases hd
  exact run119 (a1, a2, a3, a4, a5, a6, ()) (b1, b2, b3, b4, b5, ())
theorem run121 (e : Tup evK) (p : Tup paK) : bodyK ((cfg w0).at []) 40 (fnOf Tryz.f121) [evD e, paD p] = some (I (distR e p)) := by kernel_rfl
def c121 : Ct := ct 121 [.b evK, .b paK] fun a => .leaf (I (distR a.1 a.2.1))
theorem gd121 (h0 : Lib0 w0) : Gd (cfg w0) c121 := gd_k h0 (cs := []) trivial (fd := fnOf Tryz.f121) rfl (n := 40) fun a d hd => by
  obtain ⟨⟨a1, a2, a3, a4, a5, a6, _⟩, ⟨b1, b2, b3, b4, b5, _⟩, u⟩ := a
  cases hd
  exact run121 (a1, a2, a3, a4, a5, a6, ()) (b1, b2, b3, b4, b5, ())

abbrev tmB : ByteArray := ⟨#[116, 105, 109, 101]⟩
abbrev enB : ByteArray := ⟨#[101, 110, 101, 114, 103, 121]⟩
def ts (s : ByteArray) : Tup strK := (s, ())
def whyL (t g : Bool) : List (Tup strK) := bif t then (bif g then [ts tmB, ts enB] else [ts tmB]) else bif g then [ts enB] else []
def engB (e : Tup evK) (p : Tup paK) : Bool := decide (ee e < pl p) || decide (ee e > ph p)
def lwB (e : Tup evK) (p : Tup paK) : Bool := decide (ee e < pl p)
def hiB (e : Tup evK) (p : Tup paK) : Bool := decide (ee e > ph p)
def tree118 (t lw hi : Bool) : Option D :=
  bif t then bif lw then some (.sl 2 1 [Str tmB, Str enB]) else bif hi then some (.sl 2 1 [Str tmB, Str enB]) else some (.sl 1 1 [Str tmB])
  else bif lw then some (.sl 1 1 [Str enB]) else bif hi then some (.sl 1 1 [Str enB]) else some (.val (.slice none 0 0))
theorem run118 (e : Tup evK) (p : Tup paK) (s : Int) : bodyK ((cfg w0).at [c119]) 40 (fnOf Tryz.f118) [evD e, paD p, I s] = tree118 (decide (distP e p > s)) (lwB e p) (hiB e p) := by kernel_rfl
theorem run57 (e : Tup evK) (p : Tup paK) (s : Int) : bodyK ((cfg w0).at [c121]) 40 (fnOf Tryz.f57) [evD e, paD p, I s] = tree118 (decide (distR e p > s)) (lwB e p) (hiB e p) := by kernel_rfl
theorem why_fn {g : FuncId} {ds : List D} {t lw hi : Bool} (h : ∀ d, tree118 t lw hi = some d → FnD (cfg w0) g ds d) : FnD (cfg w0) g ds (.vec strK (whyL t (lw || hi))) := by
  have two : FnD (cfg w0) g ds (.sl 2 1 [Str tmB, Str enB]) → FnD (cfg w0) g ds (.vec strK [ts tmB, ts enB]) := fun k => FnD.sl_one (ks := strK) (n := 2) (vs := [.string tmB, .string enB]) rfl (by decide) (by decide) rfl rfl k
  have one : ∀ b : ByteArray, FnD (cfg w0) g ds (.sl 1 1 [Str b]) → FnD (cfg w0) g ds (.vec strK [ts b]) := fun b k => FnD.sl_one (ks := strK) (n := 1) (vs := [.string b]) rfl (by decide) (by decide) rfl rfl k
  cases t <;> cases lw <;> cases hi
  · exact FnD.nil_one rfl (by decide) (h _ rfl)
  · exact one _ (h _ rfl)
  · exact one _ (h _ rfl)
  · exact one _ (h _ rfl)
  · exact one _ (h _ rfl)
  · exact two (h _ rfl)
  · exact two (h _ rfl)
  · exact two (h _ rfl)
def whyP (e : Tup evK) (p : Tup paK) (s : Int) : List (Tup strK) := whyL (decide (distP e p > s)) (engB e p)
def whyR (e : Tup evK) (p : Tup paK) (s : Int) : List (Tup strK) := whyL (decide (distR e p > s)) (engB e p)
def c118 : Ct := ct 118 [.b evK, .b paK, .c ik] fun a => .leaf (.vec strK (whyP a.1 a.2.1 a.2.2.1))
theorem gd118 (h0 : Lib0 w0) : Gd (cfg w0) c118 := gd_sig fun a d hd => by
  obtain ⟨⟨a1, a2, a3, a4, a5, a6, _⟩, ⟨b1, b2, b3, b4, b5, _⟩, s, u⟩ := a
  cases hd
  exact why_fn fun d hd => fnD_k (cfg_ok w0) h0 (cs := [c119]) ⟨gd119 h0, trivial⟩ (fd := fnOf Tryz.f118) rfl ((run118 (a1, a2, a3, a4, a5, a6, ()) (b1, b2, b3, b4, b5, ()) s).trans hd)
def c57 : Ct := ct 57 [.b evK, .b paK, .c ik] fun a => .leaf (.vec strK (whyR a.1 a.2.1 a.2.2.1))
theorem gd57 (h0 : Lib0 w0) : Gd (cfg w0) c57 := gd_sig fun a d hd => by
  obtain ⟨⟨a1, a2, a3, a4, a5, a6, _⟩, ⟨b1, b2, b3, b4, b5, _⟩, s, u⟩ := a
  cases hd
  exact why_fn fun d hd => fnD_k (cfg_ok w0) h0 (cs := [c121]) ⟨gd121 h0, trivial⟩ (fd := fnOf Tryz.f57) rfl ((run57 (a1, a2, a3, a4, a5, a6, ()) (b1, b2, b3, b4, b5, ()) s).trans hd)


def allZ (l : List (Tup evK)) (p : List (Tup paK)) (s : Int) : Int := firstZ [chkEv l, chkPa p, withinZ s 0 300]
def cs117 : List Ct := evC 59 :: paC 62 :: rangeC 158 0 300 :: baseC
theorem run117 (e : Tup evK) (p : Tup paK) (s : Int) : bodyK ((cfg w0).at cs117) 40 (fnOf Tryz.f117) [evD e, paD p, I s] = some (I (allZ [e] [p] s)) := by
  obtain ⟨a1, a2, a3, a4, a5, a6, _⟩ := e
  obtain ⟨b1, b2, b3, b4, b5, _⟩ := p
  kernel_rfl
def c117 : Ct := ct 117 [.b evK, .b paK, .c ik] fun a => .leaf (I (allZ [a.1] [a.2.1] a.2.2.1))
theorem gd117 (h0 : Lib0 w0) : Gd (cfg w0) c117 := gd_k h0 (cs := cs117) ⟨gd59 h0, gd62 h0, gd158 h0, baseC_gd h0⟩ (fd := fnOf Tryz.f117) rfl (n := 40) fun a d hd => by
  obtain ⟨⟨a1, a2, a3, a4, a5, a6, _⟩, ⟨b1, b2, b3, b4, b5, _⟩, s, u⟩ := a
  cases hd
  exact run117 (a1, a2, a3, a4, a5, a6, ()) (b1, b2, b3, b4, b5, ()) s
def cs56 : List Ct := evC 61 :: paC 64 :: rangeC 120 0 300 :: baseC
theorem run56 (l : List (Tup evK)) (p : List (Tup paK)) (s : Int) : bodyK ((cfg w0).at cs56) 40 (fnOf Tryz.f56) [.vec evK l, .vec paK p, I s] = some (I (allZ l p s)) := by kernel_rfl
def c56 : Ct := ct 56 [.v evK, .v paK, .c ik] fun a => .leaf (I (allZ a.1 a.2.1 a.2.2.1))
theorem gd56 (h0 : Lib0 w0) : Gd (cfg w0) c56 := gd_k h0 (cs := cs56) ⟨gd61 h0, gd64 h0, gd120 h0, baseC_gd h0⟩ (fd := fnOf Tryz.f56) rfl (n := 40) fun a d hd => by
  obtain ⟨l, p, s, u⟩ := a
  cases hd
  exact run56 l p s

abbrev SE := List (Tup strK) × Int
def seD (x : SE) : D := .tup [.vec strK x.1, I x.2]
def rea (e : Tup evK) (p : Tup paK) (s : Int) : SE := bif allZ [e] [p] s != 0 then ([], allZ [e] [p] s) else (whyP e p s, 0)
theorem run54 (e : Tup evK) (p : Tup paK) (s : Int) : bodyK ((cfg w0).at [c117, c118]) 40 (fnOf Tryz.f54) [evD e, paD p, I s] = bif allZ [e] [p] s != 0 then some (.tup [.val (.slice none 0 0), I (allZ [e] [p] s)]) else some (.tup [.vec strK (whyP e p s), I 0]) := by
  obtain ⟨a1, a2, a3, a4, a5, a6, _⟩ := e
  obtain ⟨b1, b2, b3, b4, b5, _⟩ := p
  kernel_rfl
theorem fn54 (h0 : Lib0 w0) (e : Tup evK) (p : Tup paK) (s : Int) : FnD (cfg w0) 54 [evD e, paD p, I s] (seD (rea e p s)) := by
  have hr := fun d h => fnD_k (d := d) (cfg_ok w0) h0 (cs := [c117, c118]) ⟨gd117 h0, gd118 h0, trivial⟩ (g := 54) (fd := fnOf Tryz.f54) rfl ((run54 e p s).trans h)
  unfold rea
  cases hc : (allZ [e] [p] s != 0) with
  | true => rw [hc] at hr; exact FnD.nil_vec (ks := strK) (vs := [iv (allZ [e] [p] s)]) rfl (by decide) (hr _ rfl)
  | false => rw [hc] at hr; exact hr _ rfl
def c54 : Ct := ct 54 [.b evK, .b paK, .c ik] fun a => .leaf (seD (rea a.1 a.2.1 a.2.2.1))
theorem gd54 (h0 : Lib0 w0) : Gd (cfg w0) c54 := gd_sig fun a d hd => by
  obtain ⟨⟨a1, a2, a3, a4, a5, a6, _⟩, ⟨b1, b2, b3, b4, b5, _⟩, s, u⟩ := a
  cases hd
  exact fn54 h0 (a1, a2, a3, a4, a5, a6, ()) (b1, b2, b3, b4, b5, ()) s


def tup2' (x : Int × Int) : D := .tup [I x.1, I x.2]
def a1Z (e : Tup evK) (p : Tup paK) (s : Int) : Int := firstZ [allZ [e] [p] s]
theorem a1Z_eq (e : Tup evK) (p : Tup paK) (s : Int) : a1Z e p s = allZ [e] [p] s := by
  unfold a1Z firstZ firstZ
  cases h : (allZ [e] [p] s != 0) with
  | true => rfl
  | false => rw [show allZ [e] [p] s = 0 by simpa using h]; rfl
def vlZ (b : Bool) (d : Int) : Int × Int := bif b then (0, 7) else (IntKind.i64.wrap (1000 - d), 0)
def somB (l : List (Tup strK)) : Bool := decide ((l.length : Int) > 0)
def noB (l : List (Tup strK)) : Bool := (l.length : Int) == 0
def cs55 : List Ct := [c117, firstC 84, c118, c119]
theorem run55 (e : Tup evK) (p : Tup paK) (s : Int) : bodyK ((cfg w0).at cs55) 40 (fnOf Tryz.f55) [evD e, paD p, I s] =
    bif a1Z e p s != 0 then some (tup2' (0, a1Z e p s)) else bif somB (whyP e p s) then some (tup2' (0, 7)) else some (tup2' (IntKind.i64.wrap (1000 - distP e p), 0)) := by
  obtain ⟨a1, a2, a3, a4, a5, a6, _⟩ := e
  obtain ⟨b1, b2, b3, b4, b5, _⟩ := p
  kernel_rfl
def val55 (e : Tup evK) (p : Tup paK) (s : Int) : Int × Int := bif allZ [e] [p] s != 0 then (0, allZ [e] [p] s) else vlZ (somB (whyP e p s)) (distP e p)
theorem run55' (e : Tup evK) (p : Tup paK) (s : Int) : bodyK ((cfg w0).at cs55) 40 (fnOf Tryz.f55) [evD e, paD p, I s] = some (tup2' (val55 e p s)) := by
  rw [run55, a1Z_eq]
  unfold val55 vlZ
  cases (allZ [e] [p] s != 0)
  · cases somB (whyP e p s) <;> rfl
  · rfl
def c55 : Ct := ct 55 [.b evK, .b paK, .c ik] fun a => .leaf (tup2' (val55 a.1 a.2.1 a.2.2.1))
theorem gd55 (h0 : Lib0 w0) : Gd (cfg w0) c55 := gd_k h0 (cs := cs55) ⟨gd117 h0, gd84 h0, gd118 h0, gd119 h0, trivial⟩ (fd := fnOf Tryz.f55) rfl (n := 40) fun a d hd => by
  obtain ⟨⟨a1, a2, a3, a4, a5, a6, _⟩, ⟨b1, b2, b3, b4, b5, _⟩, s, u⟩ := a
  cases hd
  exact run55' (a1, a2, a3, a4, a5, a6, ()) (b1, b2, b3, b4, b5, ()) s
theorem run122 (e : Tup evK) (p : Tup paK) (s : Int) : bodyK ((cfg w0).at [c57]) 40 (fnOf Tryz.f122) [evD e, paD p, I s] = some (Bo (noB (whyR e p s))) := by
  obtain ⟨a1, a2, a3, a4, a5, a6, _⟩ := e
  obtain ⟨b1, b2, b3, b4, b5, _⟩ := p
  kernel_rfl
def c122 : Ct := ct 122 [.b evK, .b paK, .c ik] fun a => .leaf (Bo (noB (whyR a.1 a.2.1 a.2.2.1)))
theorem gd122 (h0 : Lib0 w0) : Gd (cfg w0) c122 := gd_k h0 (cs := [c57]) ⟨gd57 h0, trivial⟩ (fd := fnOf Tryz.f122) rfl (n := 40) fun a d hd => by
  obtain ⟨⟨a1, a2, a3, a4, a5, a6, _⟩, ⟨b1, b2, b3, b4, b5, _⟩, s, u⟩ := a
  cases hd
  exact run122 (a1, a2, a3, a4, a5, a6, ()) (b1, b2, b3, b4, b5, ()) s
theorem run58 (e : Tup evK) (p : Tup paK) (s : Int) : bodyK ((cfg w0).at [c122, c121]) 40 (fnOf Tryz.f58) [evD e, paD p, I s] =
    bif !noB (whyR e p s) then some (tup2' (0, 7)) else some (tup2' (IntKind.i64.wrap (1000 - distR e p), 0)) := by
  obtain ⟨a1, a2, a3, a4, a5, a6, _⟩ := e
  obtain ⟨b1, b2, b3, b4, b5, _⟩ := p
  kernel_rfl
def val58 (e : Tup evK) (p : Tup paK) (s : Int) : Int × Int := vlZ (!noB (whyR e p s)) (distR e p)
theorem run58' (e : Tup evK) (p : Tup paK) (s : Int) : bodyK ((cfg w0).at [c122, c121]) 40 (fnOf Tryz.f58) [evD e, paD p, I s] = some (tup2' (val58 e p s)) := by
  rw [run58]
  unfold val58 vlZ
  cases noB (whyR e p s) <;> rfl
def c58 : Ct := ct 58 [.b evK, .b paK, .c ik] fun a => .leaf (tup2' (val58 a.1 a.2.1 a.2.2.1))
theorem gd58 (h0 : Lib0 w0) : Gd (cfg w0) c58 := gd_k h0 (cs := [c122, c121]) ⟨gd122 h0, gd121 h0, trivial⟩ (fd := fnOf Tryz.f58) rfl (n := 40) fun a d hd => by
  obtain ⟨⟨a1, a2, a3, a4, a5, a6, _⟩, ⟨b1, b2, b3, b4, b5, _⟩, s, u⟩ := a
  cases hd
  exact run58' (a1, a2, a3, a4, a5, a6, ()) (b1, b2, b3, b4, b5, ()) s
theorem somB_eq (l : List (Tup strK)) : somB l = !noB l := by
  unfold somB noB
  cases l with
  | nil => rfl
  | cons x xs =>
    rw [decide_eq_true (by rw [List.length_cons]; omega)]
    have : (((x :: xs).length : Int) == 0) = false := by rw [beq_eq_false_iff_ne, List.length_cons]; omega
    rw [this]; rfl


def s1 (x : Tup strK) : List UInt8 := ByteArray.toList x.1
def sameW (a b : List (Tup strK)) : Bool := decide (a.map s1 = b.map s1)
def neW (x y : Tup strK) : Bool := !(s1 x == s1 y)
def rel65 : List (Nat × Cv) := [(0, .id), (1, .id), (5, .id), (4, .id)]
def st65 (a b : List (Tup strK)) (s : Int × Bool) : List D := [.vec strK a, .vec strK b, I s.1, Bo s.2]
theorem round65 (a b : List (Tup strK)) (j : Int) (r : Bool) : rndD ((cfg w0).at []) 40 [] 40 (fnOf Tryz.f65).ntmps rel65 (lpB 0 (fnOf Tryz.f65).body) (st65 a b (j, r)) =
    bif decide (j < a.length) then
      bif (Nat.beq 1 1 && (decide (0 ≤ j) && decide (j < a.length))) then
        bif (Nat.beq 1 1 && (decide (0 ≤ j) && decide (j < b.length))) then
          bif neW (nth a j.toNat) (nth b j.toNat) then some ([], .ret, st65 a b (j, false)) else some ([], .normal, st65 a b (W (j + 1), r))
        else none
      else none
    else some ([], .exit 0, st65 a b (j, r)) := by kernel_rfl
theorem body65 (a b : List (Tup strK)) (x : X) (p : Int × Bool) (hx : x = .ret ∨ x = .normal) : bodyT ((cfg w0).at []) 40 [ldP 0 (fnOf Tryz.f65).ntmps rel65 x (st65 a b p)] 40 (fnOf Tryz.f65) [.vec strK a, .vec strK b] =
    bif (a.length : Int) != b.length then some ([], Bo false) else
    some ([(ldP 0 (fnOf Tryz.f65).ntmps rel65 x (st65 a b p), .loop (lpB 0 (fnOf Tryz.f65).body), st65 a b (0, false))], onX x (Bo p.2) (Bo true)) := by
  rcases hx with rfl | rfl <;> kernel_rfl
theorem neW_iff (x y : Tup strK) : neW x y = true ↔ s1 x ≠ s1 y := by
  unfold neW
  rw [Bool.not_eq_true', beq_eq_false_iff_ne]
theorem fn65 (h0 : Lib0 w0) (a b : List (Tup strK)) (hl : a.length ≤ 100000) : FnD (cfg w0) 65 [.vec strK a, .vec strK b] (Bo (sameW a b)) := by
  cases hne : ((a.length : Int) != b.length) with
  | true =>
    have : sameW a b = false := by
      unfold sameW
      rw [decide_eq_false_iff_not]
      intro h
      have := congrArg List.length h
      simp only [List.length_map] at this
      rw [this] at hne
      simp at hne
    rw [this]
    refine fnD_t (cfg_ok w0) h0 (cs := []) trivial (fd := fnOf Tryz.f65) rfl (L := [ldP 0 (fnOf Tryz.f65).ntmps rel65 .normal (st65 a b (0, true))]) (o := []) ((body65 a b .normal (0, true) (.inr rfl)).trans ?_) trivial
    rw [hne]; rfl
  | false =>
    have hab : a.length = b.length := Int.ofNat.inj (by simpa using hne)
    have hany : (List.range' 0 a.length).any (fun j => neW (nth a j) (nth b j)) = !sameW a b := by
      unfold sameW
      rw [Bool.eq_iff_iff, List.any_eq_true]
      simp only [List.mem_range'_1, neW_iff, Bool.not_eq_true', decide_eq_false_iff_not]
      constructor
      · rintro ⟨j, ⟨_, hj⟩, hne⟩ he
        have := congrArg (fun l => l[j]?) he
        simp only [List.getElem?_map] at this
        rw [List.getElem?_eq_getElem (by omega), List.getElem?_eq_getElem (by omega)] at this
        simp only [Option.map_some, Option.some.injEq] at this
        apply hne
        simp only [nth, List.getD_eq_getElem?_getD, List.getElem?_eq_getElem (show j < a.length by omega), List.getElem?_eq_getElem (show j < b.length by omega), Option.getD_some]
        exact this
      · intro hne
        apply Classical.byContradiction
        intro hno
        apply hne
        apply List.ext_getElem?
        intro j
        simp only [List.getElem?_map]
        rcases Nat.lt_or_ge j a.length with hj | hj
        · rw [List.getElem?_eq_getElem hj, List.getElem?_eq_getElem (by omega)]
          simp only [Option.map_some, Option.some.injEq]
          apply Classical.byContradiction
          intro hx
          refine hno ⟨j, ⟨by omega, by omega⟩, fun hy => hx ?_⟩
          simpa only [nth, List.getD_eq_getElem?_getD, List.getElem?_eq_getElem (show j < a.length by omega), List.getElem?_eq_getElem (show j < b.length by omega), Option.getD_some] using hy
        · rw [List.getElem?_eq_none hj, List.getElem?_eq_none (by omega)]
    refine fn_rg h0 (cs := []) trivial (fd := fnOf Tryz.f65) rfl rel65 a.length (by omega) (st65 a b) (fun j r => bif neW (nth a j) (nth b j) then (X.ret, false) else (.normal, r)) (fun _ _ => True) (a0 := false) trivial
      (fun j r hj _ => .leaf (by
        rw [round65, inb 1 hj, ← hab, inb 1 hj, lt_t hj, Int.toNat_natCast]
        cases neW (nth a j) (nth b j) <;> rfl)) (fun _ _ _ _ _ _ => trivial)
      (fun r _ => .leaf (by rw [round65, ge_f]; rfl)) fun x p hx => ?_
    obtain ⟨q, hq⟩ := rgRun_any (id := 0) (p := fun j => neW (nth a j) (nth b j)) (c := false) a.length 0 false
    rw [hq, hany] at hx
    cases hs : sameW a b <;> rw [hs] at hx <;> cases hx
    · exact (body65 a b _ _ (.inl rfl)).trans (by rw [hne]; rfl)
    · exact (body65 a b _ _ (.inr rfl)).trans (by rw [hne]; rfl)
def c65 : Ct := ct 65 [.v strK, .v strK] fun a => .br (Nat.ble (a.1 : List (Tup strK)).length 100000) (.leaf (Bo (sameW a.1 a.2.1))) .bad
theorem gd65 (h0 : Lib0 w0) : Gd (cfg w0) c65 := gd_sig fun a d hd => by
  obtain ⟨hg, hd⟩ := br_run hd
  cases hd
  exact fn65 h0 a.1 a.2.1 (Nat.le_of_ble_eq_true hg)
end
end Go.Proofs.YtifnpljmjhnbaaaGreatDoor
