/-
  A part of the proof of the statement that the claim names: see the last file.
-/
import Derived.Test.YthcpfignhalffaaGreatDoorC7
import Derived.Test.YthcpfignhalffaaGreatDoorC8
import Derived.Test.YthcpfignhalffaaGreatDoorP3
namespace Go.Proofs.YthcpfignhalffaaGreatDoor
open Go Go.Am
set_option maxRecDepth 100000
variable {w0 : World}
noncomputable section


def asGN (d : D) : Option (Int × Int) :=
  match d with
  | .agg [.val (.int .i64 w), .val (.int .i64 h), .val (.slice none 0 0)] => some (w, h)
  | _ => none
def nG (p : Int × Int) : D := .agg [I p.1, I p.2, nilD]
theorem asGN_eq {d : D} {p : Int × Int} (h : asGN d = some p) : d = nG p := by
  unfold asGN at h
  split at h
  · cases h; rfl
  · cases h
def orN (d : D) : Option Gr :=
  match asG d with
  | some g => some g
  | none => match asGN d with
    | some p => some ⟨p.1, p.2, []⟩
    | none => none

def sameG (a b : Gr) : Bool := sizeB a b && sameI a.l b.l
theorem run59 (a b : Gr) : bodyK ((cfg w0).at [c97]) 40 (fnOf Tryz.f59) [gD a, gD b] =
    bif a.w == b.w then bif a.h == b.h then bif Nat.ble a.l.length 100000 then some (Bo (sameI a.l b.l)) else none else some (Bo false) else some (Bo false) := by cases a; cases b; kernel_rfl
theorem run59n (a : Gr) (p : Int × Int) : bodyK ((cfg w0).at [c97]) 40 (fnOf Tryz.f59) [gD a, nG p] =
    bif a.w == p.1 then bif a.h == p.2 then bif Nat.ble a.l.length 100000 then some (Bo (sameI a.l [])) else none else some (Bo false) else some (Bo false) := by cases a; cases p; kernel_rfl
theorem same_t {a b : Gr} (h : Nat.ble a.l.length 100000 = true) : (bif a.w == b.w then bif a.h == b.h then bif Nat.ble a.l.length 100000 then some (Bo (sameI a.l b.l)) else none else some (Bo false) else some (Bo false)) = some (Bo (sameG a b)) := by
  unfold sameG sizeB
  rw [h]
  cases (a.w == b.w) <;> cases (a.h == b.h) <;> rfl
def c59 : Ct := gC 59 [.x] fun a y => match orN y.1 with
  | some b => .br (smG a) (.leaf (Bo (sameG a b))) .bad
  | none => .bad
theorem gd59 (h0 : Lib0 w0) : Gd (cfg w0) c59 := gd_g fun a y d hd => by
  obtain ⟨x, u⟩ := y
  simp only at hd
  unfold orN at hd
  cases hx : asG x with
  | some b =>
    rw [hx] at hd
    obtain ⟨hg, hd⟩ := br_run hd
    cases hd
    cases asG_eq hx
    exact fnD_k (cfg_ok w0) h0 (cs := [c97]) ⟨gd97 h0, trivial⟩ (fd := fnOf Tryz.f59) rfl (n := 40) ((run59 a b).trans (same_t hg))
  | none =>
    rw [hx] at hd
    cases hn : asGN x with
    | none => rw [hn] at hd; cases hd
    | some p =>
      rw [hn] at hd
      obtain ⟨hg, hd⟩ := br_run hd
      cases hd
      cases asGN_eq hn
      exact fnD_k (cfg_ok w0) h0 (cs := [c97]) ⟨gd97 h0, trivial⟩ (fd := fnOf Tryz.f59) rfl (n := 40) ((run59n a p).trans (same_t (b := ⟨p.1, p.2, []⟩) hg))

def wholeB (a : Gr) (e bad : Int) (b : Gr) : Bool := sameG a (bif bad != 0 then g0 else b) && (e == bad)
theorem run55 (a b : Gr) (e bad : Int) : bodyK ((cfg w0).at [c59]) 40 (fnOf Tryz.f55) [gD a, I e, I bad, gD b] =
    bif bad != 0 then bif smG a then bif sameG a g0 then some (Bo (e == bad)) else some (Bo false) else none
    else bif smG a then bif sameG a b then some (Bo (e == bad)) else some (Bo false) else none := by cases a; cases b; kernel_rfl
theorem run55n (a : Gr) (p : Int × Int) (e bad : Int) : bodyK ((cfg w0).at [c59]) 40 (fnOf Tryz.f55) [gD a, I e, I bad, nG p] =
    bif bad != 0 then bif smG a then bif sameG a g0 then some (Bo (e == bad)) else some (Bo false) else none
    else bif smG a then bif sameG a ⟨p.1, p.2, []⟩ then some (Bo (e == bad)) else some (Bo false) else none := by cases a; cases p; kernel_rfl
theorem whole_t {a b : Gr} {e bad : Int} (h : smG a = true) : (bif bad != 0 then bif smG a then bif sameG a g0 then some (Bo (e == bad)) else some (Bo false) else none
    else bif smG a then bif sameG a b then some (Bo (e == bad)) else some (Bo false) else none) = some (Bo (wholeB a e bad b)) := by
  unfold wholeB
  rw [h]
  cases (bad != 0)
  · simp only [cond_false, cond_true]
    cases sameG a b <;> simp
  · simp only [cond_true]
    cases sameG a g0 <;> simp
def c55 : Ct := gC 55 [.c ik, .c ik, .x] fun a y => match orN y.2.2.1 with
  | some b => .br (smG a) (.leaf (Bo (wholeB a y.1 y.2.1 b))) .bad
  | none => .bad
theorem gd55 (h0 : Lib0 w0) : Gd (cfg w0) c55 := gd_g fun a y d hd => by
  obtain ⟨e, bad, x, u⟩ := y
  simp only at hd
  unfold orN at hd
  cases hx : asG x with
  | some b =>
    rw [hx] at hd
    obtain ⟨hg, hd⟩ := br_run hd
    cases hd
    cases asG_eq hx
    exact fnD_k (cfg_ok w0) h0 (cs := [c59]) ⟨gd59 h0, trivial⟩ (fd := fnOf Tryz.f55) rfl (n := 40) ((run55 a b e bad).trans (whole_t hg))
  | none =>
    rw [hx] at hd
    cases hn : asGN x with
    | none => rw [hn] at hd; cases hd
    | some p =>
      rw [hn] at hd
      obtain ⟨hg, hd⟩ := br_run hd
      cases hd
      cases asGN_eq hn
      exact fnD_k (cfg_ok w0) h0 (cs := [c59]) ⟨gd59 h0, trivial⟩ (fd := fnOf Tryz.f55) rfl (n := 40) ((run55n a p e bad).trans (whole_t (b := ⟨p.1, p.2, []⟩) hg))


def csT : List Ct := [c14, ownC 16, lawDif, lawTile, lawOver, lawJoin, chkC 20, firstC 19, whenC 49, difRC, c82, lawTileR, c51, lawJoinR, lawOverR, c57, c55]
theorem csT_gd (h0 : Lib0 w0) : Gds (cfg w0) csT := ⟨gd14 h0, gd16 h0, gdDif h0, gdTile h0, gdOver h0, gdJoin h0, gd20 h0, gd19 h0, gd49 h0, gd81 h0, gd82 h0, gdTileR h0, gd51 h0, gdJoinR h0, gdOverR h0, gd57 h0, gd55 h0, trivial⟩
end
end Go.Proofs.YthcpfignhalffaaGreatDoor

namespace Go.Proofs.YthcpfignhalffaaGreatDoor
open Go Go.Am
set_option maxRecDepth 100000
variable {w0 : World}
noncomputable section


theorem within_vals (n lo hi : Int) : withinZ n lo hi = 0 ∨ withinZ n lo hi = 3 := by
  unfold withinZ whenZ
  cases (decide (n < lo) || decide (n > hi)) <;> simp
theorem first_vals {p : Int → Prop} (h0 : p 0) : ∀ {l : List Int}, (∀ e ∈ l, p e) → p (firstZ l)
  | [], _ => h0
  | x :: xs, h => by
    unfold firstZ
    cases (x != 0)
    · exact first_vals h0 fun e he => h e (List.mem_cons_of_mem _ he)
    · exact h x (List.mem_cons_self ..)
theorem chk_vals (g : Gr) : chkG g = 0 ∨ chkG g = 2 ∨ chkG g = 3 := by
  rw [chk_alt]
  have hw : ∀ n lo hi : Int, withinZ n lo hi = 0 ∨ withinZ n lo hi = 2 ∨ withinZ n lo hi = 3 := fun n lo hi => (within_vals n lo hi).elim .inl fun h => .inr (.inr h)
  have h1 : e0G g = 0 ∨ e0G g = 2 ∨ e0G g = 3 := first_vals (p := fun e => e = 0 ∨ e = 2 ∨ e = 3) (.inl rfl) (by
    intro e he
    simp only [List.mem_cons, List.not_mem_nil, or_false] at he
    rcases he with rfl | rfl <;> exact hw _ _ _)
  have h2 : firstZ (g.l.map enZ) = 0 ∨ firstZ (g.l.map enZ) = 2 ∨ firstZ (g.l.map enZ) = 3 := first_vals (p := fun e => e = 0 ∨ e = 2 ∨ e = 3) (.inl rfl) (by
    intro e he
    obtain ⟨x, _, rfl⟩ := List.mem_map.1 he
    exact hw _ _ _)
  cases (e0G g != 0)
  · cases ((g.l.length : Int) != W (g.w * g.h))
    · exact h2
    · exact .inr (.inl rfl)
  · exact h1
def chk3C : Ct := gC 20 [] fun b _ => .br (smG b) (.br (chkG b == 0) (.leaf (I 0)) (.br (chkG b == 2) (.leaf (I 2)) (.leaf (I 3)))) .bad
theorem gdChk3 (h0 : Lib0 w0) : Gd (cfg w0) chk3C := gd_g fun b a d hd => by
  cases hg : smG b with
  | false => rw [hg] at hd; cases hd
  | true =>
    rw [hg] at hd
    have h := fn20 h0 b (Nat.le_of_ble_eq_true hg)
    rcases chk_vals b with e | e | e <;> rw [e] at hd h <;> cases hd <;> exact h
def c61 : Ct := g2C 61 [] fun a b _ => .leaf (Bo (sizeB a b))
theorem run61 (a b : Gr) : bodyK ((cfg w0).at []) 40 (fnOf Tryz.f61) [gD a, gD b] = bif a.w == b.w then some (Bo (a.h == b.h)) else some (Bo false) := by cases a; cases b; kernel_rfl
theorem gd61 (h0 : Lib0 w0) : Gd (cfg w0) c61 := gd_g2 fun a b y d hd => by
  cases hd
  refine fnD_k (cfg_ok w0) h0 (cs := []) trivial (fd := fnOf Tryz.f61) rfl (n := 40) ((run61 a b).trans ?_)
  unfold sizeB
  cases (a.w == b.w) <;> cases (a.h == b.h) <;> rfl
def csU : List Ct := [c14, ownC 16, lawDif, lawTile, lawOver, lawJoin, chk3C, firstC 19, whenC 49, difRC, c82, lawTileR, c51, lawJoinR, lawOverR, c57, c55, c61]
theorem csU_gd (h0 : Lib0 w0) : Gds (cfg w0) csU := ⟨gd14 h0, gd16 h0, gdDif h0, gdTile h0, gdOver h0, gdJoin h0, gdChk3 h0, gd19 h0, gd49 h0, gd81 h0, gd82 h0, gdTileR h0, gd51 h0, gdJoinR h0, gdOverR h0, gd57 h0, gd55 h0, gd61 h0, trivial⟩


def few (g : Gr) : Bool := decide ((g.l.length : Int) ≤ 36)
def lwEnd (a b : Gr) (bx : Bx) (x y : Int) (one : Int) (df : List (Tup intK)) (box : Int) (tl : Gr) (three : Int) (ov : Gr) (four : Int) (jo : Gr) : Option D :=
  bif Nat.ble (difX a b).length 100000 then
    bif listB (difX a b) (e62 a b) one df then
      bif smG (tileX a bx).1 then
        bif wholeB (tileX a bx).1 (tileX a bx).2 box tl then
          bif smG (overX a b x y).1 then
            bif wholeB (overX a b x y).1 (overX a b x y).2 three ov then
              bif smG (joinX a b).1 then
                bif wholeB (joinX a b).1 (joinX a b).2 four jo then some (Bo true) else some (Bo false)
              else none
            else some (Bo false)
          else none
        else some (Bo false)
      else none
    else some (Bo false)
  else none
def lw5 (a b : Gr) (bx : Bx) (x y : Int) (one : Int) (df : List (Tup intK)) (box : Int) (tl : Gr) (three : Int) (four : Int) (jo : Gr) : Option D :=
  bif three == 0 then
    bif (smG a && (smG b && ((chkG a == 0) && ((chkG b == 0) && hasB a x y)))) then lwEnd a b bx x y one df box tl (ovX a b x y).2 (ovX a b x y).1 four jo else none
  else lwEnd a b bx x y one df box tl three g0 four jo
def lw4 (ea eb : Int) (a b : Gr) (bx : Bx) (x y : Int) (one : Int) (df : List (Tup intK)) (box : Int) (tl : Gr) : Option D :=
  bif firstZ [ea, eb] == 0 then
    bif ((chkG a == 0) && (chkG b == 0)) then lw5 a b bx x y one df box tl (whenZ (!hasB a x y) 10) (joinXR a b).2 (joinXR a b).1 else none
  else lw5 a b bx x y one df box tl (firstZ [ea, eb]) (firstZ [ea, eb]) g0
def lw3 (ea eb : Int) (a b : Gr) (bx : Bx) (x y : Int) (one : Int) (df : List (Tup intK)) (box : Int) : Option D :=
  bif box == 0 then
    bif (smG a && (e78 a bx == 0)) then lw4 ea eb a b bx x y one df box (tileG a bx) else none
  else lw4 ea eb a b bx x y one df box g0
def lw2 (ea eb : Int) (a b : Gr) (bx : Bx) (x y : Int) (one : Int) (df : List (Tup intK)) : Option D :=
  bif ea == 0 then lw3 ea eb a b bx x y one df (firstZ [fullZ bx.c0 bx.c1 a.w, fullZ bx.r0 bx.r1 a.h]) else lw3 ea eb a b bx x y one df ea
def oneE (ea eb : Int) (a b : Gr) : Int := firstZ [firstZ [ea, eb], whenZ (!sizeB a b) 2]
def lw1 (ea eb : Int) (a b : Gr) (bx : Bx) (x y : Int) : Option D :=
  bif oneE ea eb a b == 0 then
    bif (smG a && (smG b && Nat.beq a.l.length b.l.length)) then lw2 ea eb a b bx x y (oneE ea eb a b) (difR a b) else none
  else lw2 ea eb a b bx x y (oneE ea eb a b) []
def lwB (ea : Int) (a b : Gr) (bx : Bx) (x y : Int) : Option D :=
  bif smG b then bif chkG b == 0 then lw1 ea 0 a b bx x y else bif chkG b == 2 then lw1 ea 2 a b bx x y else lw1 ea 3 a b bx x y else none
def lwA (a b : Gr) (bx : Bx) (x y : Int) : Option D :=
  bif smG a then bif chkG a == 0 then lwB 0 a b bx x y else bif chkG a == 2 then lwB 2 a b bx x y else lwB 3 a b bx x y else none
def law9 (a b : Gr) (bx : Bx) (x y : Int) : Option D :=
  bif !few a then some (Bo true) else bif !few b then some (Bo true) else
  bif smG a then bif smG b then bif (smG a && smG b) then bif smG a then bif smG a then bif smG a then bif smG b then bif (smG a && smG b) then bif smG a then bif smG b then bif (smG a && smG b) then
    lwA a b bx x y
  else none else none else none else none else none else none else none else none else none else none else none
def spotD (bx : Bx) (x y : Int) : D := .agg [I bx.c0, I bx.c1, I bx.r0, I bx.r1, I x, I y]
end
end Go.Proofs.YthcpfignhalffaaGreatDoor

namespace Go.Proofs.YthcpfignhalffaaGreatDoor
open Go Go.Am
set_option maxRecDepth 100000
variable {w0 : World}
noncomputable section


def csA : List Ct := [c14, c30, ownC 16, c32, c31, c33, chkPC 34, chkC 20, chkPeC 35, rangeC 21 0 maxL, firstC 19, chkLC 36, c37, c38, c39, c40, sameC 41]
theorem csA_gd (h0 : Lib0 w0) : Gds (cfg w0) csA := ⟨gd14 h0, gd30 h0, gd16 h0, gd32 h0, gd31 h0, gd33 h0, gd34 h0, gd20 h0, gd35 h0, gd21 h0, gd19 h0, gd36 h0, gd37 h0, gd38 h0, gd39 h0, gd40 h0, gd41 h0, trivial⟩
def endA (p : List (Tup ptK)) (g : Gr) (pe : List (Tup ptK)) (v : Int) (lv : List (Tup intK)) (area : Int) (two : Int) (ex : Int × Int) (three : Int) (cl : List (Tup ptK)) : Option D :=
  bif numB (areaX p).1 (areaX p).2 (chkP p) area then
    bif (exX g pe v).1.1 == ex.1 && ((exX g pe v).1.2 == ex.2 && true) then
      bif (exX g pe v).2 == two then
        bif smP (clX g pe lv).1 then bif sameP (clX g pe lv).1 cl then
          bif (clX g pe lv).2 == three then some (Bo true) else some (Bo false)
        else some (Bo false) else none
      else some (Bo false)
    else some (Bo false)
  else some (Bo false)
def a3 (p : List (Tup ptK)) (g : Gr) (pe : List (Tup ptK)) (v : Int) (lv : List (Tup intK)) (area : Int) (two : Int) (ex : Int × Int) (three : Int) : Option D :=
  bif three == 0 then bif smG g && (Nat.beq pe.length g.l.length && Nat.ble lv.length 100000) then endA p g pe v lv area two ex three (clsR g pe lv) else none
  else endA p g pe v lv area two ex three []
def a2 (p : List (Tup ptK)) (g : Gr) (pe : List (Tup ptK)) (v : Int) (lv : List (Tup intK)) (area : Int) (two three : Int) : Option D :=
  bif two == 0 then bif smG g && Nat.beq pe.length g.l.length then a3 p g pe v lv area two (sumB g v 121 pe) three else none
  else a3 p g pe v lv area two (0, 0) three
def aa1 (p : List (Tup ptK)) (g : Gr) (pe : List (Tup ptK)) (v : Int) (lv : List (Tup intK)) (two three : Int) : Option D :=
  bif chkP p == 0 then bif smP p then a2 p g pe v lv (areaR p) two three else none
  else a2 p g pe v lv 0 two three
def aa0 (p : List (Tup ptK)) (g : Gr) (pe : List (Tup ptK)) (v : Int) (lv : List (Tup intK)) (bad : Int) : Option D :=
  bif Nat.ble lv.length 100000 then aa1 p g pe v lv (firstZ [bad, withinZ v 0 maxL]) (firstZ [bad, chkL lv]) else none
def aaM (p : List (Tup ptK)) (g : Gr) (pe : List (Tup ptK)) (v : Int) (lv : List (Tup intK)) : Option D :=
  bif roomV ([] ++ p) then bif smP p then
    bif smG g then bif smP pe then bif smG g && smP pe then
      bif smG g then bif smP pe then bif (Nat.ble (([] ++ lv).length * 8) 1000000000000 && Nat.ble ([] ++ lv).length 1000000000000) then bif smG g && (smP pe && Nat.ble lv.length 100000) then
        bif smP p then bif smG g then
          bif chkG g == 0 then bif smP pe then aa0 p g pe v lv (chkPe g pe) else none else aa0 p g pe v lv (chkG g)
        else none else none
      else none else none else none else none
    else none else none else none
  else none else none
def law4 (p : List (Tup ptK)) (g : Gr) (pe : List (Tup ptK)) (v : Int) (lv : List (Tup intK)) : Option D :=
  let D := bif decide ((lv.length : Int) > 9) then some (Bo true) else aaM p g pe v lv
  let C := bif decide ((pe.length : Int) > 37) then some (Bo true) else D
  let B := bif !few g then some (Bo true) else C
  bif decide ((p.length : Int) > 40) then bif (p.length : Int) != 1025 then some (Bo true) else B else B
def crD (pe : List (Tup ptK)) (v : Int) (lv : List (Tup intK)) : D := .agg [.vec ptK pe, I v, .vec intK lv]
end
end Go.Proofs.YthcpfignhalffaaGreatDoor

namespace Go.Proofs.YthcpfignhalffaaGreatDoor
open Go Go.Am
set_option maxRecDepth 100000
noncomputable section


theorem thr_step : ((List.range 120).all fun k => decide (thrN k < thrN (k + 1))) = true := by kernel_rfl
theorem thr_mono : ∀ (d i : Nat), i + d ≤ 120 → 0 < d → thrN i < thrN (i + d)
  | 0, _, _, h => by omega
  | d + 1, i, h, _ => by
    have h1 : thrN (i + d) < thrN (i + d + 1) := by
      have := List.all_eq_true.1 thr_step (i + d) (by simp; omega)
      simpa using this
    rcases Nat.eq_zero_or_pos d with hd | hd
    · subst hd; simpa using h1
    · exact Nat.lt_trans (thr_mono d i (by omega) hd) h1

def IsLv (e m : Int) : Prop := -1 ≤ m ∧ m ≤ 120 ∧ (0 ≤ m → thr m ≤ e) ∧ (m < 120 → e < thr (m + 1))
theorem lv_uniq {e m n : Int} (h : IsLv e m) (k : IsLv e n) : m = n := by
  have key : ∀ {m n : Int}, IsLv e m → IsLv e n → ¬ m < n := fun {m n} h k hlt => by
    obtain ⟨a1, a2, _, a4⟩ := h
    obtain ⟨b1, b2, b3, _⟩ := k
    have h1 := a4 (by omega)
    have h2 := b3 (by omega)
    have : thr (m + 1) ≤ thr n := by
      unfold thr
      rcases Nat.lt_or_ge (m + 1).toNat n.toNat with hl | hl
      · have := thr_mono (n.toNat - (m + 1).toNat) (m + 1).toNat (by omega) (by omega)
        rw [show (m + 1).toNat + (n.toNat - (m + 1).toNat) = n.toNat by omega] at this
        omega
      · rw [show (m + 1).toNat = n.toNat by omega]; omega
    omega
  have h1 := key h k
  have h2 := key k h
  omega

theorem levF_lv (e : Int) : ∀ (f : Nat) (k : Int), -1 ≤ k → k ≤ 120 → 120 < k + f → (0 ≤ k → thr k ≤ e) → IsLv e (levF f e k)
  | 0, k, _, h1, h2, _ => by omega
  | f + 1, k, h0, h1, h2, h3 => by
    unfold levF
    cases hc : (decide (k < 120) && decide (thr (k + 1) ≤ e)) with
    | true =>
      simp only [Bool.and_eq_true, decide_eq_true_eq] at hc
      exact levF_lv e f (k + 1) (by omega) (by omega) (by omega) (fun _ => hc.2)
    | false =>
      show IsLv e k
      refine ⟨h0, h1, h3, fun hk => ?_⟩
      simp only [Bool.and_eq_false_iff, decide_eq_false_iff_not] at hc
      rcases hc with hc | hc <;> omega
theorem lev_lv (e : Int) : IsLv e (lev e) := levF_lv e 122 (-1) (by decide) (by decide) (by decide) (fun h => absurd h (by decide))

theorem levB_inv (e : Int) : ∀ (n k : Nat) (b : Int), k + n ≤ 121 → -1 ≤ b → b < k → (0 ≤ b → thr b ≤ e) → (∀ j : Nat, b < j → j < k → e < thr j) →
    (fun m : Int => -1 ≤ m ∧ m < ((k + n : Nat) : Int) ∧ (0 ≤ m → thr m ≤ e) ∧ (∀ j : Nat, m < j → j < k + n → e < thr j)) ((List.range' k n).foldl (fun b (k : Nat) => stepB e (k : Int) b) b)
  | 0, k, b, _, h1, h2, h3, h4 => ⟨h1, by simpa using h2, h3, h4⟩
  | n + 1, k, b, h0, h1, h2, h3, h4 => by
    rw [List.range'_succ, List.foldl_cons]
    unfold stepB
    have hkn : k + (n + 1) = (k + 1) + n := by omega
    rw [hkn]
    cases hc : decide (thr (k : Int) ≤ e) with
    | true =>
      rw [decide_eq_true_eq] at hc
      exact levB_inv e n (k + 1) (k : Int) (by omega) (by omega) (by omega) (fun _ => hc) (fun j j1 j2 => by omega)
    | false =>
      rw [decide_eq_false_iff_not] at hc
      exact levB_inv e n (k + 1) b (by omega) h1 (by omega) h3 (fun j j1 j2 => by
        rcases Nat.lt_or_ge j k with hj | hj
        · exact h4 j j1 hj
        · have : j = k := by omega
          subst this; omega)
theorem levB_lv (e : Int) : IsLv e (levB e) := by
  have := levB_inv e 121 0 (-1) (by omega) (by omega) (by omega) (fun h => absurd h (by decide)) (fun j _ h => absurd h (by omega))
  rw [← List.range_eq_range'] at this
  obtain ⟨h1, h2, h3, h4⟩ := this
  have h1 : -1 ≤ levB e := h1
  have h2 : levB e < 121 := h2
  refine ⟨h1, by omega, h3, fun hk => ?_⟩
  have := h4 (levB e + 1).toNat (by show levB e < _; omega) (by omega)
  rwa [show (((levB e + 1).toNat : Nat) : Int) = levB e + 1 by omega] at this
theorem lev_eq (e : Int) : lev e = levB e := lv_uniq (lev_lv e) (levB_lv e)
theorem levR_eq {e : Int} (h1 : 0 ≤ e) (h2 : e ≤ maxE) : levR e = levB e := by
  have : withinZ e 0 maxE = 0 := by
    unfold withinZ whenZ
    have a1 : ¬ e < 0 := by omega
    have a2 : ¬ e > maxE := by omega
    simp [a1, a2]
  unfold levR
  rw [this]
  exact lev_eq e


theorem dif_eq {a b : Gr} (ca : chkG a = 0) (cb : chkG b = 0) (hl : a.l.length = b.l.length) : difP a b = difR a b := by
  obtain ⟨_, _, _, _, _, va⟩ := chk_len ca
  obtain ⟨_, _, _, _, _, vb⟩ := chk_len cb
  apply List.ext_getElem?
  intro j
  unfold difP difR
  rw [updL_get, List.getElem?_map, List.getElem?_map]
  rcases Nat.lt_or_ge j a.l.length with hj | hj
  · have hjb : j < b.l.length := by omega
    rw [List.getElem?_eq_getElem hjb, List.getElem?_range' hj]
    have ea := va _ (List.getElem_mem hj)
    have eb := vb _ (List.getElem_mem hjb)
    have na : nth a.l j = a.l[j] := by simp [nth, hj]
    have nla : nth (a.l.map lbE) j = lbE a.l[j] := by simp [nth, hj]
    have nlb : nth (b.l.map lbE) j = lbE b.l[j] := by simp [nth, hjb]
    simp only [Option.map_some, Nat.zero_add, Nat.one_mul, Option.some.injEq]
    unfold dfE dfR
    rw [na, nla, nlb]
    show t1 (W (levR (i1 b.l[j]) - levR (i1 a.l[j]))) = t1 (W (levB (i1 b.l[j]) - levB (i1 a.l[j])))
    rw [levR_eq eb.1 eb.2, levR_eq ea.1 ea.2]
  · rw [List.getElem?_eq_none (by omega), List.getElem?_eq_none (by simp; omega)]; rfl
end
end Go.Proofs.YthcpfignhalffaaGreatDoor
