/-
 A part of the proof of the statement that the claim names: see the last file.
-/
import Derived.Test.YthcpfignhalffaaGreatDoorC5
namespace Go.Proofs.YthcpfignhalffaaGreatDoor
open Go Go.Am
set_option maxRecDepth 100000
variable {w0 : World}
noncomputable section
abbrev nilD : D := .val (.slice none 0 0)
def fullZ (a b n : Int) : Int := whenZ (decide (a < 0) || (decide (a ≥ b) || decide (b > n))) 14
def fullC (g : Nat) : Ct := ct g [.b ptK, .c ik] fun a => .leaf (I (fullZ a.1.1 a.1.2.1 a.2.1))
theorem full_u (a b n : Int) : (bif decide (a < 0) then some (I (whenZ true 14)) else bif decide (a ≥ b) then some (I (whenZ true 14)) else some (I (whenZ (decide (b > n)) 14))) = some (I (fullZ a b n)) := by
 unfold fullZ whenZ
 cases decide (a < 0) <;> cases decide (a ≥ b) <;> cases decide (b > n) <;> rfl
theorem gd149 (h0 : Lib0 w0) : Gd (cfg w0) (fullC 149) := gd_k h0 (cs := [whenC 132]) ⟨gd132 h0, trivial⟩ (fd := fnOf Tryz.f149) rfl (n := 40) fun a d hd => by
 obtain ⟨⟨a, b, _⟩, n, u⟩ := a; cases hd
 have key : ∀ a b n : Int, bodyK ((cfg w0).at [whenC 132]) 40 (fnOf Tryz.f149) [.agg [I a, I b], I n] = bif decide (a < 0) then some (I (whenZ true 14)) else bif decide (a ≥ b) then some (I (whenZ true 14)) else some (I (whenZ (decide (b > n)) 14)) := fun a b n => by kernel_rfl
 exact (key a b n).trans (full_u a b n)
def hasB (g : Gr) (x y : Int) : Bool := decide (x ≥ 0) && (decide (y ≥ 0) && (decide (x < g.w) && decide (y < g.h)))
def hasC (g : Nat) : Ct := gC g [.b ptK] fun b a => .leaf (Bo (hasB b a.1.1 a.1.2.1))
theorem gd129 (h0 : Lib0 w0) : Gd (cfg w0) (hasC 129) := gd_g fun b a d hd => by
 obtain ⟨⟨x, y, _⟩, u⟩ := a; cases hd
 have key : ∀ (g : Gr) (x y : Int), bodyK ((cfg w0).at []) 40 (fnOf Tryz.f129) [gD g, .agg [I x, I y]] = bif decide (x ≥ 0) then bif decide (y ≥ 0) then bif decide (x < g.w) then some (Bo (decide (y < g.h))) else some (Bo false) else some (Bo false) else some (Bo false) := fun g x y => by cases g; kernel_rfl
 refine fnD_k (cfg_ok w0) h0 (cs := []) trivial (fd := fnOf Tryz.f129) rfl (n := 40) ((key b x y).trans ?_)
 show _ = some (Bo (hasB b x y))
 unfold hasB
 cases decide ((show Int from x) ≥ 0) <;> cases decide ((show Int from y) ≥ 0) <;> cases decide ((show Int from x) < b.w) <;> rfl
theorem gd91 (h0 : Lib0 w0) : Gd (cfg w0) (hasC 91) := gd_g fun b a d hd => by
 obtain ⟨⟨x, y, _⟩, u⟩ := a; cases hd
 have key : ∀ (g : Gr) (x y : Int), bodyK ((cfg w0).at []) 40 (fnOf Tryz.f91) [gD g, .agg [I x, I y]] = bif decide (x ≥ 0) then bif decide (x < g.w) then bif decide (y ≥ 0) then some (Bo (decide (y < g.h))) else some (Bo false) else some (Bo false) else some (Bo false) := fun g x y => by cases g; kernel_rfl
 refine fnD_k (cfg_ok w0) h0 (cs := []) trivial (fd := fnOf Tryz.f91) rfl (n := 40) ((key b x y).trans ?_)
 show _ = some (Bo (hasB b x y))
 unfold hasB
 cases decide ((show Int from x) ≥ 0) <;> cases decide ((show Int from y) ≥ 0) <;> cases decide ((show Int from x) < b.w) <;> rfl
def updL (g : Nat → Tup intK → Tup intK) : Nat → List (Tup intK) → List (Tup intK)
 | _, [] => []
 | k, b :: bs => g k b :: updL g (k + 1) bs
def dfE (l : List (Tup intK)) (j : Nat) (x : Tup intK) : Tup intK := t1 (W (i1 x - levR (i1 (nth l j))))
def sizeB (a b : Gr) : Bool := a.w == b.w && (a.h == b.h && true)
def e62 (a b : Gr) : Int := firstZ [chkG a, chkG b, whenZ (!sizeB a b) 2]
def difP (a b : Gr) : List (Tup intK) := updL (dfE a.l) 0 (b.l.map leE)
theorem chk_len {g : Gr} (h : chkG g = 0) : (g.l.length : Int) = W (g.w * g.h) ∧ 1 ≤ g.w ∧ g.w ≤ 16 ∧ 1 ≤ g.h ∧ g.h ≤ 16 ∧ ∀ x ∈ g.l, 0 ≤ i1 x ∧ i1 x ≤ maxE := by
 have wz : ∀ n lo hi : Int, withinZ n lo hi = 0 → lo ≤ n ∧ n ≤ hi := fun n lo hi h => by
  unfold withinZ whenZ at h
  by_cases h1 : n < lo
  ·simp [h1] at h
  ·by_cases h2 : n > hi
   ·simp [h2] at h
   ·omega
 have fz : ∀ l : List Int, firstZ l = 0 → ∀ e ∈ l, e = 0 := fun l => by
  induction l with
  | nil => intro _ e he; cases he
  | cons x xs ih =>
    intro hf e he
    unfold firstZ at hf
    cases hx : (x != 0) with
    | true => rw [hx] at hf; simp only [cond_true] at hf; rw [hf] at hx; cases hx
    | false =>
      rw [hx] at hf
      rcases List.mem_cons.1 he with rfl | he
      ·simpa using hx
      ·exact ih hf e he
 rw [chk_alt] at h
 cases he : (e0G g != 0) with
 | true => rw [he] at h; simp only [cond_true] at h; rw [h] at he; cases he
 | false =>
   rw [he] at h
   simp only [cond_false] at h
   have h0 := fz _ (show e0G g = 0 by simpa using he)
   have hw := wz _ _ _ (h0 (withinZ g.w 1 16) (by simp))
   have hh := wz _ _ _ (h0 (withinZ g.h 1 16) (by simp))
   cases hs : ((g.l.length : Int) != W (g.w * g.h)) with
   | true => rw [hs] at h; cases h
   | false =>
     rw [hs] at h
     simp only [cond_false] at h
     exact ⟨by simpa using hs, hw.1, hw.2, hh.1, hh.2, fun x hx => wz _ _ _ (fz _ h (enZ x) (List.mem_map_of_mem hx))⟩
end
end Go.Proofs.YthcpfignhalffaaGreatDoor
namespace Go.Proofs.YthcpfignhalffaaGreatDoor
open Go Go.Am
set_option maxRecDepth 100000
variable {w0 : World}
noncomputable section
def g2C (g : Nat) (ss : List Sh) (F : Gr → Gr → ArgT ss → FT D) : Ct := gC g (.x :: ss) fun a y => match asG y.1 with
 | some b => F a b y.2
 | none => .bad
theorem gd_g2 {g : Nat} {ss : List Sh} {F : Gr → Gr → ArgT ss → FT D} (h : ∀ a b y d, (F a b y).run = some d → FnD (cfg w0) g (gD a :: gD b :: toShs ss y) d) : Gd (cfg w0) (g2C g ss F) := gd_g fun a y d hd => by
 obtain ⟨x, y⟩ := y
 simp only at hd
 cases hb : asG x with
 | none => rw [hb] at hd; cases hd
 | some b =>
   rw [hb] at hd
   cases asG_eq hb
   exact h a b y d hd
def cs78 : List Ct := [chkC 73, firstC 99, fullC 149]
theorem cs78_gd (h0 : Lib0 w0) : Gds (cfg w0) cs78 := ⟨gd73 h0, gd99 h0, gd149 h0, trivial⟩
structure Bx where
 c0 : Int
 c1 : Int
 r0 : Int
 r1 : Int
def bcs (b : Bx) : List D := [I b.c0, I b.c1, I b.r0, I b.r1]
def rel78 : List (Nat × Cv) := [(2, .id), (3, .id), (7, .id), (8, .id), (4, .id)]
def oD : Option (List (Tup intK)) → D
 | some l => .ovec intK l
 | none => nilD
def st78 (g : Gr) (b : Bx) (p : Int × Option (List (Tup intK))) : List D := [.obox (gcs g), .obox (bcs b), .obox [I (W (b.c1 - b.c0)), I (W (b.r1 - b.r0)), oD p.2], I p.1, .obox [I 0, I 0, nilD]]
def loI' (g : Gr) (c y : Int) : Int := W (W (y * g.w) + c)
def rowI (g : Gr) (b : Bx) (y : Int) : List (Tup intK) := (g.l.drop (0 + (loI' g b.c0 y).toNat)).take ((loI' g b.c1 y).toNat - (loI' g b.c0 y).toNat)
def inR (g : Gr) (b : Bx) (y : Int) : Bool := decide (0 ≤ loI' g b.c0 y) && (decide (loI' g b.c0 y ≤ loI' g b.c1 y) && decide (loI' g b.c1 y ≤ g.l.length))
def roomB (l : List (Tup intK)) : Bool := Nat.ble (l.length * 8) 1000000000000 && Nat.ble l.length 1000000000000
theorem round78n (g : Gr) (b : Bx) (y : Int) : rndD ((cfg w0).at cs78) 40 [] 40 (fnOf Tryz.f78).ntmps rel78 (lpB 0 (fnOf Tryz.f78).body) (st78 g b (y, none)) =
  bif decide (y < b.r1) then
   bif inR g b y then
    bif roomB (rowI g b y) then some ([], .normal, st78 g b (W (y + 1), some (rowI g b y))) else none
   else none
  else some ([], .exit 0, st78 g b (y, none)) := by cases g; cases b; kernel_rfl
theorem round78s (g : Gr) (b : Bx) (y : Int) (out : List (Tup intK)) : rndD ((cfg w0).at cs78) 40 [] 40 (fnOf Tryz.f78).ntmps rel78 (lpB 0 (fnOf Tryz.f78).body) (st78 g b (y, some out)) =
  bif decide (y < b.r1) then
   bif inR g b y then
    bif roomB (out ++ rowI g b y) then some ([], .normal, st78 g b (W (y + 1), some (out ++ rowI g b y))) else none
   else none
  else some ([], .exit 0, st78 g b (y, some out)) := by cases g; cases b; kernel_rfl
def e78 (g : Gr) (b : Bx) : Int := firstZ [chkG g, fullZ b.c0 b.c1 g.w, fullZ b.r0 b.r1 g.h]
def bD (b : Bx) : D := .agg (bcs b)
theorem body78 (g : Gr) (b : Bx) (y : Int) (out : List (Tup intK)) : bodyT ((cfg w0).at cs78) 40 [ldP 0 (fnOf Tryz.f78).ntmps rel78 .normal (st78 g b (y, some out))] 40 (fnOf Tryz.f78) [gD g, bD b] =
  bif smG g then
   bif e78 g b != 0 then some ([], .tup [.agg [I 0, I 0, nilD], I (e78 g b)]) else
    some ([(ldP 0 (fnOf Tryz.f78).ntmps rel78 .normal (st78 g b (y, some out)), .loop (lpB 0 (fnOf Tryz.f78).body), st78 g b (b.r0, none))], .tup [.agg [I (W (b.c1 - b.c0)), I (W (b.r1 - b.r0)), .vec intK out], I 0])
  else none := by cases g; cases b; kernel_rfl
end
end Go.Proofs.YthcpfignhalffaaGreatDoor
namespace Go.Proofs.YthcpfignhalffaaGreatDoor
open Go Go.Am
set_option maxRecDepth 100000
variable {w0 : World}
noncomputable section
structure BoxOK (g : Gr) (b : Bx) : Prop where
 chk : chkG g = 0
 c0 : 0 ≤ b.c0
 c1 : b.c0 < b.c1
 cw : b.c1 ≤ g.w
 r0 : 0 ≤ b.r0
 r1 : b.r0 < b.r1
 rh : b.r1 ≤ g.h
 w16 : g.w ≤ 16
 h16 : g.h ≤ 16
 len : (g.l.length : Int) = g.h * g.w
theorem firstZ_zero : ∀ {l : List Int}, firstZ l = 0 → ∀ e ∈ l, e = 0
 | [], _, e, he => by cases he
 | x :: xs, hf, e, he => by
   unfold firstZ at hf
   cases hx : (x != 0) with
   | true => rw [hx] at hf; simp only [cond_true] at hf; rw [hf] at hx; cases hx
   | false =>
     rw [hx] at hf
     rcases List.mem_cons.1 he with rfl | he
     ·simpa using hx
     ·exact firstZ_zero hf e he
theorem full_zero {a b n : Int} (h : fullZ a b n = 0) : 0 ≤ a ∧ a < b ∧ b ≤ n := by
 unfold fullZ whenZ at h
 by_cases h1 : a < 0
 ·simp [h1] at h
 ·by_cases h2 : a ≥ b
  ·simp [h2] at h
  ·by_cases h3 : b > n
   ·simp [h3] at h
   ·omega
theorem mul_bound {a b : Int} (h1 : 0 ≤ a) (h2 : a ≤ 16) (h3 : 0 ≤ b) (h4 : b ≤ 16) : 0 ≤ a * b ∧ a * b ≤ 256 :=
 ⟨Int.mul_nonneg h1 h3, Int.le_trans (Int.mul_le_mul_of_nonneg_right h2 h3) (by omega)⟩
theorem chk_mul {g : Gr} (h : chkG g = 0) : (g.l.length : Int) = g.h * g.w := by
 obtain ⟨h1, h2, h3, h4, h5, _⟩ := chk_len h
 have := mul_bound (a := g.w) (b := g.h) (by omega) h3 (by omega) h5
 rw [h1, W_in (by omega), Int.mul_comm]
theorem box_ok {g : Gr} {b : Bx} (h : e78 g b = 0) : BoxOK g b := by
 have hz := firstZ_zero h
 have h1 := hz (chkG g) (by simp)
 have h2 := full_zero (hz (fullZ b.c0 b.c1 g.w) (by simp))
 have h3 := full_zero (hz (fullZ b.r0 b.r1 g.h) (by simp))
 obtain ⟨_, _, k3, _, k5, _⟩ := chk_len h1
 exact ⟨h1, h2.1, h2.2.1, h2.2.2, h3.1, h3.2.1, h3.2.2, k3, k5, chk_mul h1⟩
theorem BoxOK.lo {g : Gr} {b : Bx} (k : BoxOK g b) {y c : Int} (h1 : b.r0 ≤ y) (h2 : y < b.r1) (h3 : 0 ≤ c) (h4 : c ≤ g.w) : loI' g c y = y * g.w + c ∧ 0 ≤ y * g.w ∧ y * g.w + c ≤ g.l.length := by
 obtain ⟨_, a1, a2, a3, a4, a5, a6, a7, a8, a9⟩ := k
 have hy := mul_bound (a := y) (b := g.w) (by omega) (by omega) (by omega) a7
 have hs : (y + 1) * g.w ≤ g.h * g.w := Int.mul_le_mul_of_nonneg_right (by omega) (by omega)
 rw [Int.add_mul, Int.one_mul] at hs
 refine ⟨?_, hy.1, by rw [a9]; omega⟩
 unfold loI'
 rw [W_in (n := y * g.w) (by omega), W_in (by omega)]
theorem BoxOK.inr {g : Gr} {b : Bx} (k : BoxOK g b) {y : Int} (h1 : b.r0 ≤ y) (h2 : y < b.r1) : inR g b y = true := by
 obtain ⟨e0, p0, _⟩ := k.lo h1 h2 k.c0 (by have := k.c1; have := k.cw; omega)
 obtain ⟨e1, _, q1⟩ := k.lo h1 h2 (c := b.c1) (by have := k.c0; have := k.c1; omega) k.cw
 unfold inR
 rw [e0, e1]
 have := k.c0; have := k.c1
 simp only [Bool.and_eq_true, decide_eq_true_eq]
 omega
theorem roomB_of {l : List (Tup intK)} (h : l.length ≤ 100000000) : roomB l = true := by
 unfold roomB
 simp only [Bool.and_eq_true, Nat.ble_eq]
 omega
def gO (o : Option (List (Tup intK))) : List (Tup intK) := o.getD []
def next78 (g : Gr) (b : Bx) (p : Int × Option (List (Tup intK))) : X × (Int × Option (List (Tup intK))) :=
 bif decide (p.1 < b.r1) then (.normal, (p.1 + 1, some (gO p.2 ++ rowI g b p.1))) else (.exit 0, p)
def rowsO (g : Gr) (b : Bx) : Nat → Int → Option (List (Tup intK)) → Option (List (Tup intK))
 | 0, _, o => o
 | n + 1, y, o => rowsO g b n (y + 1) (some (gO o ++ rowI g b y))
theorem iter78 (g : Gr) (b : Bx) : ∀ (n : Nat) (y : Int) (o : Option (List (Tup intK))), y + n = b.r1 → iterN (next78 g b) (n + 1) (y, o) = some (.exit 0, (b.r1, rowsO g b n y o))
 | 0, y, o, h => by
   have hy : decide (y < b.r1) = false := by simp; omega
   unfold iterN rowsO
   simp only [next78, hy, cond_false]
   rw [show y = b.r1 by omega]
 | n + 1, y, o, h => by
   have hy : decide (y < b.r1) = true := by simp; omega
   unfold iterN rowsO
   simp only [next78, hy, cond_true]
   exact iter78 g b n (y + 1) _ (by omega)
def rowsF (g : Gr) (b : Bx) : Nat → Int → List (Tup intK)
 | 0, _ => []
 | n + 1, y => rowI g b y ++ rowsF g b n (y + 1)
theorem rowsO_F (g : Gr) (b : Bx) : ∀ (n : Nat) (y : Int) (o : Option (List (Tup intK))), (0 < n ∨ o ≠ none) → rowsO g b n y o = some (gO o ++ rowsF g b n y)
 | 0, y, o, h => by
   cases o with
   | none => simp at h
   | some l => simp [rowsO, rowsF, gO]
 | n + 1, y, o, _ => by
   unfold rowsO rowsF
   rw [rowsO_F g b n (y + 1) _ (.inr (by simp))]
   simp [gO, List.append_assoc]
def tileL (g : Gr) (b : Bx) : List (Tup intK) := rowsF g b (b.r1 - b.r0).toNat b.r0
def tileD (g : Gr) (b : Bx) : D := .agg [I (W (b.c1 - b.c0)), I (W (b.r1 - b.r0)), .vec intK (tileL g b)]
def nilG : D := .agg [I 0, I 0, nilD]
theorem row_len (g : Gr) (b : Bx) (y : Int) : (rowI g b y).length ≤ g.l.length := by
 unfold rowI
 rw [List.length_take, List.length_drop]
 omega
theorem fn78 (h0 : Lib0 w0) (g : Gr) (b : Bx) (hg : smG g = true) : FnD (cfg w0) 78 [gD g, bD b] (bif e78 g b != 0 then .tup [nilG, I (e78 g b)] else .tup [tileD g b, I 0]) := by
 cases he : (e78 g b != 0) with
 | true =>
   refine fnD_t (cfg_ok w0) h0 (cs78_gd h0) (fd := fnOf Tryz.f78) rfl (L := [ldP 0 (fnOf Tryz.f78).ntmps rel78 .normal (st78 g b (0, some []))]) (o := []) ((body78 g b 0 []).trans ?_) trivial
   rw [hg, he]; rfl
 | false =>
   have k := box_ok (show e78 g b = 0 by simpa using he)
   have hl : g.l.length ≤ 100000 := Nat.le_of_ble_eq_true hg
   have hn : (0 : Nat) < (b.r1 - b.r0).toNat := by have := k.r1; omega
   have hr0 := k.r0; have hr1 := k.r1; have hrh := k.rh; have hh := k.h16
   have hit := iter78 g b (b.r1 - b.r0).toNat b.r0 none (by omega)
   rw [rowsO_F g b _ _ _ (.inl hn)] at hit
   have hld := ldT_iter (at_ok (cfg_ok w0) cs78) (at_sp h0 (cs78_gd h0)) (N := (fnOf Tryz.f78).ntmps) (rel := rel78) (B := lpB 0 (fnOf Tryz.f78).body) (id := 0) (st78 g b) (next78 g b) (fun p => b.r0 ≤ p.1 ∧ p.1 ≤ b.r1 ∧ (gO p.2).length ≤ 100000 * (p.1 - b.r0).toNat)
    (fun p ⟨h1, h2, h3⟩ => .leaf (by
     obtain ⟨y, o⟩ := p
     simp only at h1 h2 h3
     have hrl := row_len g b y
     unfold next78
     cases hk : decide (y < b.r1) with
     | false =>
       cases o with
       | none => rw [round78n, hk]; rfl
       | some l => rw [round78s, hk]; rfl
     | true =>
       rw [decide_eq_true_eq] at hk
       cases o with
       | none =>
         rw [round78n, k.inr h1 hk, W_in (by omega), roomB_of (by omega)]
         simp only [hk, decide_true]
         rfl
       | some l =>
         have hl3 : l.length ≤ 100000 * (y - b.r0).toNat := h3
         rw [round78s, k.inr h1 hk, W_in (by omega), roomB_of (by rw [List.length_append]; omega)]
         simp only [hk, decide_true]
         rfl)) (fun p q ⟨h1, h2, h3⟩ hb => by
     obtain ⟨y, o⟩ := p
     simp only at h1 h2 h3
     have hrl := row_len g b y
     unfold next78 at hb
     cases hk : decide (y < b.r1) with
     | false => simp [hk] at hb
     | true =>
       simp only [hk, cond_true, Prod.mk.injEq, true_and] at hb
       rw [decide_eq_true_eq] at hk
       subst hb
       refine ⟨by show b.r0 ≤ y + 1; omega, by show y + 1 ≤ b.r1; omega, ?_⟩
       show (gO o ++ rowI g b y).length ≤ 100000 * (y + 1 - b.r0).toNat
       rw [List.length_append]
       omega) (a0 := (b.r0, none)) (x := .exit 0) ⟨by show b.r0 ≤ b.r0; omega, by show b.r0 ≤ b.r1; omega, by simp [gO]⟩ hit
   refine fnD_lp (n := 40) (m := 40) (cfg_ok w0) h0 (cs78_gd h0) (fd := fnOf Tryz.f78) rfl ?_ hld
   refine (body78 g b _ _).trans ?_
   rw [hg, he]
   rfl
def boxK : List Kd := [ik, ik, ik, ik]
def bxT (t : Tup boxK) : Bx := ⟨t.1, t.2.1, t.2.2.1, t.2.2.2.1⟩
end
end Go.Proofs.YthcpfignhalffaaGreatDoor
namespace Go.Proofs.YthcpfignhalffaaGreatDoor
open Go Go.Am
set_option maxRecDepth 100000
variable {w0 : World}
noncomputable section
def cellI (g : Gr) (y x : Int) : Tup intK := nth g.l ((loI' g x y).toNat + 0)
def rowR (g : Gr) (y : Int) : Nat → Int → List (Tup intK)
 | 0, _ => []
 | n + 1, x => cellI g y x :: rowR g y n (x + 1)
def rowB (g : Gr) (b : Bx) (y : Int) : List (Tup intK) := rowR g y (b.c1 - b.c0).toNat b.c0
def rowsR (g : Gr) (b : Bx) : Nat → Int → List (Tup intK)
 | 0, _ => []
 | n + 1, y => rowB g b y ++ rowsR g b n (y + 1)
theorem drop_take {k : Nat} : ∀ (n : Nat) (l : List (Tup intK)), k + n ≤ l.length → (l.drop k).take n = (List.range' k n).map (nth l) := fun n l h => by
 apply List.ext_getElem?
 intro j
 rw [List.getElem?_take]
 by_cases hj : j < n
 ·rw [if_pos hj, List.getElem?_drop, List.getElem?_map, List.getElem?_range' hj]
  simp only [Option.map_some, Nat.one_mul, nth, List.getD_eq_getElem?_getD]
  rw [List.getElem?_eq_getElem (by omega)]
  simp
 ·rw [if_neg hj, List.getElem?_eq_none (by simp; omega)]
theorem BoxOK.row {g : Gr} {b : Bx} (k : BoxOK g b) {y : Int} (h1 : b.r0 ≤ y) (h2 : y < b.r1) : rowB g b y = rowI g b y := by
 have hc0 := k.c0; have hc1 := k.c1; have hcw := k.cw
 obtain ⟨e0, p0, _⟩ := k.lo h1 h2 hc0 (by omega)
 obtain ⟨e1, _, q1⟩ := k.lo h1 h2 (c := b.c1) (by omega) k.cw
 unfold rowI rowB
 rw [e0, e1]
 have hk : (y * g.w + b.c1).toNat - (y * g.w + b.c0).toNat = (b.c1 - b.c0).toNat := by omega
 rw [hk, Nat.zero_add, drop_take _ _ (by omega)]
 have key : ∀ (n : Nat) (x : Int), 0 ≤ x → x + n ≤ g.w → rowR g y n x = (List.range' (y * g.w + x).toNat n).map (nth g.l) := fun n => by
  induction n with
  | zero => intro x _ _; rfl
  | succ n ih =>
    intro x hx0 hx1
    obtain ⟨ex, _, _⟩ := k.lo h1 h2 (c := x) hx0 (by omega)
    unfold rowR
    rw [List.range'_succ, List.map_cons, ih (x + 1) (by omega) (by omega)]
    unfold cellI
    rw [ex, show (y * g.w + (x + 1)).toNat = (y * g.w + x).toNat + 1 by omega]
    rfl
 exact key _ _ hc0 (by omega)
theorem BoxOK.rows {g : Gr} {b : Bx} (k : BoxOK g b) : ∀ (n : Nat) (y : Int), b.r0 ≤ y → y + n = b.r1 → rowsR g b n y = rowsF g b n y
 | 0, _, _, _ => rfl
 | n + 1, y, h1, h2 => by
   unfold rowsR rowsF
   rw [k.row h1 (by omega), k.rows n (y + 1) (by omega) (by omega)]
end
end Go.Proofs.YthcpfignhalffaaGreatDoor
