/-
 A part of the proof of the statement that the claim names: see the last file.
-/
import Derived.Test.YthcpfignhalffaaGreatDoorP4
import Derived.Test.YthcpfignhalffaaGreatDoorP8
import Derived.Test.YthcpfignhalffaaGreatDoorPb
namespace Go.Proofs.YthcpfignhalffaaGreatDoor
open Go Go.Am Go.RowKit
set_option maxRecDepth 100000
variable {w0 : World}
noncomputable section
def vTile : Ct := gC 78 [.b boxK] fun g a => .br (smG g && (e78 g (bxT a.1) == 0)) (.leaf (grE (tileG g (bxT a.1), 0))) .bad
theorem gvTile (h0 : Lib0 w0) : Gd (cfg w0) vTile := gd_g fun g a d hd => by
 obtain ⟨⟨c0, c1, r0, r1, _⟩, u⟩ := a
 obtain ⟨hg, hd⟩ := br_run hd
 cases hd
 rw [Bool.and_eq_true, beq_iff_eq] at hg
 have h := fnD_grE (x := tileG g ⟨c0, c1, r0, r1⟩) (fn78 h0 g ⟨c0, c1, r0, r1⟩ hg.1)
 rw [show e78 g ⟨c0, c1, r0, r1⟩ = 0 from hg.2] at h
 exact h
def ovOk (g t : Gr) (x y : Int) : Bool := e79 g t x y == 0 && (!decide (t.w > W (g.w - x)) && !decide (t.h > W (g.h - y)))
def vOver : Ct := g2C 79 [.b ptK] fun g t a => .br (smG g && (smG t && ovOk g t a.1.1 a.1.2.1)) (.br (anyO g t a.1.1 a.1.2.1) (.leaf (grE (g0, 24))) (.leaf (grE (g, 0)))) .bad
theorem gvOver (h0 : Lib0 w0) : Gd (cfg w0) vOver := gd_g2 fun g t a d hd => by
 obtain ⟨⟨x, y, _⟩, u⟩ := a
 obtain ⟨hg, hd⟩ := br_run hd
 simp only [Bool.and_eq_true, beq_iff_eq, ovOk, Bool.not_eq_true'] at hg
 obtain ⟨g1, g2, g3, g4, g5⟩ := hg
 have h := fn79 h0 g t x y g1 g2
 rw [show e79 g t x y = 0 from g3] at h
 have h := fnD_ov h
 unfold ovX at h
 rw [g4, g5] at h
 simp only [cond_false] at h
 show FnD (cfg w0) 79 [gD g, gD t, pD x y] d
 cases ha : anyO g t x y with
 | true =>
   have hd : (FT.br (anyO g t x y) (.leaf (grE (g0, 24))) (.leaf (grE (g, 0)))).run = some d := hd
   rw [ha] at hd h
   cases hd
   exact h
 | false =>
   have hd : (FT.br (anyO g t x y) (.leaf (grE (g0, 24))) (.leaf (grE (g, 0)))).run = some d := hd
   rw [ha] at hd h
   cases hd
   exact h
def vLev : Ct := gC 65 [] fun g _ => .br (smG g && (chkG g == 0)) (.leaf (.tup [.vec intK (g.l.map leE), I 0])) .bad
theorem gvLev (h0 : Lib0 w0) : Gd (cfg w0) vLev := gd_g fun g a d hd => by
 obtain ⟨hg, hd⟩ := br_run hd
 cases hd
 rw [Bool.and_eq_true, beq_iff_eq] at hg
 have h := gd65 h0 [gD g] (.tup [.vec intK (lvsX g).1, I (lvsX g).2]) (by show (FT.br (smG g) (.leaf _) .bad).run = _; rw [hg.1]; rfl)
 unfold lvsX at h
 rw [show (chkG g != 0) = false by rw [hg.2]; rfl] at h
 exact h
def vJoin : Ct := g2C 80 [] fun a b _ => .br (smG a && (smG b && (e80 a b == 0))) (.leaf (grE (joinG a b, 0))) .bad
theorem gvJoin (h0 : Lib0 w0) : Gd (cfg w0) vJoin := gd_g2 fun a b y d hd => by
 obtain ⟨hg, hd⟩ := br_run hd
 cases hd
 simp only [Bool.and_eq_true, beq_iff_eq] at hg
 have h := fnD_grE (x := joinG a b) (fn80 h0 a b ⟨hg.1, hg.2.1⟩)
 rw [show e80 a b = 0 from hg.2.2] at h
 exact h
def vHot : Ct := gC 67 [.c ik] fun g a => .br (smG g && ((chkG g == 0) && (hE g a.1 == 0))) (.leaf (.tup [.vec ptK (((sortH (hotL g)).take (show Int from a.1).toNat).map ptH), I 0])) .bad
theorem gvHot (h0 : Lib0 w0) : Gd (cfg w0) vHot := gd_g fun g a d hd => by
 obtain ⟨n, u⟩ := a
 obtain ⟨hg, hd⟩ := br_run hd
 cases hd
 simp only [Bool.and_eq_true, beq_iff_eq] at hg
 have h := fn67 h0 g n hg.1
 unfold hotX at h
 rw [show (chkG g != 0) = false by rw [hg.2.1]; rfl, show (hE g n != 0) = false by rw [show hE g n = 0 from hg.2.2]; rfl] at h
 exact h
def vPrint : Ct := gC 86 [] fun g _ => .br (smG g && (chkG g == 0)) (.leaf (.tup [St_ (prtG g), I 0])) .bad
theorem gvPrint (h0 : Lib0 w0) : Gd (cfg w0) vPrint := gd_g fun g a d hd => by
 obtain ⟨hg, hd⟩ := br_run hd
 cases hd
 rw [Bool.and_eq_true, beq_iff_eq] at hg
 have h := fn86 h0 g hg.1
 unfold prX at h
 rw [show (chkG g != 0) = false by rw [hg.2]; rfl] at h
 exact h
def vChk : Ct := gC 20 [] fun g _ => .br (smG g && (chkG g == 0)) (.leaf (I 0)) .bad
theorem gvChk (h0 : Lib0 w0) : Gd (cfg w0) vChk := gd_g fun g a d hd => by
 obtain ⟨hg, hd⟩ := br_run hd
 cases hd
 rw [Bool.and_eq_true, beq_iff_eq] at hg
 have h := gd20 h0 [gD g] (I (chkG g)) (by show (FT.br (smG g) (.leaf _) .bad).run = _; rw [hg.1]; rfl)
 rw [hg.2] at h
 exact h
theorem run60 (g : Gr) : bodyK ((cfg w0).at [chkC 20]) 40 (fnOf Tryz.f60) [gD g] = bif few g then bif smG g then some (Bo (chkG g == 0)) else none else some (Bo false) := by cases g; kernel_rfl
def c60 : Ct := gC 60 [] fun g _ => .leaf (Bo (few g && (chkG g == 0)))
theorem few_sm {g : Gr} (h : few g = true) : smG g = true := by
 unfold few at h
 have := of_decide_eq_true h
 exact (Nat.ble_eq ..).mpr (by omega)
theorem gd60 (h0 : Lib0 w0) : Gd (cfg w0) c60 := gd_g fun g a d hd => by
 cases hd
 refine fnD_k (cfg_ok w0) h0 (cs := [chkC 20]) ⟨gd20 h0, trivial⟩ (fd := fnOf Tryz.f60) rfl (n := 40) ((run60 g).trans ?_)
 cases hf : few g with
 | false => rfl
 | true => rw [few_sm hf]; rfl
def cs11 : List Ct := [c60, c14, ownC 16, vTile, vChk, vOver, vLev, c59, ownC 90, vJoin, vHot, hasC 91, c69, vPrint, c87, c93]
theorem cs11_gd (h0 : Lib0 w0) : Gds (cfg w0) cs11 := ⟨gd60 h0, gd14 h0, gd16 h0, gvTile h0, gvChk h0, gvOver h0, gvLev h0, gd59 h0, gd90 h0, gvJoin h0, gvHot h0, gd91 h0, gd69 h0, gvPrint h0, gd87 h0, gd93 h0, trivial⟩
def sqF (id : Nat) : Code → Option Code
 | .seq a b => match Nat.beq (seqId a) id with
   | true => some (.seq a b)
   | false => match sqF id a with
     | some c => some c
     | none => sqF id b
 | .cond _ a b => match sqF id a with
   | some c => some c
   | none => sqF id b
 | .scope b => sqF id b
 | .loop b => sqF id b
 | .block _ b => sqF id b
 | _ => none
def sq11 (id : Nat) : Code := (sqF id (fnOf Tryz.f11).body).getD .skip
abbrev N11 : Nat := (fnOf Tryz.f11).ntmps
def gB (g : Gr) : D := .obox (gcs g)
abbrev uK : List Kd := [.int .u8, .int .u8, .int .u8, .int .u8]
def nB (n : Tup uK) : D := .obox ((toVs uK n).map .val)
def tB (t : Gr) : D := .obox [I t.w, I t.h, .ovec intK t.l]
structure Ev where
 g : Gr
 n : Tup uK
 x : Int
 y : Int
 b : Bx
 t : Gr
def evD' (v : Ev) : List D := [gB v.g, nB v.n, I v.x, I v.y, .obox (bcs v.b), tB v.t]
def evR : List (Nat × Cv) := [(2, .id), (3, .id), (5, .id), (6, .id), (7, .id), (8, .id)]
def relE : List (Nat × Cv) := evR ++ [(4, .id)]
def stE (v : Ev) (b : Bool) : List D := evD' v ++ [Bo b]
abbrev Rw := Option (Obs × X × List D)
def gT (b : Bool) (k : Rw) : Rw := bif b then k else none
def nT (b : Bool) (n k : Rw) : Rw := bif b then n else k
def aT (b : Bool) (y n : Rw) : Rw := bif b then y else n
def cutG (s : ByteArray) : Bool := decide (0 ≤ IntKind.i64.wrap (((s.size : Nat) : Int) - 1)) && decide (IntKind.i64.wrap (((s.size : Nat) : Int) - 1) ≤ ((s.size : Nat) : Int))
def ctS (s : ByteArray) : ByteArray := s.extract 0 (IntKind.i64.wrap (((s.size : Nat) : Int) - 1)).toNat
def uE (g : Gr) (s : ByteArray) (q : P3) (n y : Rw) : Rw :=
 gT (smG g) (gT (smG g && (chkG g == 0)) (nT (q.2.2 != 0) n (nT (q.2.1 != 0) n (gT (smG q.1) (nT (!sameG q.1 g) n (gT (smS s) (nT ((((splC (cU 10) s).length : Nat) : Int) != IntKind.i64.wrap (g.h + 2)) n (gT (cutG s) (aT ((parP (ctS s)).2.2 == 25) (aT ((parP (ctS s)).2.1 == g.h) y n) n)))))))))
theorem runE (v : Ev) : rndD ((cfg w0).at cs11) 60 [] 60 N11 relE (sq11 200051) (stE v false) = uE v.g (prtG v.g) (parP (prtG v.g)) (some ([], .ret, stE v false)) (some ([], .ret, stE v true)) := by
 obtain ⟨⟨w, h, l⟩, n, x, y, ⟨c0, c1, r0, r1⟩, ⟨tw, th, tl⟩⟩ := v
 kernel_rfl
abbrev TP := List (Tup ptK)
abbrev Es := List (El .pt × El .bool)
def relP2 : List (Nat × Cv) := evR ++ [(28, .sv ptK), (30, .id), (301, .sv ptK), (302, .id), (303, .id), (27, .id), (4, .id)]
def stP2 (v : Ev) (hot : TP) (m : Int) (b : Bool) (p : Int × Es) : List D := evD' v ++ [.vec ptK hot, .omap .pt .bool p.2, .vec ptK hot, I hot.length, I p.1, I m, Bo b]
def relP4 : List (Nat × Cv) := evR ++ [(30, .id), (33, .id), (327, .id), (328, .id), (329, .id), (4, .id)]
def stP4 (v : Ev) (es : Es) (m : Int) (b : Bool) (i : Int) : List D := evD' v ++ [.omap .pt .bool es, I m, .vec intK v.g.l, I v.g.l.length, I i, Bo b]
end
end Go.Proofs.YthcpfignhalffaaGreatDoor
namespace Go.Proofs.YthcpfignhalffaaGreatDoor
open Go Go.Am Go.RowKit
set_option maxRecDepth 100000
variable {w0 : World}
noncomputable section
def hx (hot : TP) (i : Int) : Int := (nth hot (i.toNat + 0)).1
def hy (hot : TP) (i : Int) : Int := (nth hot (i.toNat + 0)).2.1
def gtP (x y : Int) (es : Es) : Bool := getT (kk := .pt) (vk := .bool) (x, y) es
def ptP' (x y : Int) (es : Es) : Es := putM (kk := .pt) (vk := .bool) (x, y) true es
def inHt (hot : TP) (i : Int) : Bool := Nat.beq 2 2 && (decide (0 ≤ i) && decide (i < (hot.length : Nat)))
theorem roundP2 (v : Ev) (hot : TP) (m i : Int) (es : Es) : rndD ((cfg w0).at cs11) 60 [] 60 N11 relP2 (lpB 2 (fnOf Tryz.f11).body) (stP2 v hot m false (i, es)) =
  bif decide (i < (hot.length : Nat)) then gT (inHt hot i) (nT (!hasB v.g (hx hot i) (hy hot i)) (some ([], .ret, stP2 v hot m false (i, es))) (nT (gtP (hx hot i) (hy hot i) es) (some ([], .ret, stP2 v hot m false (i, es)))
   (some ([], .normal, stP2 v hot m false (IntKind.i64.wrap (i + 1), ptP' (hx hot i) (hy hot i) es)))))
  else some ([], .exit 2, stP2 v hot m false (i, es)) := by
 obtain ⟨⟨w, h, l⟩, n, x, y, ⟨c0, c1, r0, r1⟩, ⟨tw, th, tl⟩⟩ := v
 kernel_rfl
def enP4 (g : Gr) (i : Int) : Int := (nth g.l (i.toNat + 0)).1
theorem roundP4 (v : Ev) (m i : Int) (es : Es) : rndD ((cfg w0).at cs11) 60 [] 60 N11 relP4 (lpB 4 (fnOf Tryz.f11).body) (stP4 v es m false i) =
  bif decide (i < (v.g.l.length : Nat)) then gT (inO v.g.l i) (bif decide (v.g.w = 0) then none else bif decide (v.g.w = 0) then none else
   (aT (!gtP (i.tmod v.g.w) (IntKind.i64.wrap (i.tdiv v.g.w)) es) (nT (decide (enP4 v.g i > m)) (some ([], .ret, stP4 v es m false i)) (some ([], .normal, stP4 v es m false (IntKind.i64.wrap (i + 1))))) (some ([], .normal, stP4 v es m false (IntKind.i64.wrap (i + 1))))))
  else some ([], .exit 4, stP4 v es m false i) := by
 obtain ⟨⟨w, h, l⟩, n, x, y, ⟨c0, c1, r0, r1⟩, ⟨tw, th, tl⟩⟩ := v
 kernel_rfl
def ldP2 (v : Ev) (hot : TP) (m : Int) (p : Int × Es) : Ld := ldP 2 N11 relP2 .normal (stP2 v hot m false p)
def ldP4 (v : Ev) (es : Es) (m i : Int) : Ld := ldP 4 N11 relP4 .normal (stP4 v es m false i)
def ldE (v : Ev) (b : Bool) : Ld := ldP 200051 N11 relE .ret (stE v b)
def hotS (g : Gr) (m : Int) : TP := ((sortH (hotL g)).take m.toNat).map ptH
def mV (v : Ev) : Int := IntKind.i64.wrap (1 + (IntKind.i64.wrap (show Int from v.n.1)).tmod ((v.g.l.length : Nat) : Int))
def lsV (v : Ev) (m : Int) : Int := ixA v.g (hx (hotS v.g m) (IntKind.i64.wrap (m - 1))) (hy (hotS v.g m) (IntKind.i64.wrap (m - 1)))
def leV (v : Ev) (m : Int) : Int := i1 (nth v.g.l (lsV v m).toNat)
def lq2 : Code := .loop (lpB 2 (fnOf Tryz.f11).body)
def lq4 : Code := .loop (lpB 4 (fnOf Tryz.f11).body)
def obD (v : Ev) (p : Int × Es) (i4 : Int) : Obs := [(ldE v true, sq11 200051, stE v false), (ldP4 v p.2 (leV v (mV v)) i4, lq4, stP4 v p.2 (leV v (mV v)) false 0), (ldP2 v (hotS v.g (mV v)) (mV v) p, lq2, stP2 v (hotS v.g (mV v)) (mV v) false (0, []))]
def uD (v : Ev) (m : Int) (n y : Rw) : Rw :=
 bif decide (((v.g.l.length : Nat) : Int) = 0) then none else gT (smG v.g) (gT (smG v.g && ((chkG v.g == 0) && (hE v.g m == 0))) (nT ((((hotS v.g m).length : Nat) : Int) != m) n (gT (inHt (hotS v.g m) (IntKind.i64.wrap (m - 1))) (gT (inO v.g.l (lsV v m)) y))))
theorem runD (v : Ev) (p : Int × Es) (i4 : Int) : rndD ((cfg w0).at cs11) 60 [ldP2 v (hotS v.g (mV v)) (mV v) p, ldP4 v p.2 (leV v (mV v)) i4, ldE v true] 60 N11 relE (sq11 200032) (stE v false) =
  uD v (mV v) (some ([], .ret, stE v false)) (some (obD v p i4, .ret, stE v true)) := by
 obtain ⟨⟨w, h, l⟩, n, x, y, ⟨c0, c1, r0, r1⟩, ⟨tw, th, tl⟩⟩ := v
 kernel_rfl
end
end Go.Proofs.YthcpfignhalffaaGreatDoor
namespace Go.Proofs.YthcpfignhalffaaGreatDoor
open Go Go.Am Go.RowKit
set_option maxRecDepth 100000
variable {w0 : World}
noncomputable section
def relC : List (Nat × Cv) := evR ++ [(4, .id), (230, .id)]
def stC' (v : Ev) (b c : Bool) : List D := evD' v ++ [Bo b, Bo c]
def blV (v : Ev) : Bx := ⟨0, v.x, 0, v.g.h⟩
def brV (v : Ev) : Bx := ⟨v.x, v.g.w, 0, v.g.h⟩
def lfV (v : Ev) : Gr := tileG v.g (blV v)
def rtV (v : Ev) : Gr := tileG v.g (brV v)
def jnV (v : Ev) : Gr := joinG (lfV v) (rtV v)
def uC (v : Ev) (n y : Rw) : Rw :=
 gT (smG v.g) (gT (smG v.g && (e78 v.g (blV v) == 0)) (gT (smG v.g) (gT (smG v.g && (e78 v.g (brV v) == 0)) (gT (smG (lfV v) && (smG (rtV v) && (e80 (lfV v) (rtV v) == 0))) (gT (smG (jnV v)) (nT (!sameG (jnV v) v.g) n y))))))
theorem runCt (v : Ev) : rndD ((cfg w0).at cs11) 60 [] 60 N11 relC (cdB 230 (fnOf Tryz.f11).body) (stC' v false true) = uC v (some ([], .ret, stC' v false true)) (some ([], .normal, stC' v false true)) := by
 obtain ⟨⟨w, h, l⟩, n, x, y, ⟨c0, c1, r0, r1⟩, ⟨tw, th, tl⟩⟩ := v
 kernel_rfl
theorem runCf (v : Ev) : rndD ((cfg w0).at cs11) 60 [] 60 N11 relC (cdB 230 (fnOf Tryz.f11).body) (stC' v false false) = some ([], .normal, stC' v false false) := by
 obtain ⟨⟨w, h, l⟩, n, x, y, ⟨c0, c1, r0, r1⟩, ⟨tw, th, tl⟩⟩ := v
 kernel_rfl
def ldCd (v : Ev) (c : Bool) : Ld := ldP 100230 N11 relC .normal (stC' v false c)
def ldD (v : Ev) : Ld := ldP 200032 N11 relE .ret (stE v true)
def othE (t : Gr) : Int := (IntKind.i64.wrap (i1 (nth t.l (Int.toNat 0 + 0)) + 1)).tmod 10000000000000
def oth (t : Gr) : Gr := ⟨t.w, t.h, t.l.set (Int.toNat 0 + 0) (t1 (othE t))⟩
def obB (v : Ev) (c : Bool) : Obs := [(ldD v, sq11 200032, stE v false), (ldCd v c, cdB 230 (fnOf Tryz.f11).body, stC' v false (decide (v.x > 0)))]
def uB (v : Ev) (n y : Rw) : Rw :=
 gT (smG v.t) (gT (inO v.t.l 0) (gT (inO v.t.l 0) (gT (smG v.g) (gT (smG (oth v.t)) (gT (smG v.g && (smG (oth v.t) && ovOk v.g (oth v.t) v.x v.y)) (aT (anyO v.g (oth v.t) v.x v.y) y n))))))
theorem runB (v : Ev) (c : Bool) : rndD ((cfg w0).at cs11) 60 [ldCd v c, ldD v] 60 N11 relE (sq11 200019) (stE v false) = uB v (some ([], .ret, stE v false)) (some (obB v c, .ret, stE v true)) := by
 obtain ⟨⟨w, h, l⟩, n, x, y, ⟨c0, c1, r0, r1⟩, ⟨tw, th, tl⟩⟩ := v
 kernel_rfl
def relL : List (Nat × Cv) := evR ++ [(12, .sv intK), (176, .sv intK), (177, .id), (178, .id), (4, .id)]
def stL (v : Ev) (wl pl : TLi) (b : Bool) (i : Int) : List D := evD' v ++ [.vec intK wl, .vec intK pl, I pl.length, I i, Bo b]
def ldBd (v : Ev) : Ld := ldP 200019 N11 relE .ret (stE v true)
def relA : List (Nat × Cv) := [(2, .id), (3, .id), (5, .id), (6, .id), (7, .id), (4, .id)]
def stA (v : Ev) (b : Bool) : List D := [gB v.g, nB v.n, I v.x, I v.y, .obox (bcs v.b), Bo b]
def ixZ (v : Ev) (i : Int) : Int := IntKind.i64.wrap (IntKind.i64.wrap (IntKind.i64.wrap (IntKind.i64.wrap (v.y + IntKind.i64.wrap (i.tdiv v.t.w)) * v.g.w) + v.x) + i.tmod v.t.w)
theorem roundL (v : Ev) (wl pl : TLi) (i : Int) : rndD ((cfg w0).at cs11) 60 [] 60 N11 relL (lpB 0 (fnOf Tryz.f11).body) (stL v wl pl false i) =
  bif decide (i < (pl.length : Nat)) then gT (inO pl i) (bif decide (v.t.w = 0) then none else bif decide (v.t.w = 0) then none else gT (inO wl (ixZ v i)) (nT (i1 (nth pl (i.toNat + 0)) != i1 (nth wl ((ixZ v i).toNat + 0))) (some ([], .ret, stL v wl pl false i))
   (some ([], .normal, stL v wl pl false (IntKind.i64.wrap (i + 1))))))
  else some ([], .exit 0, stL v wl pl false i) := by
 obtain ⟨⟨w, h, l⟩, n, x, y, ⟨c0, c1, r0, r1⟩, ⟨tw, th, tl⟩⟩ := v
 kernel_rfl
def tV (v : Ev) : Ev := ⟨v.g, v.n, v.x, v.y, v.b, tileG v.g v.b⟩
def ldLL (v : Ev) (i : Int) : Ld := ldP 0 N11 relL .normal (stL v (v.g.l.map leE) (v.t.l.map leE) false i)
def lq0 : Code := .loop (lpB 0 (fnOf Tryz.f11).body)
def obA (v : Ev) (i : Int) : Obs := [(ldBd (tV v), sq11 200019, stE (tV v) false), (ldLL (tV v) i, lq0, stL (tV v) ((tV v).g.l.map leE) ((tV v).t.l.map leE) false 0)]
def lvG (g t : Gr) (k : Rw) : Rw := gT (smG g) (gT (smG g && (chkG g == 0)) (gT (smG t) (gT (smG t && (chkG t == 0)) k)))
def lnB (l : TLi) : Bool := (((l.map leE).length : Nat) : Int) != ((l.length : Nat) : Int)
def uA (v : Ev) (t : Gr) (n y : Rw) : Rw :=
 gT (smG v.g) (gT (smG v.g && (e78 v.g v.b == 0)) (gT (smG t && (chkG t == 0)) (nT (t.w != IntKind.i64.wrap (v.b.c1 - v.x)) n (nT (t.h != IntKind.i64.wrap (v.b.r1 - v.y)) n (gT (smG v.g) (gT (smG t) (gT (smG v.g && (smG t && ovOk v.g t v.x v.y))
  (bif anyO v.g t v.x v.y then lvG v.g t n else lvG v.g t (gT (smG v.g) (nT (!sameG v.g v.g) n (nT (lnB v.g.l) n (nT (lnB t.l) n y))))))))))))
theorem runA (v : Ev) (i : Int) : rndD ((cfg w0).at cs11) 60 [ldLL (tV v) i, ldBd (tV v)] 60 N11 relA (sq11 200005) (stA v false) = uA v (tileG v.g v.b) (some ([], .ret, stA v false)) (some (obA v i, .ret, stA v true)) := by
 obtain ⟨⟨w, h, l⟩, n, x, y, ⟨c0, c1, r0, r1⟩, ⟨tw, th, tl⟩⟩ := v
 kernel_rfl
end
end Go.Proofs.YthcpfignhalffaaGreatDoor
namespace Go.Proofs.YthcpfignhalffaaGreatDoor
open Go Go.Am Go.RowKit
set_option maxRecDepth 100000
variable {w0 : World}
noncomputable section
def n0 (n : Tup uK) : Int := IntKind.i64.wrap (show Int from n.1)
def n1 (n : Tup uK) : Int := IntKind.i64.wrap (show Int from n.2.1)
def n2 (n : Tup uK) : Int := IntKind.i64.wrap (show Int from n.2.2.1)
def n3 (n : Tup uK) : Int := IntKind.i64.wrap (show Int from n.2.2.2.1)
def xV (g : Gr) (n : Tup uK) : Int := (n0 n).tmod g.w
def yV (g : Gr) (n : Tup uK) : Int := (n1 n).tmod g.h
def xE (g : Gr) (n : Tup uK) : Int := IntKind.i64.wrap (g.w - xV g n)
def yE (g : Gr) (n : Tup uK) : Int := IntKind.i64.wrap (g.h - yV g n)
def bV (g : Gr) (n : Tup uK) : Bx := ⟨xV g n, IntKind.i64.wrap (IntKind.i64.wrap (xV g n + 1) + (n2 n).tmod (xE g n)), yV g n, IntKind.i64.wrap (IntKind.i64.wrap (yV g n + 1) + (n3 n).tmod (yE g n))⟩
def vV (g : Gr) (n : Tup uK) : Ev := ⟨g, n, xV g n, yV g n, bV g n, g0⟩
def ldAd (v : Ev) : Ld := ldP 200005 N11 relA .ret (stA v true)
end
end Go.Proofs.YthcpfignhalffaaGreatDoor
