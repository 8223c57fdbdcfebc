/-
  A part of the proof of the statement that the claim names: see the last file.
-/
import Derived.Test.YthcpfignhalffaaGreatDoorP7
import Derived.Test.YthcpfignhalffaaGreatDoorP4
namespace Go.Proofs.YthcpfignhalffaaGreatDoor
open Go Go.Am
set_option maxRecDepth 100000
variable {w0 : World}
noncomputable section


def hasI (l : List (Tup intK)) (x : Int) : Bool := l.any fun y => i1 y == x
def st146 (l : List (Tup intK)) (x : Int) (p : Int × Bool) : List D := [.vec intK l, I x, I p.1, Bo p.2]
def rel146 : List (Nat × Cv) := [(0, .id), (1, .id), (5, .id), (4, .id)]
theorem round146 (l : List (Tup intK)) (x j : Int) (b : Bool) : rndD ((cfg w0).at []) 40 [] 40 (fnOf Tryz.f146).ntmps rel146 (lpB 0 (fnOf Tryz.f146).body) (st146 l x (j, b)) =
    bif decide (j < l.length) then bif inO l j then bif i1 (nth l j.toNat) == x then some ([], .ret, st146 l x (j, true)) else some ([], .normal, st146 l x (W (j + 1), b)) else none
    else some ([], .exit 0, st146 l x (j, b)) := by kernel_rfl
theorem body146 (l : List (Tup intK)) (x : Int) (y : X) (p : Int × Bool) (hy : y = .ret ∨ y = .normal) : bodyT ((cfg w0).at []) 40 [ldP 0 (fnOf Tryz.f146).ntmps rel146 y (st146 l x p)] 40 (fnOf Tryz.f146) [.vec intK l, I x] =
    some ([(ldP 0 (fnOf Tryz.f146).ntmps rel146 y (st146 l x p), .loop (lpB 0 (fnOf Tryz.f146).body), st146 l x (0, false))], onX y (Bo p.2) (Bo false)) := by rcases hy with rfl | rfl <;> kernel_rfl
theorem fn146 (h0 : Lib0 w0) (l : List (Tup intK)) (x : Int) (hl : l.length ≤ 100000) : FnD (cfg w0) 146 [.vec intK l, I x] (Bo (hasI l x)) := by
  refine fn_ls h0 (cs := []) trivial (fd := fnOf Tryz.f146) rfl rel146 l (by omega) (st146 l x) (fun y a => bif i1 y == x then (X.ret, true) else (.normal, a)) (fun _ _ => True) (a0 := false) trivial
    (fun j a hj _ => .leaf (by
      rw [round146, inO_nat hj, lt_t hj, Int.toNat_natCast]
      cases (i1 (nth l j) == x) <;> rfl)) (fun _ _ _ _ _ _ => trivial)
    (fun a _ => .leaf (by rw [round146, ge_f]; rfl)) fun y p hx => ?_
  obtain ⟨q, hq⟩ := lsRun_any (id := 0) (p := fun y => i1 y == x) (c := true) l 0 false
  rw [hq] at hx
  unfold hasI
  cases hf : (l.any fun y => i1 y == x) <;> rw [hf] at hx <;> cases hx
  · exact body146 l x _ _ (.inr rfl)
  · exact body146 l x _ _ (.inl rfl)
def c146 : Ct := ct 146 [.v intK, .c ik] fun a => .br (Nat.ble (a.1 : List (Tup intK)).length 100000) (.leaf (Bo (hasI a.1 a.2.1))) .bad
theorem gd146 (h0 : Lib0 w0) : Gd (cfg w0) c146 := gd_sig fun a d hd => by
  obtain ⟨hg, hd⟩ := br_run hd
  cases hd
  exact fn146 h0 a.1 a.2.1 (Nat.le_of_ble_eq_true hg)

def stepM (g : Gr) (u : List (Tup intK)) (k : Nat) (b : Int) : Int :=
  bif !hasI u (k : Int) then bif b == -1 then (k : Int) else bif decide (i1 (nth g.l k) > i1 (nth g.l b.toNat)) then (k : Int) else b else b
def bestR (g : Gr) (u : List (Tup intK)) : Int := (List.range' 0 g.l.length).foldl (fun b k => stepM g u k b) (-1)
def rel72i : List (Nat × Cv) := [(2, .id), (5, .ov intK), (8, .id), (7, .id), (1, .id), (6, .ov ptK)]
def st72i (g : Gr) (n : Int) (s : List (Tup intK) × List (Tup ptK)) (p : Int × Int) : List D := [.obox (gcs g), .ovec intK s.1, I p.1, I p.2, I n, .ovec ptK s.2]
def inB (g : Gr) (b : Int) : Bool := Nat.beq 1 1 && (decide (0 ≤ b) && decide (b < g.l.length))
def tree72i (g : Gr) (n : Int) (s : List (Tup intK) × List (Tup ptK)) (k b : Int) : Rn :=
  bif decide (k < g.l.length) then bif Nat.ble s.1.length 100000 then bif !hasI s.1 k then
    bif b == -1 then some ([], .normal, st72i g n s (W (k + 1), k)) else bif inB g k then bif inB g b then
      bif decide (i1 (nth g.l k.toNat) > i1 (nth g.l b.toNat)) then some ([], .normal, st72i g n s (W (k + 1), k)) else some ([], .normal, st72i g n s (W (k + 1), b))
    else none else none
    else some ([], .normal, st72i g n s (W (k + 1), b)) else none
  else some ([], .exit 2, st72i g n s (k, b))
theorem round72i (g : Gr) (n : Int) (s : List (Tup intK) × List (Tup ptK)) (k b : Int) : rndD ((cfg w0).at [c146]) 40 [] 40 (fnOf Tryz.f72).ntmps rel72i (lpB 2 (fnOf Tryz.f72).body) (st72i g n s (k, b)) = tree72i g n s k b := by cases g; cases s; kernel_rfl
def ld72i (g : Gr) (n : Int) (s : List (Tup intK) × List (Tup ptK)) (p : Int × Int) : Ld := ldP 2 (fnOf Tryz.f72).ntmps rel72i .normal (st72i g n s p)
def rel72 : List (Nat × Cv) := [(2, .id), (5, .ov intK), (1, .id), (6, .ov ptK)]
def st72 (g : Gr) (n : Int) (p : Int × (List (Tup intK) × List (Tup ptK))) : List D := [.obox (gcs g), .ovec intK p.2.1, I n, .ovec ptK p.2.2]
def roomU (o : List (Tup intK)) : Bool := Nat.ble (o.length * 8) 1000000000000 && Nat.ble o.length 1000000000000
def cellR (w b : Int) : Tup ptK := (b.tmod w, W (b.tdiv w), ())
theorem round72 (g : Gr) (n j : Int) (s : List (Tup intK) × List (Tup ptK)) (p : Int × Int) : rndD ((cfg w0).at [c146]) 40 [ld72i g n s p] 40 (fnOf Tryz.f72).ntmps rel72 (lpB 0 (fnOf Tryz.f72).body) (st72 g n (j, s)) =
    bif decide ((s.2.length : Int) < n) then bif roomU (s.1 ++ [t1 p.2]) then bif decide (g.w = 0) then none else bif decide (g.w = 0) then none else bif roomV (s.2 ++ [cellR g.w p.2]) then
      some ([(ld72i g n s p, .loop (lpB 2 (fnOf Tryz.f72).body), st72i g n s (0, -1))], .normal, st72 g n (j, (s.1 ++ [t1 p.2], s.2 ++ [cellR g.w p.2]))) else none else none
    else some ([], .exit 0, st72 g n (j, s)) := by cases g; cases s; kernel_rfl
theorem body72 (g : Gr) (n : Int) (p : Int × (List (Tup intK) × List (Tup ptK))) : bodyT ((cfg w0).at [c146]) 40 [ldP 0 (fnOf Tryz.f72).ntmps rel72 .normal (st72 g n p)] 40 (fnOf Tryz.f72) [gD g, I n] =
    some ([(ldP 0 (fnOf Tryz.f72).ntmps rel72 .normal (st72 g n p), .loop (lpB 0 (fnOf Tryz.f72).body), st72 g n (0, ([], [])))], .vec ptK p.2.2) := by cases g; kernel_rfl

def step72 (g : Gr) (s : List (Tup intK) × List (Tup ptK)) : List (Tup intK) × List (Tup ptK) := (s.1 ++ [t1 (bestR g s.1)], s.2 ++ [cellR g.w (bestR g s.1)])
def selR (g : Gr) (n : Int) : List (Tup ptK) := ((List.range' 0 n.toNat).foldl (fun s (_ : Nat) => step72 g s) ([], [])).2
theorem stepM_in {g : Gr} {u : List (Tup intK)} {j : Nat} {b : Int} (h1 : -1 ≤ b) (h2 : b < j) : -1 ≤ stepM g u j b ∧ stepM g u j b < ((j + 1 : Nat) : Int) := by
  unfold stepM
  cases (!hasI u (j : Int)) <;> simp only [cond_true, cond_false]
  · omega
  · cases (b == -1) <;> simp only [cond_true, cond_false]
    · cases decide (i1 (nth g.l j) > i1 (nth g.l b.toNat)) <;> simp only [cond_true, cond_false] <;> omega
    · omega
theorem fn72 (h0 : Lib0 w0) (g : Gr) (n : Int) (hg : smG g = true) (hw : g.w ≠ 0) (hn : n ≤ g.l.length) : FnD (cfg w0) 72 [gD g, I n] (.vec ptK (selR g n)) := by
  have hl : g.l.length ≤ 100000 := Nat.le_of_ble_eq_true hg
  have hcs : Gds (cfg w0) [c146] := ⟨gd146 h0, trivial⟩
  have inner : ∀ s : List (Tup intK) × List (Tup ptK), s.1.length ≤ 100000 → LdT ((cfg w0).at [c146]) (ld72i g n s (((0 + g.l.length : Nat) : Int), bestR g s.1)) (.loop (lpB 2 (fnOf Tryz.f72).body)) (st72i g n s (0, -1)) := fun s hs => by
    have hrun : rgRun 2 (fun (k : Nat) (b : Int) => (X.normal, stepM g s.1 k b)) g.l.length 0 (-1) = (.exit 2, (((0 + g.l.length : Nat) : Int), bestR g s.1)) :=
      rgRun_fold 2 (h := fun (k : Nat) (b : Int) => stepM g s.1 k b) _ _ _ (fun _ _ _ _ => rfl)
    exact ldT_rg (at_ok (cfg_ok w0) [c146]) (at_sp h0 hcs) (N := (fnOf Tryz.f72).ntmps) (rel := rel72i) (B := lpB 2 (fnOf Tryz.f72).body) (id := 2) (k := g.l.length) (by omega) (st72i g n s) (fun (k : Nat) (b : Int) => (X.normal, stepM g s.1 k b)) (fun j b => -1 ≤ b ∧ b < (j : Int))
      (fun j b hj ⟨k1, k2⟩ => .leaf (by
        refine (round72i g n s j b).trans ?_
        unfold tree72i stepM
        rw [lt_t hj, (Nat.ble_eq ..).mpr hs, Int.toNat_natCast]
        cases hh : (!hasI s.1 (j : Int)) with
        | false => rfl
        | true =>
          cases hb : (b == -1) with
          | true => rfl
          | false =>
            have hb : ¬ b = -1 := by simpa using hb
            obtain ⟨m, rfl⟩ : ∃ m : Nat, b = m := ⟨b.toNat, by omega⟩
            rw [show inB g (j : Int) = true from inb 1 hj, show inB g (m : Int) = true from inb 1 (by omega)]
            simp only [cond_true, cond_false]
            cases decide (i1 (nth g.l j) > i1 (nth g.l (m : Int).toNat)) <;> rfl)) (fun j b b' _ ⟨k1, k2⟩ h => by cases h; exact stepM_in k1 k2)
      (fun b _ => .leaf ((round72i g n s _ b).trans (by unfold tree72i; rw [ge_f]; rfl))) (a0 := -1) ⟨by omega, by omega⟩ hrun
  have hrun : rgRun 0 (fun (_ : Nat) s => (X.normal, step72 g s)) n.toNat 0 ([], []) = (.exit 0, (((0 + n.toNat : Nat) : Int), (List.range' 0 n.toNat).foldl (fun s (_ : Nat) => step72 g s) ([], []))) :=
    rgRun_fold 0 (h := fun (_ : Nat) s => step72 g s) _ _ _ (fun _ _ _ _ => rfl)
  refine fnD_lp (cfg_ok w0) h0 hcs (fd := fnOf Tryz.f72) rfl (body72 g n _) (ldT_rg (at_ok (cfg_ok w0) [c146]) (at_sp h0 hcs) (k := n.toNat) (by omega) (st72 g n) (fun (_ : Nat) s => (X.normal, step72 g s)) (fun j s => s.1.length = j ∧ s.2.length = j)
    (fun j s hj ⟨k1, k2⟩ => .one ((round72 g n j s (((0 + g.l.length : Nat) : Int), bestR g s.1)).trans (by
      rw [decide_eq_true (show (s.2.length : Int) < n by omega), decide_eq_false hw, show roomU (s.1 ++ [t1 (bestR g s.1)]) = true from room (by omega) (by omega), roomV_ok (by omega)]
      rfl)) (inner s (by omega))) (fun j s s' _ ⟨k1, k2⟩ h => by cases h; exact ⟨by simp [step72, k1], by simp [step72, k2]⟩)
    (fun s ⟨k1, k2⟩ => .leaf ((round72 g n _ s (0, 0)).trans (by rw [decide_eq_false (show ¬ (s.2.length : Int) < n by omega)]; rfl))) (a0 := ([], [])) ⟨rfl, rfl⟩ hrun)
def c72 : Ct := gC 72 [.c ik] fun g a => .br (smG g && (!(decide (g.w = 0)) && decide ((show Int from a.1) ≤ (g.l.length : Int)))) (.leaf (.vec ptK (selR g a.1))) .bad
theorem gd72 (h0 : Lib0 w0) : Gd (cfg w0) c72 := gd_g fun g a d hd => by
  obtain ⟨hg, hd⟩ := br_run hd
  cases hd
  simp only [Bool.and_eq_true, Bool.not_eq_true', decide_eq_false_iff_not, decide_eq_true_eq] at hg
  exact fn72 h0 g a.1 hg.1 hg.2.1 hg.2.2
end
end Go.Proofs.YthcpfignhalffaaGreatDoor

namespace Go.Proofs.YthcpfignhalffaaGreatDoor
open Go Go.Am
set_option maxRecDepth 100000
variable {w0 : World}
noncomputable section


def ixA (g : Gr) (x y : Int) : Int := W (W (y * g.w) + x)
theorem ixA_ok {g : Gr} (h : chkG g = 0) {x y : Int} (hb : hasB g x y = true) : ∃ j : Nat, ixA g x y = j ∧ j < g.l.length := by
  obtain ⟨h1, h2, h3, h4, h5, _⟩ := chk_len h
  unfold hasB at hb
  simp only [Bool.and_eq_true, decide_eq_true_eq] at hb
  obtain ⟨b1, b2, b3, b4⟩ := hb
  have hm := mul_bound (a := g.w) (b := g.h) (by omega) h3 (by omega) h5
  rw [W_in (by omega)] at h1
  have hy : y * g.w ≤ (g.h - 1) * g.w := Int.mul_le_mul_of_nonneg_right (by omega) (by omega)
  have h0 : 0 ≤ y * g.w := Int.mul_nonneg b2 (by omega)
  have hw : (g.h - 1) * g.w = g.w * g.h - g.w := by rw [Int.sub_mul, Int.mul_comm, Int.one_mul]
  refine ⟨(y * g.w + x).toNat, ?_, by omega⟩
  unfold ixA
  rw [W_in (n := y * g.w) (by omega), W_in (by omega)]
  omega
def e64 (g : Gr) (x y : Int) : Int := firstZ [chkG g, whenZ (!hasB g x y) 10]
theorem run64 (g : Gr) (x y : Int) : bodyK ((cfg w0).at [chkC 73, whenC 132, firstC 99, hasC 129]) 40 (fnOf Tryz.f64) [gD g, .agg [I x, I y]] =
    bif smG g then bif e64 g x y != 0 then some (.tup [I 0, I (e64 g x y)]) else bif inO g.l (ixA g x y) then some (.tup [I (i1 (nth g.l (ixA g x y).toNat)), I 0]) else none else none := by cases g; kernel_rfl
def atX (g : Gr) (x y : Int) : Int × Int := bif e64 g x y != 0 then (0, e64 g x y) else (i1 (nth g.l (ixA g x y).toNat), 0)
def c64 : Ct := gC 64 [.b ptK] fun g a => .br (smG g) (.leaf (.tup [I (atX g (p1 a.1) (p2 a.1)).1, I (atX g (p1 a.1) (p2 a.1)).2])) .bad
theorem has_of {g : Gr} {x y : Int} (h : e64 g x y = 0) : chkG g = 0 ∧ hasB g x y = true := by
  have a := firstZ_nil' h (chkG g) (by simp)
  have b := firstZ_nil' h (whenZ (!hasB g x y) 10) (by simp)
  refine ⟨a, ?_⟩
  unfold whenZ at b
  cases hb : hasB g x y with
  | true => rfl
  | false => rw [hb] at b; cases b
theorem gd64 (h0 : Lib0 w0) : Gd (cfg w0) c64 := gd_g fun g a d hd => by
  obtain ⟨hg, hd⟩ := br_run hd
  cases hd
  obtain ⟨⟨x, y, u⟩, u'⟩ := a
  refine fnD_k (cfg_ok w0) h0 (cs := [chkC 73, whenC 132, firstC 99, hasC 129]) ⟨gd73 h0, gd132 h0, gd99 h0, gd129 h0, trivial⟩ (fd := fnOf Tryz.f64) rfl (n := 40) ((run64 g x y).trans ?_)
  show _ = some (D.tup [I (atX g x y).1, I (atX g x y).2])
  unfold atX
  rw [hg]
  cases he : (e64 g x y != 0) with
  | true => rfl
  | false =>
    obtain ⟨c, b⟩ := has_of (show e64 g x y = 0 by simpa using he)
    obtain ⟨j, e, hj⟩ := ixA_ok c b
    rw [e, inO_nat hj]
    rfl
theorem run65 (g : Gr) : bodyK ((cfg w0).at [chkC 73, mapC 141 124 leE]) 40 (fnOf Tryz.f65) [gD g] =
    bif smG g then bif chkG g != 0 then some (.tup [nilD, I (chkG g)]) else bif smG g then some (.tup [.vec intK (g.l.map leE), I 0]) else none else none := by cases g; kernel_rfl
def lvsX (g : Gr) : List (Tup intK) × Int := bif chkG g != 0 then ([], chkG g) else (g.l.map leE, 0)
theorem fn_nilI {g : FuncId} {ds : List D} {e : Int} (h : FnD (cfg w0) g ds (.tup [nilD, I e])) : FnD (cfg w0) g ds (.tup [.vec intK [], I e]) := FnD.nil_vec (vs := [.int .i64 e]) rfl (by decide) h
theorem fn_nilF {g : FuncId} {ds : List D} {e : Int} (h : FnD (cfg w0) g ds (.tup [nilD, I e])) : FnD (cfg w0) g ds (.tup [.vec flK [], I e]) := FnD.nil_vec (vs := [.int .i64 e]) rfl (by decide) h
def c65 : Ct := gC 65 [] fun g _ => .br (smG g) (.leaf (.tup [.vec intK (lvsX g).1, I (lvsX g).2])) .bad
theorem gd65 (h0 : Lib0 w0) : Gd (cfg w0) c65 := gd_g fun g a d hd => by
  obtain ⟨hg, hd⟩ := br_run hd
  cases hd
  have key := fnD_k (cfg_ok w0) h0 (g := 65) (cs := [chkC 73, mapC 141 124 leE]) ⟨gd73 h0, gd141 h0, trivial⟩ (fd := fnOf Tryz.f65) rfl (n := 40) (ds := [gD g]) (d := bif chkG g != 0 then .tup [nilD, I (chkG g)] else .tup [.vec intK (g.l.map leE), I 0]) ((run65 g).trans (by
    rw [hg]
    cases (chkG g != 0) <;> rfl))
  show FnD (cfg w0) 65 [gD g] (.tup [.vec intK (lvsX g).1, I (lvsX g).2])
  unfold lvsX
  cases hc : (chkG g != 0) with
  | true => rw [hc] at key; exact fn_nilI key
  | false => rw [hc] at key; exact key
def e66 (g : Gr) (n : Int) : Int := firstZ [chkG g, withinZ n 0 maxL]
theorem run66 (g : Gr) (n : Int) : bodyK ((cfg w0).at [chkC 73, rangeC 100 0 maxL, firstC 99, c102]) 40 (fnOf Tryz.f66) [gD g, I n] =
    bif smG g then bif e66 g n != 0 then some (.tup [nilD, I (e66 g n)]) else bif smG g then some (.tup [.vec flK (g.l.map (abE n)), I 0]) else none else none := by cases g; kernel_rfl
def abvX (g : Gr) (n : Int) : List (Tup flK) × Int := bif e66 g n != 0 then ([], e66 g n) else (g.l.map (abE n), 0)
def c66 : Ct := gC 66 [.c ik] fun g a => .br (smG g) (.leaf (.tup [.vec flK (abvX g a.1).1, I (abvX g a.1).2])) .bad
theorem gd66 (h0 : Lib0 w0) : Gd (cfg w0) c66 := gd_g fun g a d hd => by
  obtain ⟨hg, hd⟩ := br_run hd
  cases hd
  obtain ⟨n, u⟩ := a
  have key := fnD_k (cfg_ok w0) h0 (g := 66) (cs := [chkC 73, rangeC 100 0 maxL, firstC 99, c102]) ⟨gd73 h0, gd100 h0, gd99 h0, gd102 h0, trivial⟩ (fd := fnOf Tryz.f66) rfl (n := 40) (ds := [gD g, I n]) (d := bif e66 g n != 0 then .tup [nilD, I (e66 g n)] else .tup [.vec flK (g.l.map (abE n)), I 0]) ((run66 g n).trans (by
    rw [hg]
    cases (e66 g n != 0) <;> rfl))
  show FnD (cfg w0) 66 [gD g, I n] (.tup [.vec flK (abvX g n).1, I (abvX g n).2])
  unfold abvX
  cases hc : (e66 g n != 0) with
  | true => rw [hc] at key; exact fn_nilF key
  | false => rw [hc] at key; exact key
theorem run69 (g : Gr) (x y : Int) : bodyK ((cfg w0).at []) 40 (fnOf Tryz.f69) [gD g, .agg [I x, I y]] = bif inO g.l (ixA g x y) then some (I (i1 (nth g.l (ixA g x y).toNat))) else none := by cases g; kernel_rfl
def c69 : Ct := gC 69 [.b ptK] fun g a => .br (inO g.l (ixA g (p1 a.1) (p2 a.1))) (.leaf (I (i1 (nth g.l (ixA g (p1 a.1) (p2 a.1)).toNat)))) .bad
theorem gd69 (h0 : Lib0 w0) : Gd (cfg w0) c69 := gd_g fun g a d hd => by
  obtain ⟨hg, hd⟩ := br_run hd
  cases hd
  obtain ⟨⟨x, y, u⟩, u'⟩ := a
  have hg : inO g.l (ixA g x y) = true := hg
  refine fnD_k (cfg_ok w0) h0 (cs := []) trivial (fd := fnOf Tryz.f69) rfl (n := 40) ((run69 g x y).trans ?_)
  rw [hg]; rfl


def gtE (n : Int) (x : Tup intK) : Tup flK := tb1 (decide (i1 x ≥ n))
def rel71 : List (Nat × Cv) := [(1, .id), (6, .id), (7, .id), (5, .ov flK)]
def st71 (l : List (Tup intK)) (n : Int) (p : Int × List (Tup flK)) : List D := [I n, .ovec intK l, I p.1, .ovec flK p.2]
def roomF (o : List (Tup flK)) : Bool := Nat.ble (o.length * 1) 1000000000000 && Nat.ble o.length 1000000000000
theorem round71 (l : List (Tup intK)) (n j : Int) (o : List (Tup flK)) : rndD ((cfg w0).at [c70]) 40 [] 40 (fnOf Tryz.f71).ntmps rel71 (lpB 0 (fnOf Tryz.f71).body) (st71 l n (j, o)) =
    bif decide (j < l.length) then bif inO l j then bif roomF (o ++ [gtE n (nth l j.toNat)]) then some ([], .normal, st71 l n (W (j + 1), o ++ [gtE n (nth l j.toNat)])) else none else none
    else some ([], .exit 0, st71 l n (j, o)) := by kernel_rfl
theorem body71 (g : Gr) (n : Int) (p : Int × List (Tup flK)) : bodyT ((cfg w0).at [c70]) 40 [ldP 0 (fnOf Tryz.f71).ntmps rel71 .normal (st71 (g.l.map lbE) n p)] 40 (fnOf Tryz.f71) [gD g, I n] =
    bif smG g then some ([(ldP 0 (fnOf Tryz.f71).ntmps rel71 .normal (st71 (g.l.map lbE) n p), .loop (lpB 0 (fnOf Tryz.f71).body), st71 (g.l.map lbE) n (0, []))], .vec flK p.2) else none := by cases g; kernel_rfl
theorem fn71 (h0 : Lib0 w0) (g : Gr) (n : Int) (hg : smG g = true) : FnD (cfg w0) 71 [gD g, I n] (.vec flK ((g.l.map lbE).map (gtE n))) := by
  have hl : (g.l.map lbE).length ≤ 100000 := by rw [List.length_map]; exact Nat.le_of_ble_eq_true hg
  refine fn_ls h0 (cs := [c70]) ⟨gd70 h0, trivial⟩ (fd := fnOf Tryz.f71) rfl rel71 (g.l.map lbE) (by omega) (st71 (g.l.map lbE) n) (fun w a => (X.normal, a ++ [gtE n w])) (fun j a => a.length = j) (a0 := []) rfl
    (fun j a hj hi => .leaf (by
      have hi : a.length = j := hi
      refine (round71 (g.l.map lbE) n j a).trans ?_
      rw [inO_nat hj, lt_t hj, Int.toNat_natCast, show roomF (a ++ [gtE n (nth (g.l.map lbE) j)]) = true from room (by omega) (by omega)]
      rfl)) (fun j a a' _ hi h => by cases h; simp [hi])
    (fun a _ => .leaf ((round71 (g.l.map lbE) n _ a).trans (by rw [ge_f]; rfl))) fun x p hx => ?_
  rw [lsRun_fold (h := fun w b => b ++ [gtE n w]) 0 (g.l.map lbE) 0 [] (fun _ _ _ => rfl), foldl_snoc (gtE n)] at hx
  cases hx
  exact (body71 g n _).trans (by rw [hg]; rfl)
def c71 : Ct := gC 71 [.c ik] fun g a => .br (smG g) (.leaf (.vec flK ((g.l.map lbE).map (gtE a.1)))) .bad
theorem gd71 (h0 : Lib0 w0) : Gd (cfg w0) c71 := gd_g fun g a d hd => by
  obtain ⟨hg, hd⟩ := br_run hd
  cases hd
  exact fn71 h0 g a.1 hg


def sameF (a b : List (Tup flK)) : Bool := decide (a.map b1 = b.map b1)
def neF (a b : Tup flK) : Bool := !(b1 a == b1 b)
theorem sameF_any {a b : List (Tup flK)} (h : a.length = b.length) : (List.range' 0 a.length).any (fun j => neF (nth a j) (nth b j)) = !sameF a b := by
  unfold sameF
  have neE : ∀ x y : Tup flK, neF x y = decide (b1 x ≠ b1 y) := fun x y => by unfold neF; cases b1 x <;> cases b1 y <;> rfl
  rw [Bool.eq_iff_iff, List.any_eq_true]
  simp only [List.mem_range'_1, neE, decide_eq_true_eq, Bool.not_eq_true', decide_eq_false_iff_not]
  have hn : ∀ (l : List (Tup flK)) (j : Nat) (hj : j < l.length), nth l j = l[j] := fun l j hj => by simp [nth, hj]
  constructor
  · rintro ⟨j, ⟨_, hj⟩, hne⟩ he
    have := congrArg (fun l => l[j]?) he
    simp only [List.getElem?_map] at this
    rw [List.getElem?_eq_getElem (by omega), List.getElem?_eq_getElem (by omega)] at this
    simp only [Option.map_some, Option.some.injEq] at this
    exact hne (by rw [hn a j (by omega), hn b j (by omega)]; exact this)
  · intro hne
    apply Classical.byContradiction
    intro hno
    apply hne
    apply List.ext_getElem?
    intro j
    simp only [List.getElem?_map]
    rcases Nat.lt_or_ge j a.length with hj | hj
    · rw [List.getElem?_eq_getElem hj, List.getElem?_eq_getElem (by omega)]
      simp only [Option.map_some, Option.some.injEq]
      apply Classical.byContradiction
      intro hx
      exact hno ⟨j, ⟨by omega, by omega⟩, fun hy => hx (by rw [hn a j (by omega), hn b j (by omega)] at hy; exact hy)⟩
    · rw [List.getElem?_eq_none hj, List.getElem?_eq_none (by omega)]
def st74 (a b : List (Tup flK)) (s : Int × Bool) : List D := [.vec flK a, .vec flK b, I s.1, Bo s.2]
theorem round74 (a b : List (Tup flK)) (j : Int) (r : Bool) : rndD ((cfg w0).at []) 40 [] 40 (fnOf Tryz.f74).ntmps rel98 (lpB 0 (fnOf Tryz.f74).body) (st74 a b (j, r)) =
    bif decide (j < a.length) then bif inFl a j then bif inFl b j then
      bif neF (nth a j.toNat) (nth b j.toNat) then some ([], .ret, st74 a b (j, false)) else some ([], .normal, st74 a b (W (j + 1), r)) else none else none
    else some ([], .exit 0, st74 a b (j, r)) := by kernel_rfl
theorem body74 (a b : List (Tup flK)) (x : X) (p : Int × Bool) (hx : x = .ret ∨ x = .normal) : bodyT ((cfg w0).at []) 40 [ldP 0 (fnOf Tryz.f74).ntmps rel98 x (st74 a b p)] 40 (fnOf Tryz.f74) [.vec flK a, .vec flK b] =
    bif (a.length : Int) != b.length then some ([], Bo false) else some ([(ldP 0 (fnOf Tryz.f74).ntmps rel98 x (st74 a b p), .loop (lpB 0 (fnOf Tryz.f74).body), st74 a b (0, false))], onX x (Bo p.2) (Bo true)) := by
  rcases hx with rfl | rfl <;> kernel_rfl
theorem fn74 (h0 : Lib0 w0) (a b : List (Tup flK)) (hl : a.length ≤ 100000) : FnD (cfg w0) 74 [.vec flK a, .vec flK b] (Bo (sameF a b)) := by
  cases hne : ((a.length : Int) != b.length) with
  | true =>
    have : sameF a b = false := by
      unfold sameF
      rw [decide_eq_false_iff_not]
      intro h
      have := congrArg List.length h
      simp only [List.length_map] at this
      rw [this] at hne
      simp at hne
    rw [this]
    refine fnD_t (cfg_ok w0) h0 (cs := []) trivial (fd := fnOf Tryz.f74) rfl (o := []) ((body74 a b .normal (0, true) (.inr rfl)).trans ?_) trivial
    rw [hne]; rfl
  | false =>
    have hab : a.length = b.length := Int.ofNat.inj (by simpa using hne)
    refine fn_rg h0 (cs := []) trivial (fd := fnOf Tryz.f74) rfl rel98 a.length (by omega) (st74 a b) (fun j r => bif neF (nth a j) (nth b j) then (X.ret, false) else (.normal, r)) (fun _ _ => True) (a0 := false) trivial
      (fun j r hj _ => .leaf (by
        refine (round74 a b j r).trans ?_
        rw [inFl_nat hj, inFl_nat (hab ▸ hj), lt_t hj, Int.toNat_natCast]
        cases neF (nth a j) (nth b j) <;> rfl)) (fun _ _ _ _ _ _ => trivial)
      (fun r _ => .leaf ((round74 a b _ r).trans (by rw [ge_f]; rfl))) fun x p hx => ?_
    obtain ⟨q, hq⟩ := rgRun_any (id := 0) (p := fun j => neF (nth a j) (nth b j)) (c := false) a.length 0 false
    rw [hq, sameF_any hab] at hx
    cases hs : sameF a b <;> rw [hs] at hx <;> cases hx
    · exact (body74 a b _ _ (.inl rfl)).trans (by rw [hne]; rfl)
    · exact (body74 a b _ _ (.inr rfl)).trans (by rw [hne]; rfl)
def c74 : Ct := ct 74 [.v flK, .v flK] fun a => .br (Nat.ble (a.1 : List (Tup flK)).length 100000) (.leaf (Bo (sameF a.1 a.2.1))) .bad
theorem gd74 (h0 : Lib0 w0) : Gd (cfg w0) c74 := gd_sig fun a d hd => by
  obtain ⟨hg, hd⟩ := br_run hd
  cases hd
  exact fn74 h0 a.1 a.2.1 (Nat.le_of_ble_eq_true hg)
end
end Go.Proofs.YthcpfignhalffaaGreatDoor

namespace Go.Proofs.YthcpfignhalffaaGreatDoor
open Go Go.Am
set_option maxRecDepth 100000
variable {w0 : World}
noncomputable section


def csB : List Ct := [c14, ownC 16, c64, c65, c66, c67, chkC 73, chkC 20, c51, firstC 19, rangeC 21 0 maxL, withinC 68, c69, c70, c71, c72, c40, c57, c74, c58]
theorem csB_gd (h0 : Lib0 w0) : Gds (cfg w0) csB := ⟨gd14 h0, gd16 h0, gd64 h0, gd65 h0, gd66 h0, gd67 h0, gd73 h0, gd20 h0, gd51 h0, gd19 h0, gd21 h0, gd68 h0, gd69 h0, gd70 h0, gd71 h0, gd72 h0, gd40 h0, gd57 h0, gd74 h0, gd58 h0, trivial⟩
def ble5 (n : Nat) : Bool := Nat.ble n 100000
def endB (g : Gr) (x y n m one three four energy : Int) (lv : List (Tup intK)) (ab : List (Tup flK)) (ho : List (Tup ptK)) : Option D :=
  bif smG g then bif smG g then
    bif chkG g == chkG g then
      bif numB (atX g x y).1 (atX g x y).2 one energy then
        bif ble5 (lvsX g).1.length then bif listB (lvsX g).1 (lvsX g).2 (chkG g) lv then
          bif ble5 (abvX g n).1.length then bif sameF (abvX g n).1 ab then
            bif (abvX g n).2 == three then
              bif ble5 (hotX g m).1.length then bif cellsB (hotX g m).1 (hotX g m).2 four ho then some (Bo true) else some (Bo false) else none
            else some (Bo false)
          else some (Bo false) else none
        else some (Bo false) else none
      else some (Bo false)
    else some (Bo false)
  else none else none
def bb4 (g : Gr) (x y n m one three four energy : Int) (lv : List (Tup intK)) (ab : List (Tup flK)) : Option D :=
  bif four == 0 then bif smG g && (!(decide (g.w = 0)) && decide (m ≤ (g.l.length : Int))) then endB g x y n m one three four energy lv ab (selR g m) else none else endB g x y n m one three four energy lv ab []
def bb3 (g : Gr) (x y n m one three four energy : Int) (lv : List (Tup intK)) : Option D :=
  bif three == 0 then bif smG g then bb4 g x y n m one three four energy lv ((g.l.map lbE).map (gtE n)) else none else bb4 g x y n m one three four energy lv []
def bb2 (g : Gr) (x y n m one three four energy : Int) : Option D :=
  bif chkG g == 0 then bif smG g then bb3 g x y n m one three four energy (g.l.map lbE) else none else bb3 g x y n m one three four energy []
def bb1 (g : Gr) (x y n m one three four : Int) : Option D :=
  bif one == 0 then bif inO g.l (ixA g x y) then bb2 g x y n m one three four (i1 (nth g.l (ixA g x y).toNat)) else none else bb2 g x y n m one three four 0
def law7 (g : Gr) (x y n m : Int) : Option D :=
  bif !few g then some (Bo true) else
  bif smG g then bif smG g then bif smG g then bif smG g then bif smG g then bif smG g then bif smG g then bif smG g then bif smG g then
    bb1 g x y n m (firstZ [chkG g, whenZ (!hasB g x y) 10]) (firstZ [chkG g, withinZ n 0 maxL]) (firstZ [chkG g, withinZ m 1 g.l.length])
  else none else none else none else none else none else none else none else none else none
end
end Go.Proofs.YthcpfignhalffaaGreatDoor

namespace Go.Proofs.YthcpfignhalffaaGreatDoor
open Go Go.Am
set_option maxRecDepth 100000
noncomputable section


def enN (g : Gr) (j : Nat) : Int := i1 (nth g.l j)
def ltI (g : Gr) (i j : Nat) : Prop := enN g j < enN g i ∨ enN g i = enN g j ∧ i < j
instance (g : Gr) (i j : Nat) : Decidable (ltI g i j) := inferInstanceAs (Decidable (_ ∨ _))
def srt (g : Gr) : List Nat := (List.range' 0 g.l.length).mergeSort fun a b => !decide (ltI g b a)
theorem srt_perm (g : Gr) : (srt g).Perm (List.range' 0 g.l.length) := List.mergeSort_perm ..
theorem srt_len (g : Gr) : (srt g).length = g.l.length := by rw [(srt_perm g).length_eq]; simp
theorem srt_nodup (g : Gr) : (srt g).Nodup := (srt_perm g).nodup_iff.2 List.nodup_range'
theorem srt_mem {g : Gr} {j : Nat} : j ∈ srt g ↔ j < g.l.length := by rw [(srt_perm g).mem_iff]; simp
theorem srt_sorted (g : Gr) : (srt g).Pairwise fun a b => ¬ ltI g b a := by
  have := List.pairwise_mergeSort (le := fun a b => !decide (ltI g b a)) (fun a b c h1 h2 => by
    simp only [Bool.not_eq_true', decide_eq_false_iff_not] at *
    unfold ltI at *
    omega) (fun a b => by
    simp only [Bool.or_eq_true, Bool.not_eq_true', decide_eq_false_iff_not]
    unfold ltI
    omega) (List.range' 0 g.l.length)
  refine this.imp fun {a b} h => ?_
  simpa using h

def Best (g : Gr) (u : List (Tup intK)) (k : Nat) (b : Int) : Prop :=
  (b = -1 ∧ ∀ j, j < k → hasI u (j : Int) = true) ∨ ∃ i : Nat, b = i ∧ i < k ∧ hasI u (i : Int) = false ∧ ∀ j, j < k → hasI u (j : Int) = false → ¬ ltI g j i
theorem best_step {g : Gr} {u : List (Tup intK)} {k : Nat} {b : Int} (h : Best g u k b) : Best g u (k + 1) (stepM g u k b) := by
  unfold stepM
  cases hk : hasI u (k : Int) with
  | true =>
    simp only [Bool.not_true, cond_false]
    rcases h with ⟨h1, h2⟩ | ⟨i, h1, h2, h3, h4⟩
    · exact .inl ⟨h1, fun j hj => by
        rcases Nat.lt_succ_iff_lt_or_eq.1 hj with hj | rfl
        · exact h2 j hj
        · exact hk⟩
    · exact .inr ⟨i, h1, by omega, h3, fun j hj hu => by
        rcases Nat.lt_succ_iff_lt_or_eq.1 hj with hj | rfl
        · exact h4 j hj hu
        · rw [hk] at hu; cases hu⟩
  | false =>
    simp only [Bool.not_false, cond_true]
    rcases h with ⟨h1, h2⟩ | ⟨i, h1, h2, h3, h4⟩
    · subst h1
      refine .inr ⟨k, rfl, by omega, hk, fun j hj hu => ?_⟩
      rcases Nat.lt_succ_iff_lt_or_eq.1 hj with hj | rfl
      · rw [h2 j hj] at hu; cases hu
      · unfold ltI; omega
    · subst h1
      rw [show ((i : Int) == -1) = false by simp]
      simp only [cond_false, Int.toNat_natCast]
      cases hc : decide (i1 (nth g.l k) > i1 (nth g.l i)) with
      | true =>
        rw [decide_eq_true_eq] at hc
        have hc : enN g i < enN g k := hc
        refine .inr ⟨k, rfl, by omega, hk, fun j hj hu => ?_⟩
        rcases Nat.lt_succ_iff_lt_or_eq.1 hj with hj | rfl
        · have := h4 j hj hu
          unfold ltI at *
          omega
        · unfold ltI; omega
      | false =>
        rw [decide_eq_false_iff_not] at hc
        have hc : ¬ enN g i < enN g k := hc
        refine .inr ⟨i, rfl, by omega, h3, fun j hj hu => ?_⟩
        rcases Nat.lt_succ_iff_lt_or_eq.1 hj with hj | rfl
        · exact h4 j hj hu
        · unfold ltI; omega
theorem best_fold {g : Gr} {u : List (Tup intK)} : ∀ (n k : Nat) (b : Int), Best g u k b → Best g u (k + n) ((List.range' k n).foldl (fun b k => stepM g u k b) b)
  | 0, _, _, h => h
  | n + 1, k, b, h => by
    rw [List.range'_succ, List.foldl_cons, show k + (n + 1) = k + 1 + n by omega]
    exact best_fold n (k + 1) _ (best_step h)
theorem best_all (g : Gr) (u : List (Tup intK)) : Best g u g.l.length (bestR g u) := by
  have := best_fold (g := g) (u := u) g.l.length 0 (-1) (.inl ⟨rfl, fun j hj => absurd hj (by omega)⟩)
  rw [Nat.zero_add] at this
  exact this

def usedL (l : List Nat) : List (Tup intK) := l.map fun (j : Nat) => t1 (j : Int)
theorem hasI_used {l : List Nat} {j : Nat} : hasI (usedL l) (j : Int) = true ↔ j ∈ l := by
  unfold hasI usedL
  rw [List.any_map, List.any_eq_true]
  constructor
  · rintro ⟨i, hi, he⟩
    have he : (((i : Int)) == (j : Int)) = true := he
    have : i = j := by have := eq_of_beq he; omega
    exact this ▸ hi
  · intro h
    exact ⟨j, h, by show ((j : Int) == (j : Int)) = true; simp⟩
theorem hasI_not {l : List Nat} {j : Nat} : hasI (usedL l) (j : Int) = false ↔ j ∉ l := by rw [← hasI_used (l := l), Bool.not_eq_true]

theorem best_next {g : Gr} {k : Nat} (hk : k < g.l.length) : bestR g (usedL ((srt g).take k)) = (((srt g)[k]'(by rw [srt_len]; exact hk) : Nat) : Int) := by
  have hkl : k < (srt g).length := by rw [srt_len]; exact hk
  have nin : ∀ i (hi : i < (srt g).length), k ≤ i → (srt g)[i] ∉ (srt g).take k := fun i hi hik hmem => by
    obtain ⟨j, hj, e⟩ := List.mem_iff_getElem.1 hmem
    rw [List.length_take] at hj
    rw [List.getElem_take] at e
    have := (List.getElem_inj (srt_nodup g)).1 e
    omega
  have hS := (List.pairwise_iff_getElem.1 (srt_sorted g))
  have hlt : (srt g)[k] < g.l.length := srt_mem.1 (List.getElem_mem hkl)
  rcases best_all g (usedL ((srt g).take k)) with ⟨_, h2⟩ | ⟨i, h1, h2, h3, h4⟩
  · have := h2 _ hlt
    rw [hasI_used] at this
    exact absurd this (nin k hkl (Nat.le_refl _))
  · rw [h1]
    congr 1
    rw [hasI_not] at h3
    have hi : i ∈ srt g := srt_mem.2 h2
    obtain ⟨q, hq, rfl⟩ := List.mem_iff_getElem.1 hi
    have hkq : k ≤ q := by
      apply Classical.byContradiction
      intro h
      apply h3
      rw [List.mem_iff_getElem]
      exact ⟨q, by rw [List.length_take]; omega, by rw [List.getElem_take]⟩
    rcases Nat.eq_or_lt_of_le hkq with e | hlt'
    · subst e; rfl
    · have a1 := hS k q hkl hq hlt'
      have a2 := h4 _ hlt (hasI_not.2 (nin k hkl (Nat.le_refl _)))
      unfold ltI at a1 a2
      omega

theorem sel_eq {g : Gr} : ∀ k : Nat, k ≤ g.l.length → (List.range' 0 k).foldl (fun s (_ : Nat) => step72 g s) ([], []) = (usedL ((srt g).take k), ((srt g).take k).map fun (j : Nat) => cellR g.w (j : Int))
  | 0, _ => rfl
  | k + 1, h => by
    have hkl : k < (srt g).length := by rw [srt_len]; omega
    rw [List.range'_concat, List.foldl_append, sel_eq k (by omega)]
    have hb := best_next (g := g) (k := k) (by omega)
    rw [List.take_succ_eq_append_getElem hkl]
    show step72 g _ = _
    unfold step72
    rw [hb]
    simp only [usedL, List.map_append, List.map_cons, List.map_nil]

theorem lt_of_dm {a b k : Nat} (h : b / k < a / k ∨ b / k = a / k ∧ b % k < a % k) : b < a := by
  rcases h with h | ⟨h1, h2⟩
  · exact Nat.lt_of_div_lt_div h
  · have e1 := Nat.div_add_mod b k
    have e2 := Nat.div_add_mod a k
    rw [h1] at e1
    omega
theorem ltH_hot {g : Gr} {k : Nat} (hw : g.w = k) {a b : Nat} (ha : a ≤ 100000) (hb : b ≤ 100000) (h : ltH (hotE g (b : Int)) (hotE g (a : Int))) : ltI g b a := by
  have dv : ∀ j : Nat, j ≤ 100000 → W ((j : Int).tdiv g.w) = ((j / k : Nat) : Int) := fun j hj => by
    rw [hw]
    have : ((j : Int).tdiv (k : Int)) = ((j / k : Nat) : Int) := by rw [Int.ofNat_tdiv]
    rw [this]
    have h1 := Nat.div_le_self j k
    generalize j / k = q at h1 ⊢
    exact W_in (by omega)
  have md : ∀ j : Nat, (j : Int).tmod g.w = ((j % k : Nat) : Int) := fun j => by rw [hw, Int.ofNat_tmod]
  have h : enN g a < enN g b ∨ enN g a = enN g b ∧ (W ((b : Int).tdiv g.w) < W ((a : Int).tdiv g.w) ∨ W ((b : Int).tdiv g.w) = W ((a : Int).tdiv g.w) ∧ (b : Int).tmod g.w < (a : Int).tmod g.w) := h
  rw [dv a ha, dv b hb, md a, md b] at h
  unfold ltI
  rcases h with h | ⟨h1, h2⟩
  · exact .inl h
  · exact .inr ⟨h1.symm, lt_of_dm (k := k) (by omega)⟩
theorem sort_srt {g : Gr} {k : Nat} (hw : g.w = k) (hl : g.l.length ≤ 100000) : sortH (hotL g) = (srt g).map fun (j : Nat) => hotE g (j : Int) := by
  refine sorted_unique ((sortH_perm _).trans ?_) (sortH_sorted _) ?_
  · exact ((srt_perm g).map _).symm
  · rw [List.pairwise_map]
    refine (srt_sorted g).imp_of_mem fun {a b} ma mb h hlt => h ?_
    have := srt_mem.1 ma
    have := srt_mem.1 mb
    exact ltH_hot hw (by omega) (by omega) hlt
theorem hot_sel {g : Gr} (hc : chkG g = 0) (hl : g.l.length ≤ 100000) {m : Int} (hm : m ≤ g.l.length) : ((sortH (hotL g)).take m.toNat).map ptH = selR g m := by
  obtain ⟨_, h1, _, _, _, _⟩ := chk_len hc
  obtain ⟨k, hk⟩ : ∃ k : Nat, g.w = k := ⟨g.w.toNat, by omega⟩
  unfold selR
  rw [sel_eq _ (by omega), sort_srt hk hl, ← List.map_take, List.map_map]
  rfl
end
end Go.Proofs.YthcpfignhalffaaGreatDoor
