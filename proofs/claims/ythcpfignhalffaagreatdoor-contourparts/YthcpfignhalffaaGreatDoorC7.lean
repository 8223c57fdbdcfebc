/-
 A part of the proof of the statement that the claim names: see the last file.
-/
import Derived.Test.YthcpfignhalffaaGreatDoorC6
import Derived.Test.YthcpfignhalffaaGreatDoorAm5
namespace Go.Proofs.YthcpfignhalffaaGreatDoor
open Go Go.Am
set_option maxRecDepth 100000
variable {w0 : World}
noncomputable section
def ownC (g : Nat) : Ct := gC g [] fun b _ => .br (smG b) (.leaf (gD b)) .bad
theorem room_own {l : List (Tup intK)} (h : Nat.ble l.length 100000 = true) : (Nat.ble (([] ++ l).length * 8) 1000000000000 && Nat.ble ([] ++ l).length 1000000000000) = true := by
 rw [Nat.ble_eq] at h
 simp only [List.nil_append, Bool.and_eq_true, Nat.ble_eq]
 omega
theorem run90 (g : Gr) : bodyK ((cfg w0).at []) 40 (fnOf Tryz.f90) [gD g] =
  bif (Nat.ble (([] ++ g.l).length * 8) 1000000000000 && Nat.ble ([] ++ g.l).length 1000000000000) then some (.agg [I g.w, I g.h, .vec intK ([] ++ g.l)]) else none := by cases g; kernel_rfl
theorem gd90 (h0 : Lib0 w0) : Gd (cfg w0) (ownC 90) := gd_g fun b a d hd => by
 obtain ⟨hg, hd⟩ := br_run hd
 cases hd
 refine fnD_k (cfg_ok w0) h0 (cs := []) trivial (fd := fnOf Tryz.f90) rfl (n := 40) ((run90 b).trans ?_)
 rw [room_own hg]
 rfl
theorem run16 (g : Gr) : bodyK ((cfg w0).at [ownC 90]) 40 (fnOf Tryz.f16) [gD g] = bif smG g then some (gD g) else none := by cases g; kernel_rfl
theorem gd16 (h0 : Lib0 w0) : Gd (cfg w0) (ownC 16) := gd_g fun b a d hd => by
 obtain ⟨hg, hd⟩ := br_run hd
 cases hd
 refine fnD_k (cfg_ok w0) h0 (cs := [ownC 90]) ⟨gd90 h0, trivial⟩ (fd := fnOf Tryz.f16) rfl (n := 40) ((run16 b).trans ?_)
 rw [hg]; rfl
def g151 (l : List (Tup intK)) : Bool := decide (0 ≤ (l.length : Int)) && (decide ((l.length : Int) = (l.length : Int)) && (decide ((l.length : Int) ≤ 10000000) && (Nat.ble ((l.length : Int).toNat * 1) 10000000 && Nat.ble ((l.length : Int).toNat * 8) 1000000000000)))
def cp151 (l : List (Tup intK)) : List (Tup intK) := setAt (List.replicate (l.length : Int).toNat (t1 0)) 0 (l.take (Nat.min l.length (l.length : Int).toNat))
theorem run151 (g : Gr) : bodyK ((cfg w0).at []) 40 (fnOf Tryz.f151) [gD g] = bif g151 g.l then some (.agg [I g.w, I g.h, .vec intK (cp151 g.l)]) else none := by cases g; kernel_rfl
theorem cp151_eq (l : List (Tup intK)) : cp151 l = l := by
 unfold cp151 setAt
 rw [Int.toNat_natCast, show Nat.min l.length l.length = l.length from Nat.min_self _, List.take_length]
 simp
theorem gd151 (h0 : Lib0 w0) : Gd (cfg w0) (ownC 151) := gd_g fun b a d hd => by
 obtain ⟨hg, hd⟩ := br_run hd
 cases hd
 refine fnD_k (cfg_ok w0) h0 (cs := []) trivial (fd := fnOf Tryz.f151) rfl (n := 40) ((run151 b).trans ?_)
 have hl : b.l.length ≤ 100000 := Nat.le_of_ble_eq_true hg
 have : g151 b.l = true := by
  unfold g151
  simp only [Int.toNat_natCast, Bool.and_eq_true, decide_eq_true_eq, Nat.ble_eq]
  exact ⟨by omega, True.intro, by omega, by omega, by omega⟩
 rw [this, cp151_eq]
 rfl
def loJ (g : Gr) (j : Int) : Int := W (j * g.w)
def rowJ (g : Gr) (j : Int) : List (Tup intK) := (g.l.drop (0 + (loJ g j).toNat)).take ((loJ g (W (j + 1))).toNat - (loJ g j).toNat)
def inJ (g : Gr) (j : Int) : Bool := decide (0 ≤ loJ g j) && (decide (loJ g j ≤ loJ g (W (j + 1))) && decide (loJ g (W (j + 1)) ≤ g.l.length))
def cs80 : List Ct := [chkC 73, whenC 132, firstC 99]
theorem cs80_gd (h0 : Lib0 w0) : Gds (cfg w0) cs80 := ⟨gd73 h0, gd132 h0, gd99 h0, trivial⟩
def rel80 : List (Nat × Cv) := [(2, .id), (3, .id), (7, .bv intK), (41, .id), (42, .id), (4, .id)]
def st80 (a b : Gr) (p : Int × List (Tup intK)) : List D := [.obox (gcs a), .obox (gcs b), .obox [I (W (a.w + b.w)), I a.h, .ovec intK p.2], I a.h, I p.1, .obox [I 0, I 0, nilD]]
theorem round80 (a b : Gr) (j : Int) (out : List (Tup intK)) : rndD ((cfg w0).at cs80) 40 [] 40 (fnOf Tryz.f80).ntmps rel80 (lpB 0 (fnOf Tryz.f80).body) (st80 a b (j, out)) =
  bif decide (j < a.h) then
   bif inJ a j then bif roomB (out ++ rowJ a j) then
    bif inJ b j then bif roomB (out ++ rowJ a j ++ rowJ b j) then some ([], .normal, st80 a b (W (j + 1), out ++ rowJ a j ++ rowJ b j)) else none else none
   else none else none
  else some ([], .exit 0, st80 a b (j, out)) := by cases a; cases b; kernel_rfl
def e80 (a b : Gr) : Int := firstZ [chkG a, chkG b, whenZ (a.h != b.h) 2, whenZ (decide (W (a.w + b.w) > 16)) 4]
theorem body80 (a b : Gr) (p : Int × List (Tup intK)) : bodyT ((cfg w0).at cs80) 40 [ldP 0 (fnOf Tryz.f80).ntmps rel80 .normal (st80 a b p)] 40 (fnOf Tryz.f80) [gD a, gD b] =
  bif smG a then bif smG b then
   bif e80 a b != 0 then some ([], .tup [nilG, I (e80 a b)]) else
    some ([(ldP 0 (fnOf Tryz.f80).ntmps rel80 .normal (st80 a b p), .loop (lpB 0 (fnOf Tryz.f80).body), st80 a b (0, []))], .tup [.agg [I (W (a.w + b.w)), I a.h, .vec intK p.2], I 0])
  else none else none := by cases a; cases b; kernel_rfl
def catL (a b : Gr) : List (Tup intK) := (List.range' 0 a.h.toNat).foldl (fun out (j : Nat) => out ++ rowJ a (j : Int) ++ rowJ b (j : Int)) []
def joinD (a b : Gr) : D := .agg [I (W (a.w + b.w)), I a.h, .vec intK (catL a b)]
theorem joinRow {g : Gr} (h : chkG g = 0) {j : Nat} (hj : (j : Int) < g.h) : inJ g j = true ∧ (rowJ g j).length ≤ 1000 := by
 obtain ⟨_, h2, h3, h4, h5, _⟩ := chk_len h
 have hl := chk_mul h
 have hm := mul_bound (a := (j : Int)) (b := g.w) (by omega) (by omega) (by omega) h3
 have hm2 := mul_bound (a := (j : Int) + 1) (b := g.w) (by omega) (by omega) (by omega) h3
 have hm3 := mul_bound (a := g.h) (b := g.w) (by omega) h5 (by omega) h3
 have hs : ((j : Int) + 1) * g.w ≤ g.h * g.w := Int.mul_le_mul_of_nonneg_right (by omega) (by omega)
 have hle : (j : Int) * g.w ≤ ((j : Int) + 1) * g.w := Int.mul_le_mul_of_nonneg_right (by omega) (by omega)
 have e1 : loJ g j = (j : Int) * g.w := W_in (by omega)
 have e2 : loJ g (W ((j : Int) + 1)) = ((j : Int) + 1) * g.w := by
  unfold loJ
  rw [W_in (n := (j : Int) + 1) (by omega), W_in (by omega)]
 constructor
 ·unfold inJ
  rw [e1, e2]
  simp only [Bool.and_eq_true, decide_eq_true_eq]
  omega
 ·unfold rowJ
  rw [List.length_take, List.length_drop]
  omega
theorem join_ld (h0 : Lib0 w0) {cs : List Ct} (hcs : Gds (cfg w0) cs) {N : Nat} {rel : List (Nat × Cv)} {B : Code} {st : Gr → Gr → Int × List (Tup intK) → List D} {a b : Gr} (ca : chkG a = 0) (cb : chkG b = 0) (hh : a.h = b.h)
  (hr : ∀ j out, rndD ((cfg w0).at cs) 40 [] 40 N rel B (st a b (j, out)) = bif decide (j < a.h) then
   bif inJ a j then bif roomB (out ++ rowJ a j) then
    bif inJ b j then bif roomB (out ++ rowJ a j ++ rowJ b j) then some ([], .normal, st a b (W (j + 1), out ++ rowJ a j ++ rowJ b j)) else none else none
   else none else none
  else some ([], .exit 0, st a b (j, out))) : LdT ((cfg w0).at cs) (ldP 0 N rel .normal (st a b (((0 + a.h.toNat : Nat) : Int), catL a b))) (.loop B) (st a b (0, [])) := by
 obtain ⟨_, _, _, h4, h5, _⟩ := chk_len ca
 have hn : ((a.h.toNat : Nat) : Int) = a.h := by omega
 refine ldT_rg (at_ok (cfg_ok w0) cs) (at_sp h0 hcs) (k := a.h.toNat) (by omega) (st a b) (fun j out => (X.normal, out ++ rowJ a (j : Int) ++ rowJ b (j : Int))) (fun j out => out.length ≤ 2000 * j)
  (fun j out hj hi => .leaf (by
   have hi : out.length ≤ 2000 * j := hi
   obtain ⟨a1, a2⟩ := joinRow ca (j := j) (by omega)
   obtain ⟨b1, b2⟩ := joinRow cb (j := j) (by omega)
   have hlt : decide ((j : Int) < a.h) = true := by simp; omega
   rw [hr, hlt, a1, b1, roomB_of (by rw [List.length_append]; omega), roomB_of (by rw [List.length_append, List.length_append]; omega)]
   rfl)) (fun j out out' hj hi h => by
   cases h
   have hi : out.length ≤ 2000 * j := hi
   obtain ⟨_, a2⟩ := joinRow ca (j := j) (by omega)
   obtain ⟨_, b2⟩ := joinRow cb (j := j) (by omega)
   rw [List.length_append, List.length_append]; omega)
  (fun out _ => .leaf (by
   have hlt : decide (((a.h.toNat : Nat) : Int) < a.h) = false := by simp; omega
   rw [hr, hlt]; rfl)) (a0 := []) (by simp) (x := .exit 0) (p := (((0 + a.h.toNat : Nat) : Int), catL a b)) ?_
 exact rgRun_fold 0 (h := fun j out => out ++ rowJ a (j : Int) ++ rowJ b (j : Int)) _ _ _ (fun _ _ _ _ => rfl)
theorem e80_zero {a b : Gr} (h : e80 a b = 0) : chkG a = 0 ∧ chkG b = 0 ∧ a.h = b.h := by
 have hz := firstZ_zero h
 refine ⟨hz _ (by simp), hz _ (by simp), ?_⟩
 have := hz (whenZ (a.h != b.h) 2) (by simp)
 unfold whenZ at this
 cases hb : (a.h != b.h) with
 | true => rw [hb] at this; cases this
 | false => simpa using hb
theorem fn80 (h0 : Lib0 w0) (a b : Gr) (hg : smG a = true ∧ smG b = true) : FnD (cfg w0) 80 [gD a, gD b] (bif e80 a b != 0 then .tup [nilG, I (e80 a b)] else .tup [joinD a b, I 0]) := by
 cases he : (e80 a b != 0) with
 | true =>
   refine fnD_t (cfg_ok w0) h0 (cs80_gd h0) (fd := fnOf Tryz.f80) rfl (L := [ldP 0 (fnOf Tryz.f80).ntmps rel80 .normal (st80 a b (0, []))]) (o := []) ((body80 a b (0, [])).trans ?_) trivial
   rw [hg.1, hg.2, he]; rfl
 | false =>
   obtain ⟨ca, cb, hh⟩ := e80_zero (show e80 a b = 0 by simpa using he)
   refine fnD_lp (n := 40) (m := 40) (cfg_ok w0) h0 (cs80_gd h0) (fd := fnOf Tryz.f80) rfl ?_ (join_ld h0 (cs80_gd h0) (st := st80) ca cb hh (round80 a b))
   refine (body80 a b _).trans ?_
   rw [hg.1, hg.2, he]; rfl
end
end Go.Proofs.YthcpfignhalffaaGreatDoor
namespace Go.Proofs.YthcpfignhalffaaGreatDoor
open Go Go.Am
set_option maxRecDepth 100000
variable {w0 : World}
noncomputable section
def cs79 : List Ct := [chkC 73, whenC 132, firstC 99, hasC 129, ownC 151]
theorem cs79_gd (h0 : Lib0 w0) : Gds (cfg w0) cs79 := ⟨gd73 h0, gd132 h0, gd99 h0, gd129 h0, gd151 h0, trivial⟩
def rel79 : List (Nat × Cv) := [(3, .id), (4, .id), (5, .id), (46, .id), (47, .id), (48, .id), (6, .id), (7, .id)]
def st79 (g t : Gr) (x y : Int) (p : Int × Int) : List D := [.obox (gcs g), .obox (gcs t), .obox [I x, I y], .vec intK t.l, I t.l.length, I p.1, .obox [I 0, I 0, nilD], I p.2]
def ixO (g t : Gr) (x y j : Int) : Int := W (W (W (y + W (j.tdiv t.w)) * g.w) + W (x + j.tmod t.w))
def cflI (g t : Gr) (x y j : Int) : Bool := i1 (nth g.l (ixO g t x y j).toNat) != i1 (nth t.l j.toNat)
theorem round79 (g t : Gr) (x y j r : Int) : rndD ((cfg w0).at cs79) 40 [] 40 (fnOf Tryz.f79).ntmps rel79 (lpB 0 (fnOf Tryz.f79).body) (st79 g t x y (j, r)) =
  bif decide (j < t.l.length) then
   bif (Nat.beq 1 1 && (decide (0 ≤ j) && decide (j < t.l.length))) then
    bif decide (t.w = 0) then none else bif decide (t.w = 0) then none else
    bif (Nat.beq 1 1 && (decide (0 ≤ ixO g t x y j) && decide (ixO g t x y j < g.l.length))) then
     bif cflI g t x y j then some ([], .ret, st79 g t x y (j, 24)) else some ([], .normal, st79 g t x y (W (j + 1), r))
    else none
   else none
  else some ([], .exit 0, st79 g t x y (j, r)) := by cases g; cases t; kernel_rfl
def e79 (g t : Gr) (x y : Int) : Int := firstZ [chkG g, chkG t, whenZ (!hasB g x y) 10]
def pD (x y : Int) : D := .agg [I x, I y]
def onE (x : X) (r : Int) (d : D) : D :=
 match x with
 | .ret => .tup [nilG, I r]
 | _ => d
theorem body79 (g t : Gr) (x y : Int) (z : X) (p : Int × Int) (hz : z = .ret ∨ z = .normal) : bodyT ((cfg w0).at cs79) 40 [ldP 0 (fnOf Tryz.f79).ntmps rel79 z (st79 g t x y p)] 40 (fnOf Tryz.f79) [gD g, gD t, pD x y] =
  bif smG g then bif smG t then
   bif e79 g t x y != 0 then some ([], .tup [nilG, I (e79 g t x y)]) else
    bif decide (t.w > W (g.w - x)) then some ([], .tup [nilG, I 14]) else bif decide (t.h > W (g.h - y)) then some ([], .tup [nilG, I 14]) else
    match z with
    | .ret => some ([(ldP 0 (fnOf Tryz.f79).ntmps rel79 z (st79 g t x y p), .loop (lpB 0 (fnOf Tryz.f79).body), st79 g t x y (0, 0))], .tup [nilG, I p.2])
    | _ => bif smG g then some ([(ldP 0 (fnOf Tryz.f79).ntmps rel79 z (st79 g t x y p), .loop (lpB 0 (fnOf Tryz.f79).body), st79 g t x y (0, 0))], .tup [gD g, I 0]) else none
  else none else none := by cases g; cases t; rcases hz with rfl | rfl <;> kernel_rfl
def anyO (g t : Gr) (x y : Int) : Bool := (List.range' 0 t.l.length).any fun (j : Nat) => cflI g t x y j
def ovD (g t : Gr) (x y : Int) : D :=
 bif decide (t.w > W (g.w - x)) then .tup [nilG, I 14] else bif decide (t.h > W (g.h - y)) then .tup [nilG, I 14] else bif anyO g t x y then .tup [nilG, I 24] else .tup [gD g, I 0]
theorem ixO_in {g t : Gr} (cg : chkG g = 0) (ct : chkG t = 0) {x y : Int} (hx : 0 ≤ x) (hy : 0 ≤ y) (hx2 : x < g.w) (hy2 : y < g.h) (hw : ¬ t.w > W (g.w - x)) (hh : ¬ t.h > W (g.h - y)) {j : Nat} (hj : j < t.l.length) :
  decide (t.w = 0) = false ∧ (Nat.beq 1 1 && (decide (0 ≤ ixO g t x y j) && decide (ixO g t x y j < g.l.length))) = true := by
 obtain ⟨_, g2, g3, g4, g5, _⟩ := chk_len cg
 obtain ⟨_, t2, t3, t4, t5, _⟩ := chk_len ct
 have hgl := chk_mul cg
 have htl := chk_mul ct
 rw [W_in (by omega)] at hw hh
 refine ⟨by simp; omega, ?_⟩
 obtain ⟨n, hn⟩ : ∃ n : Nat, t.w = (n : Int) := ⟨t.w.toNat, by omega⟩
 obtain ⟨m, hm⟩ : ∃ m : Nat, t.h = (m : Int) := ⟨t.h.toNat, by omega⟩
 have hq : j / n < m := by
  rw [hn, hm] at htl
  have : t.l.length = m * n := by exact_mod_cast htl
  rw [this] at hj
  exact Nat.div_lt_of_lt_mul (by rw [Nat.mul_comm]; exact hj)
 have hr : j % n < n := Nat.mod_lt _ (by omega)
 have e1 : (j : Int).tdiv t.w = ((j / n : Nat) : Int) := by rw [hn]; rfl
 have e2 : (j : Int).tmod t.w = ((j % n : Nat) : Int) := by rw [hn]; rfl
 generalize j / n = q at hq e1
 generalize j % n = u at hr e2
 have hb := mul_bound (a := y + (q : Int)) (b := g.w) (by omega) (by omega) (by omega) g3
 have hs : (y + (q : Int) + 1) * g.w ≤ g.h * g.w := Int.mul_le_mul_of_nonneg_right (by omega) (by omega)
 rw [Int.add_mul _ 1, Int.one_mul] at hs
 have e : ixO g t x y j = (y + (q : Int)) * g.w + (x + (u : Int)) := by
  unfold ixO
  rw [e1, e2, W_in (n := (q : Int)) (by omega), W_in (n := y + (q : Int)) (by omega), W_in (n := (y + (q : Int)) * g.w) (by omega), W_in (n := x + (u : Int)) (by omega), W_in (by omega)]
 rw [e]
 show (decide _ && decide _) = true
 simp only [Bool.and_eq_true, decide_eq_true_eq]
 omega
theorem e79_zero {g t : Gr} {x y : Int} (h : e79 g t x y = 0) : chkG g = 0 ∧ chkG t = 0 ∧ hasB g x y = true := by
 have hz := firstZ_zero h
 refine ⟨hz _ (by simp), hz _ (by simp), ?_⟩
 have := hz (whenZ (!hasB g x y) 10) (by simp)
 unfold whenZ at this
 cases hb : hasB g x y with
 | false => rw [hb] at this; cases this
 | true => rfl
theorem has_in {g : Gr} {x y : Int} (h : hasB g x y = true) : 0 ≤ x ∧ 0 ≤ y ∧ x < g.w ∧ y < g.h := by
 unfold hasB at h
 simp only [Bool.and_eq_true, decide_eq_true_eq] at h
 omega
theorem fn79 (h0 : Lib0 w0) (g t : Gr) (x y : Int) (hg : smG g = true) (ht : smG t = true) : FnD (cfg w0) 79 [gD g, gD t, pD x y] (bif e79 g t x y != 0 then .tup [nilG, I (e79 g t x y)] else ovD g t x y) := by
 have flat : ∀ d, (bif smG g then bif smG t then bif e79 g t x y != 0 then some (([] : Obs), D.tup [nilG, I (e79 g t x y)]) else bif decide (t.w > W (g.w - x)) then some ([], .tup [nilG, I 14]) else bif decide (t.h > W (g.h - y)) then some ([], .tup [nilG, I 14]) else none else none else none) = some ([], d) →
   FnD (cfg w0) 79 [gD g, gD t, pD x y] d := fun d hd => by
  refine fnD_t (cfg_ok w0) h0 (cs79_gd h0) (fd := fnOf Tryz.f79) rfl (L := [ldP 0 (fnOf Tryz.f79).ntmps rel79 .normal (st79 g t x y (0, 0))]) (o := []) ((body79 g t x y .normal (0, 0) (.inr rfl)).trans ?_) trivial
  rw [hg, ht] at hd ⊢
  simp only [cond_true] at hd ⊢
  cases h1 : (e79 g t x y != 0) <;> rw [h1] at hd
  ·simp only [cond_false] at hd ⊢
   cases h2 : decide (t.w > W (g.w - x)) <;> rw [h2] at hd
   ·simp only [cond_false] at hd ⊢
    cases h3 : decide (t.h > W (g.h - y)) <;> rw [h3] at hd
    ·cases hd
    ·exact hd
   ·exact hd
  ·exact hd
 cases he : (e79 g t x y != 0) with
 | true => exact flat _ (by rw [hg, ht, he]; rfl)
 | false =>
   obtain ⟨cg, ct, hb⟩ := e79_zero (show e79 g t x y = 0 by simpa using he)
   obtain ⟨b1, b2, b3, b4⟩ := has_in hb
   unfold ovD
   cases hw : decide (t.w > W (g.w - x)) with
   | true => exact flat _ (by rw [hg, ht, he, hw]; rfl)
   | false =>
     cases hh : decide (t.h > W (g.h - y)) with
     | true => exact flat _ (by rw [hg, ht, he, hw, hh]; rfl)
     | false =>
       have hw' : ¬ t.w > W (g.w - x) := by simpa using hw
       have hh' : ¬ t.h > W (g.h - y) := by simpa using hh
       have htl : t.l.length ≤ 100000 := Nat.le_of_ble_eq_true ht
       refine fn_rg h0 (cs79_gd h0) (fd := fnOf Tryz.f79) rfl rel79 t.l.length (by omega) (st79 g t x y) (fun (j : Nat) r => bif cflI g t x y j then (X.ret, 24) else (.normal, r)) (fun _ _ => True) (a0 := 0) trivial
        (fun j r hj _ => .leaf (by
         obtain ⟨k1, k2⟩ := ixO_in cg ct b1 b2 b3 b4 hw' hh' hj
         rw [round79, inb 1 hj, lt_t hj, k1, k2]
         cases cflI g t x y j <;> rfl)) (fun _ _ _ _ _ _ => trivial)
        (fun r _ => .leaf (by rw [round79, ge_f]; rfl)) fun z p hx => ?_
       obtain ⟨q, hq⟩ := rgRun_any (id := 0) (p := fun (j : Nat) => cflI g t x y j) (c := (24 : Int)) t.l.length 0 (0 : Int)
       rw [hq] at hx
       have ha : ((List.range' 0 t.l.length).any fun (j : Nat) => cflI g t x y j) = anyO g t x y := rfl
       rw [ha] at hx
       cases hs : anyO g t x y <;> rw [hs] at hx <;> cases hx
       ·exact (body79 g t x y _ _ (.inr rfl)).trans (by rw [hg, ht, he, hw, hh]; rfl)
       ·exact (body79 g t x y _ _ (.inl rfl)).trans (by rw [hg, ht, he, hw, hh]; rfl)
end
end Go.Proofs.YthcpfignhalffaaGreatDoor
namespace Go.Proofs.YthcpfignhalffaaGreatDoor
open Go Go.Am
set_option maxRecDepth 100000
variable {w0 : World}
noncomputable section
theorem giveOK_nil_agg {G : Gl} {GB : Nat} {w w' : World} {ks : List Kd} (hf : okK ks = true) (hs : 0 < ks.length) {a b e : Value} (ha : scal a = true) (hb : scal b = true) (he : scal e = true) {u : Value} (h : GiveOK G GB w w' (.tup [.agg [.val a, .val b, .val (.slice none 0 0)], .val e]) u) : GiveOK G GB w w' (.tup [.agg [.val a, .val b, .vec ks []], .val e]) u := fun r0 h0 H0 => by
 obtain ⟨r1, S, H, v⟩ := h r0 h0 H0
 simp only [imp, imps] at S H v ⊢
 obtain ⟨a1, a2, _⟩ := H.nothing hf hs [] rfl true
 refine ⟨_, S.trans a2, a1, ?_⟩
 obtain ⟨us, rfl, hus⟩ : ∃ us : List Value, u = .tuple us.toArray ∧ VRs r1 [.agg #[a, b, .slice none 0 0], e] us := by
  cases v
  ·rename_i hh; simp [Am.scal] at hh
  ·rename_i xs' hx hh; exact ⟨xs'.toList, by simp, VRs.of_arr hx hh⟩
 refine VRs.tup ?_
 obtain ⟨u0, u1, rfl⟩ : ∃ u0 u1, us = [u0, u1] := by
  have := hus.1
  match us, this with
  | [x, y], _ => exact ⟨x, y, rfl⟩
 obtain ⟨y0, e0, v0⟩ := hus.2 0 _ rfl
 obtain ⟨y1, e1, v1⟩ := hus.2 1 _ rfl
 simp only [List.getElem?_cons_zero, List.getElem?_cons_succ, Option.some.injEq] at e0 e1
 subst e0 e1
 have := v1.scal_eq he
 subst this
 obtain ⟨zs, hz, hzs⟩ : ∃ zs : List Value, u0 = Value.agg zs.toArray ∧ VRs r1 [a, b, .slice none 0 0] zs := by
  cases v0
  ·exact ⟨[a, b, .slice none 0 0], rfl, rfl, fun j x hj => ⟨x, hj, by
    match j, hj with
    | 0, hj => cases hj; exact .scal _ ha
    | 1, hj => cases hj; exact .scal _ hb
    | 2, hj => cases hj; exact .scal _ rfl⟩⟩
  ·rename_i xs' hx hh; exact ⟨xs'.toList, by simp, VRs.of_arr hx hh⟩
 subst hz
 obtain ⟨z0, z1, z2, rfl⟩ : ∃ z0 z1 z2, zs = [z0, z1, z2] := by
  have := hzs.1
  match zs, this with
  | [x, y, z], _ => exact ⟨x, y, z, rfl⟩
 obtain ⟨x0, f0, k0⟩ := hzs.2 0 _ rfl
 obtain ⟨x1, f1, k1⟩ := hzs.2 1 _ rfl
 obtain ⟨x2, f2, k2⟩ := hzs.2 2 _ rfl
 simp only [List.getElem?_cons_zero, List.getElem?_cons_succ, Option.some.injEq] at f0 f1 f2
 subst f0 f1 f2
 have := k0.scal_eq ha
 subst this
 have := k1.scal_eq hb
 subst this
 have := k2.scal_eq rfl
 subst this
 refine VRs.cons (.agg _ _ rfl fun j h1 h2 => ?_) (VRs.cons (.scal _ he) (VRs.nil _))
 match j, h1 with
 | 0, _ => exact .scal _ ha
 | 1, _ => exact .scal _ hb
 | 2, _ => exact VR.asl (K0 + h0.length) 0 ks.length _ (.slice none 0 0) (Ren.put_self ..) (by omega) ⟨rfl, hs, by simp, .inl ⟨rfl, .inl rfl⟩⟩
def g0 : Gr := ⟨0, 0, []⟩
theorem fnD_nilG {g : FuncId} {ds : List D} {e : Int} (h : FnD (cfg w0) g ds (.tup [nilG, I e])) : FnD (cfg w0) g ds (.tup [gD g0, I e]) := fun w args hb hi =>
 (h w args hb hi).mono fun _ _ ⟨u, a, b⟩ => ⟨u, a, giveOK_nil_agg (ks := intK) rfl (by decide) rfl rfl rfl b⟩
def grE (p : Gr × Int) : D := .tup [gD p.1, I p.2]
theorem fnD_grE {g : FuncId} {ds : List D} {c : Bool} {e : Int} {x : Gr} (h : FnD (cfg w0) g ds (bif c then .tup [nilG, I e] else .tup [gD x, I 0])) : FnD (cfg w0) g ds (grE (bif c then (g0, e) else (x, 0))) := by
 cases c with
 | true => exact fnD_nilG h
 | false => exact h
def tileG (g : Gr) (b : Bx) : Gr := ⟨W (b.c1 - b.c0), W (b.r1 - b.r0), tileL g b⟩
def joinG (a b : Gr) : Gr := ⟨W (a.w + b.w), a.h, catL a b⟩
def joinX (a b : Gr) : Gr × Int := bif e80 a b != 0 then (g0, e80 a b) else (joinG a b, 0)
def ovX (g t : Gr) (x y : Int) : Gr × Int :=
 bif decide (t.w > W (g.w - x)) then (g0, 14) else bif decide (t.h > W (g.h - y)) then (g0, 14) else bif anyO g t x y then (g0, 24) else (g, 0)
theorem fnD_ov {g : FuncId} {ds : List D} {a t : Gr} {x y : Int} (h : FnD (cfg w0) g ds (ovD a t x y)) : FnD (cfg w0) g ds (grE (ovX a t x y)) := by
 unfold ovD at h
 unfold ovX
 cases h1 : decide (t.w > W (a.w - x)) <;> rw [h1] at h
 ·cases h2 : decide (t.h > W (a.h - y)) <;> rw [h2] at h
  ·cases h3 : anyO a t x y <;> rw [h3] at h
   ·exact h
   ·exact fnD_nilG h
  ·exact fnD_nilG h
 ·exact fnD_nilG h
def overX (g t : Gr) (x y : Int) : Gr × Int := bif e79 g t x y != 0 then (g0, e79 g t x y) else ovX g t x y
end
end Go.Proofs.YthcpfignhalffaaGreatDoor
