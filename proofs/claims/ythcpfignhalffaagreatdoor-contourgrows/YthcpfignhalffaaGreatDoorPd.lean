/-
 A part of the proof of the statement that the claim names: see the last file.
-/
import Derived.Test.YthcpfignhalffaaGreatDoorPc
import Derived.Test.YthcpfignhalffaaGreatDoorAm4
import Derived.Test.YthcpfignhalffaaGreatDoorP1
namespace Go.Proofs.YthcpfignhalffaaGreatDoor
open Go Go.Am
set_option maxRecDepth 100000
variable {w0 : World}
noncomputable section
theorem firstZ_nil' : ∀ {l : List Int}, firstZ l = 0 → ∀ e ∈ l, e = 0
 | [], _, e, he => by cases he
 | x :: xs, h, e, he => by
   unfold firstZ at h
   cases hx : (x != 0) with
   | true => rw [hx] at h; simp only [cond_true] at h; rw [h] at hx; cases hx
   | false =>
     rw [hx] at h
     rcases List.mem_cons.1 he with rfl | he
     ·simpa using hx
     ·exact firstZ_nil' h e he
def addS (l : List (Tup ptK)) (j : Nat) (s : Int × Int) : Int × Int := (W (s.1 + p1 (nth l j)), W (s.2 + p2 (nth l j)))
def accS (p : Nat → Bool) (l : List (Tup ptK)) (j : Nat) (s : Int × Int) : Int × Int := bif p j then addS l j s else s
def accX (p : Nat → Bool) (l : List (Tup ptK)) : Int × Int := (List.range' 0 l.length).foldl (fun s j => accS p l j s) (0, 0)
def relEx : List (Nat × Cv) := [(8, .id), (9, .id), (10, .id), (5, .id), (1, .id), (4, .id)]
def stEx (l : List (Tup ptK)) (f : D) (p : Int × (Int × Int)) : List D := [.vec ptK l, I l.length, I p.1, .obox [I p.2.1, I p.2.2], f, .obox [I 0, I 0]]
def inFl (l : List (Tup flK)) (j : Int) : Bool := Nat.beq 1 1 && (decide (0 ≤ j) && decide (j < l.length))
theorem inFl_nat {l : List (Tup flK)} {j : Nat} (h : j < l.length) : inFl l (j : Int) = true := inb 1 h
def fA (fl : List (Tup flK)) : D := .fn 121 [] [.box [.vec flK fl]]
def fB (g : Gr) (n e : Int) : D := .fn 123 [] [.box (gcs g), .box [I n], .box [I e]]
def treeA (l : List (Tup ptK)) (fl : List (Tup flK)) (j : Int) (s : Int × Int) : Rn :=
 bif decide (j < l.length) then bif inP l j then bif inFl fl j then bif b1 (nth fl j.toNat) then some ([], .normal, stEx l (fA fl) (W (j + 1), addS l j.toNat s)) else some ([], .normal, stEx l (fA fl) (W (j + 1), s)) else none else none
 else some ([], .exit 0, stEx l (fA fl) (j, s))
def treeB (l : List (Tup ptK)) (g : Gr) (n e : Int) (j : Int) (s : Int × Int) : Rn :=
 bif decide (j < l.length) then bif inP l j then bif inO g.l j then
  bif decide (levR (i1 (nth g.l j.toNat)) ≥ n) then bif decide (levR (i1 (nth g.l j.toNat)) < e) then some ([], .normal, stEx l (fB g n e) (W (j + 1), addS l j.toNat s)) else some ([], .normal, stEx l (fB g n e) (W (j + 1), s))
  else some ([], .normal, stEx l (fB g n e) (W (j + 1), s)) else none else none
 else some ([], .exit 0, stEx l (fB g n e) (j, s))
theorem roundA (l : List (Tup ptK)) (fl : List (Tup flK)) (j a b : Int) : rndD ((cfg w0).at [c124]) 40 [] 40 (fnOf Tryz.f120).ntmps relEx (lpB 0 (fnOf Tryz.f120).body) (stEx l (fA fl) (j, (a, b))) = treeA l fl j (a, b) := by kernel_rfl
theorem roundB (l : List (Tup ptK)) (g : Gr) (n e j a b : Int) : rndD ((cfg w0).at [c124]) 40 [] 40 (fnOf Tryz.f120).ntmps relEx (lpB 0 (fnOf Tryz.f120).body) (stEx l (fB g n e) (j, (a, b))) = treeB l g n e j (a, b) := by cases g; kernel_rfl
def tbEx (l : List (Tup ptK)) (f : D) (p : Int × (Int × Int)) : Option (Obs × D) := some ([(ldP 0 (fnOf Tryz.f120).ntmps relEx .normal (stEx l f p), .loop (lpB 0 (fnOf Tryz.f120).body), stEx l f (0, (0, 0)))], .agg [I p.2.1, I p.2.2])
theorem bodyA (l : List (Tup ptK)) (fl : List (Tup flK)) (p : Int × (Int × Int)) : bodyT ((cfg w0).at [c124]) 40 [ldP 0 (fnOf Tryz.f120).ntmps relEx .normal (stEx l (fA fl) p)] 40 (fnOf Tryz.f120) [.vec ptK l, fA fl] = tbEx l (fA fl) p := by kernel_rfl
theorem bodyB (l : List (Tup ptK)) (g : Gr) (n e : Int) (p : Int × (Int × Int)) : bodyT ((cfg w0).at [c124]) 40 [ldP 0 (fnOf Tryz.f120).ntmps relEx .normal (stEx l (fB g n e) p)] 40 (fnOf Tryz.f120) [.vec ptK l, fB g n e] = tbEx l (fB g n e) p := by cases g; kernel_rfl
theorem fnEx (h0 : Lib0 w0) (l : List (Tup ptK)) (f : D) (p : Nat → Bool) (hl : l.length ≤ 100000)
  (hr : ∀ (j : Nat) s, j < l.length → rndD ((cfg w0).at [c124]) 40 [] 40 (fnOf Tryz.f120).ntmps relEx (lpB 0 (fnOf Tryz.f120).body) (stEx l f (j, s)) = some ([], .normal, stEx l f (W (j + 1), accS p l j s)))
  (he : ∀ s, rndD ((cfg w0).at [c124]) 40 [] 40 (fnOf Tryz.f120).ntmps relEx (lpB 0 (fnOf Tryz.f120).body) (stEx l f (l.length, s)) = some ([], .exit 0, stEx l f (l.length, s)))
  (hb : ∀ q, bodyT ((cfg w0).at [c124]) 40 [ldP 0 (fnOf Tryz.f120).ntmps relEx .normal (stEx l f q)] 40 (fnOf Tryz.f120) [.vec ptK l, f] = tbEx l f q) : FnD (cfg w0) 120 [.vec ptK l, f] (.agg [I (accX p l).1, I (accX p l).2]) := by
 refine fn_rg h0 (cs := [c124]) ⟨gd124 h0, trivial⟩ (fd := fnOf Tryz.f120) rfl relEx l.length (by omega) (stEx l f) (fun j s => (X.normal, accS p l j s)) (fun _ _ => True) (a0 := (0, 0)) trivial
  (fun j s hj _ => .leaf (hr j s hj)) (fun _ _ _ _ _ _ => trivial) (fun s _ => .leaf (he s)) fun x q hx => ?_
 rw [rgRun_fold 0 (h := fun j s => accS p l j s) _ _ _ (fun _ _ _ _ => rfl)] at hx
 cases hx
 exact hb _
def asA (d : D) : Option (List (Tup flK)) := match d with
 | .fn 121 [] [.box [.vec ks l]] => recast ks flK l
 | _ => none
theorem asA_eq {d : D} {l : List (Tup flK)} (h : asA d = some l) : d = fA l := by
 unfold asA at h
 split at h
 ·obtain ⟨e, rfl⟩ := recast_eq h
  subst e
  rfl
 ·cases h
def asB (d : D) : Option (Gr × Int × Int) := match d with
 | .fn 123 [] [.box [.val (.int .i64 w), .val (.int .i64 h), .vec ks l], .box [.val (.int .i64 n)], .box [.val (.int .i64 e)]] => match recast ks intK l with
   | some l => some (⟨w, h, l⟩, n, e)
   | none => none
 | _ => none
theorem asB_eq {d : D} {x : Gr × Int × Int} (h : asB d = some x) : d = fB x.1 x.2.1 x.2.2 := by
 unfold asB at h
 split at h
 ·split at h
  ·rename_i hr
   cases h
   obtain ⟨e, rfl⟩ := recast_eq hr
   subst e
   rfl
  ·cases h
 ·cases h
def prB (g : Gr) (n e : Int) (j : Nat) : Bool := decide (levR (i1 (nth g.l j)) ≥ n) && decide (levR (i1 (nth g.l j)) < e)
def c120 : Ct := ct 120 [.v ptK, .x] fun a => match asA a.2.1 with
 | some fl => .br (smP a.1 && Nat.beq (a.1 : List (Tup ptK)).length fl.length) (.leaf (.agg [I (accX (fun j => b1 (nth fl j)) a.1).1, I (accX (fun j => b1 (nth fl j)) a.1).2])) .bad
 | none => match asB a.2.1 with
   | some x => .br (smP a.1 && Nat.beq (a.1 : List (Tup ptK)).length x.1.l.length) (.leaf (.agg [I (accX (prB x.1 x.2.1 x.2.2) a.1).1, I (accX (prB x.1 x.2.1 x.2.2) a.1).2])) .bad
   | none => .bad
theorem fn120A (h0 : Lib0 w0) (l : List (Tup ptK)) (fl : List (Tup flK)) (hl : l.length ≤ 100000) (he : l.length = fl.length) : FnD (cfg w0) 120 [.vec ptK l, fA fl] (.agg [I (accX (fun j => b1 (nth fl j)) l).1, I (accX (fun j => b1 (nth fl j)) l).2]) :=
 fnEx h0 l (fA fl) _ hl (fun j s hj => (roundA l fl j s.1 s.2).trans (by
   unfold treeA accS
   rw [lt_t hj, inP_nat hj, inFl_nat (by omega), Int.toNat_natCast]
   show (bif b1 (nth fl j) then _ else _) = some ([], X.normal, stEx l (fA fl) (W ((j : Int) + 1), bif b1 (nth fl j) then addS l j s else s))
   cases b1 (nth fl j) <;> rfl))
  (fun s => (roundA l fl _ s.1 s.2).trans (by unfold treeA; rw [ge_f]; rfl)) (fun q => bodyA l fl q)
theorem fn120B (h0 : Lib0 w0) (l : List (Tup ptK)) (g : Gr) (n e : Int) (hl : l.length ≤ 100000) (he : l.length = g.l.length) : FnD (cfg w0) 120 [.vec ptK l, fB g n e] (.agg [I (accX (prB g n e) l).1, I (accX (prB g n e) l).2]) :=
 fnEx h0 l (fB g n e) _ hl (fun j s hj => (roundB l g n e j s.1 s.2).trans (by
   unfold treeB accS prB
   rw [lt_t hj, inP_nat hj, inO_nat (by omega), Int.toNat_natCast]
   cases decide (levR (i1 (nth g.l j)) ≥ n) <;> cases decide (levR (i1 (nth g.l j)) < e) <;> rfl))
  (fun s => (roundB l g n e _ s.1 s.2).trans (by unfold treeB; rw [ge_f]; rfl)) (fun q => bodyB l g n e q)
theorem gd120 (h0 : Lib0 w0) : Gd (cfg w0) c120 := gd_sig fun a d hd => by
 obtain ⟨l, f, u⟩ := a
 simp only at hd
 cases ha : asA f with
 | some fl =>
   rw [ha] at hd
   obtain ⟨hg, hd⟩ := br_run hd
   cases hd
   cases asA_eq ha
   rw [Bool.and_eq_true] at hg
   exact fn120A h0 l fl (Nat.le_of_ble_eq_true hg.1) (Nat.eq_of_beq_eq_true hg.2)
 | none =>
   rw [ha] at hd
   simp only at hd
   cases hb : asB f with
   | none => rw [hb] at hd; cases hd
   | some x =>
     rw [hb] at hd
     obtain ⟨hg, hd⟩ := br_run hd
     cases hd
     cases asB_eq hb
     rw [Bool.and_eq_true] at hg
     exact fn120B h0 l x.1 x.2.1 x.2.2 (Nat.le_of_ble_eq_true hg.1) (Nat.eq_of_beq_eq_true hg.2)
def zI : D := .agg [I 0, I 0]
def iD (s : Int × Int) : D := .agg [I s.1, I s.2]
def e31 (g : Gr) (l : List (Tup ptK)) (v : Int) : Int := firstZ [chkPe g l, withinZ v 0 maxL]
def abP (g : Gr) (v : Int) (j : Nat) : Bool := b1 (nth (g.l.map (abE v)) j)
def cs31 : List Ct := [chkC 73, chkPeC 119, rangeC 100 0 maxL, firstC 99, c102, c120]
theorem cs31_gd (h0 : Lib0 w0) : Gds (cfg w0) cs31 := ⟨gd73 h0, gd119 h0, gd100 h0, gd99 h0, gd102 h0, gd120 h0, trivial⟩
theorem run31 (g : Gr) (l : List (Tup ptK)) (v : Int) : bodyK ((cfg w0).at cs31) 40 (fnOf Tryz.f31) [gD g, .vec ptK l, I v] =
  bif smG g then bif chkG g != 0 then some (.tup [zI, I (chkG g)]) else
   bif smP l then bif e31 g l v != 0 then some (.tup [zI, I (e31 g l v)]) else
   bif smG g then bif smP l && Nat.beq l.length (g.l.map (abE v)).length then some (.tup [iD (accX (abP g v) l), I 0]) else none else none else none else none := by cases g; kernel_rfl
def exX (g : Gr) (l : List (Tup ptK)) (v : Int) : (Int × Int) × Int := bif chkG g != 0 then ((0, 0), chkG g) else bif e31 g l v != 0 then ((0, 0), e31 g l v) else (accX (abP g v) l, 0)
theorem chkPe_zero {g : Gr} {l : List (Tup ptK)} (h : chkPe g l = 0) : l.length = g.l.length ∧ ∀ p ∈ l, ivZ p = 0 := by
 unfold chkPe at h
 cases hb : ((l.length : Int) != g.l.length) with
 | true => rw [hb] at h; cases h
 | false =>
   rw [hb] at h
   exact ⟨Int.ofNat.inj (by simpa using hb), fun p hp => firstZ_nil' h _ (List.mem_map_of_mem hp)⟩
theorem e31_zero {g : Gr} {l : List (Tup ptK)} {v : Int} (h : e31 g l v = 0) : chkPe g l = 0 := firstZ_nil' h _ (by simp)
def c31 : Ct := gC 31 [.v ptK, .c ik] fun g a => .br (smG g && smP a.1) (.leaf (.tup [iD (exX g a.1 a.2.1).1, I (exX g a.1 a.2.1).2])) .bad
theorem fn31 (h0 : Lib0 w0) (g : Gr) (l : List (Tup ptK)) (v : Int) (hg : smG g = true) (hP : smP l = true) : FnD (cfg w0) 31 [gD g, .vec ptK l, I v] (.tup [iD (exX g l v).1, I (exX g l v).2]) := by
 refine fnD_k (cfg_ok w0) h0 (cs31_gd h0) (fd := fnOf Tryz.f31) rfl (n := 40) ((run31 g l v).trans ?_)
 unfold exX
 rw [hg, hP]
 cases hc : (chkG g != 0) with
 | true => rfl
 | false =>
   cases he : (e31 g l v != 0) with
   | true => rfl
   | false =>
     have := chkPe_zero (e31_zero (show e31 g l v = 0 by simpa using he))
     rw [List.length_map, show Nat.beq l.length g.l.length = true from (Nat.beq_eq ..).mpr this.1]
     rfl
theorem gd31 (h0 : Lib0 w0) : Gd (cfg w0) c31 := gd_g fun g a d hd => by
 obtain ⟨hg, hd⟩ := br_run hd
 cases hd
 rw [Bool.and_eq_true] at hg
 exact fn31 h0 g a.1 a.2.1 hg.1 hg.2
end
end Go.Proofs.YthcpfignhalffaaGreatDoor
namespace Go.Proofs.YthcpfignhalffaaGreatDoor
open Go Go.Am
set_option maxRecDepth 100000
variable {w0 : World}
noncomputable section
def lvE (n last : Int) : Int := firstZ [withinZ n 0 maxL, whenZ (decide (n ≤ last)) 11]
def lvF : Int → List Int → Int
 | _, [] => 0
 | last, n :: ns => bif lvE n last != 0 then lvE n last else lvF n ns
def lvL (l : List (Tup intK)) : Int := firstZ [whenZ ((l.length : Int) == 0) 12, whenZ (decide ((l.length : Int) > 8)) 5]
def chkL (l : List (Tup intK)) : Int := bif lvL l != 0 then lvL l else lvF (-1) (l.map i1)
def cs122 : List Ct := [whenC 132, firstC 99, rangeC 100 0 maxL]
theorem cs122_gd (h0 : Lib0 w0) : Gds (cfg w0) cs122 := ⟨gd132 h0, gd99 h0, gd100 h0, trivial⟩
def rel122 : List (Nat × Cv) := [(21, .id), (22, .id), (23, .id), (4, .id), (2, .id)]
def st122 (l : List (Tup intK)) (p : Int × (Int × Int)) : List D := [.vec intK l, I l.length, I p.1, I p.2.1, I p.2.2]
def tree122 (l : List (Tup intK)) (j last e : Int) : Rn :=
 bif decide (j < l.length) then bif inO l j then
  bif lvE (i1 (nth l j.toNat)) last != 0 then some ([], .ret, st122 l (j, (last, lvE (i1 (nth l j.toNat)) last))) else some ([], .normal, st122 l (W (j + 1), (i1 (nth l j.toNat), e)))
 else none else some ([], .exit 0, st122 l (j, (last, e)))
theorem round122 (l : List (Tup intK)) (j last e : Int) : rndD ((cfg w0).at cs122) 40 [] 40 (fnOf Tryz.f122).ntmps rel122 (lpB 0 (fnOf Tryz.f122).body) (st122 l (j, (last, e))) = tree122 l j last e := by kernel_rfl
theorem body122 (l : List (Tup intK)) (x : X) (p : Int × (Int × Int)) (hx : x = .ret ∨ x = .normal) : bodyT ((cfg w0).at cs122) 40 [ldP 0 (fnOf Tryz.f122).ntmps rel122 x (st122 l p)] 40 (fnOf Tryz.f122) [.vec intK l] =
  bif lvL l != 0 then some ([], I (lvL l)) else some ([(ldP 0 (fnOf Tryz.f122).ntmps rel122 x (st122 l p), .loop (lpB 0 (fnOf Tryz.f122).body), st122 l (0, (-1, 0)))], onX x (I p.2.2) (I 0)) := by
 rcases hx with rfl | rfl <;> kernel_rfl
theorem lvRun : ∀ (l : List (Tup intK)) (i : Nat) (last e : Int), ∃ (q : Nat) (la : Int), lsRun 0 (fun (x : Tup intK) (s : Int × Int) => bif lvE (i1 x) s.1 != 0 then (X.ret, (s.1, lvE (i1 x) s.1)) else (.normal, (i1 x, s.2))) l i (last, e) =
  bif lvF last (l.map i1) != 0 then (.ret, ((q : Int), (la, lvF last (l.map i1)))) else (.exit 0, (((i + l.length : Nat) : Int), (la, e)))
 | [], i, last, e => ⟨0, last, rfl⟩
 | x :: xs, i, last, e => by
   obtain ⟨q, la, hq⟩ := lvRun xs (i + 1) (i1 x) e
   unfold lsRun
   rw [List.map_cons]
   unfold lvF
   cases hx : (lvE (i1 x) last != 0) with
   | true => exact ⟨i, last, by simp only [hx, cond_true]⟩
   | false =>
     refine ⟨q, la, ?_⟩
     simp only [cond_false]
     rw [hq]
     simp only [List.length_cons, show i + 1 + xs.length = i + (xs.length + 1) by omega]
theorem fn122 (h0 : Lib0 w0) (l : List (Tup intK)) (hl : l.length ≤ 100000) : FnD (cfg w0) 122 [.vec intK l] (I (chkL l)) := by
 unfold chkL
 cases he : (lvL l != 0) with
 | true =>
   refine fnD_t (cfg_ok w0) h0 (cs122_gd h0) (fd := fnOf Tryz.f122) rfl (L := [ldP 0 (fnOf Tryz.f122).ntmps rel122 .normal (st122 l (0, (0, 0)))]) (o := []) ((body122 l .normal (0, (0, 0)) (.inr rfl)).trans ?_) trivial
   rw [he]; rfl
 | false =>
   refine fn_ls h0 (cs122_gd h0) (fd := fnOf Tryz.f122) rfl rel122 l (by omega) (st122 l) (fun (x : Tup intK) (s : Int × Int) => bif lvE (i1 x) s.1 != 0 then (X.ret, (s.1, lvE (i1 x) s.1)) else (.normal, (i1 x, s.2))) (fun _ _ => True) (a0 := (-1, 0)) trivial
    (fun j s hj _ => .leaf (by
     refine (round122 l j s.1 s.2).trans ?_
     unfold tree122
     rw [inO_nat hj, lt_t hj, Int.toNat_natCast]
     cases (lvE (i1 (nth l j)) s.1 != 0) <;> rfl)) (fun _ _ _ _ _ _ => trivial)
    (fun s _ => .leaf ((round122 l _ s.1 s.2).trans (by unfold tree122; rw [ge_f]; rfl))) fun x p hx => ?_
   obtain ⟨q, la, hq⟩ := lvRun l 0 (-1) 0
   rw [hq] at hx
   simp only [cond_false]
   cases hf : (lvF (-1) (l.map i1) != 0) <;> rw [hf] at hx <;> cases hx
   ·rw [show lvF (-1) (l.map i1) = 0 by simpa using hf]
    exact (body122 l _ _ (.inr rfl)).trans (by rw [he]; rfl)
   ·exact (body122 l _ _ (.inl rfl)).trans (by rw [he]; rfl)
def chkLC (g : Nat) : Ct := ct g [.v intK] fun a => .br (Nat.ble (a.1 : List (Tup intK)).length 100000) (.leaf (I (chkL a.1))) .bad
theorem gd122 (h0 : Lib0 w0) : Gd (cfg w0) (chkLC 122) := gd_sig fun a d hd => by
 obtain ⟨hg, hd⟩ := br_run hd
 cases hd
 exact fn122 h0 a.1 (Nat.le_of_ble_eq_true hg)
def prR (x : List (Tup intK)) (lo hi : Int) (j : Nat) : Bool := decide (i1 (nth x j) ≥ lo) && decide (i1 (nth x j) < hi)
end
end Go.Proofs.YthcpfignhalffaaGreatDoor
namespace Go.Proofs.YthcpfignhalffaaGreatDoor
open Go Go.Am
set_option maxRecDepth 100000
variable {w0 : World}
noncomputable section
theorem within_zero {n lo hi : Int} (h : withinZ n lo hi = 0) : lo ≤ n ∧ n ≤ hi := by
 unfold withinZ whenZ at h
 by_cases h1 : n < lo
 ·simp [h1] at h
 ·by_cases h2 : n > hi
  ·simp [h2] at h
  ·omega
def sumB (g : Gr) (lo hi : Int) (l : List (Tup ptK)) : Int × Int := accX (prR (g.l.map lbE) lo hi) l
def iT (s : Int × Int) : Tup ptK := (s.1, s.2, ())
def roomV (o : List (Tup ptK)) : Bool := Nat.ble (o.length * 16) 1000000000000 && Nat.ble o.length 1000000000000
def nx1 (j : Int) : Int := IntKind.i64.wrap (j + 1)
def e33 (g : Gr) (l : List (Tup ptK)) (lv : List (Tup intK)) : Int := firstZ [chkPe g l, chkL lv]
def cs33 : List Ct := [chkC 73, chkPeC 119, chkLC 122, firstC 99, c120]
def rel33 : List (Nat × Cv) := [(3, .id), (1, .id), (2, .id), (29, .id), (30, .id), (31, .id), (10, .ov ptK)]
def st33 (g : Gr) (l : List (Tup ptK)) (lv : List (Tup intK)) (p : Int × List (Tup ptK)) : List D := [.obox (gcs g), .vec ptK l, .vec intK lv, .vec intK lv, I lv.length, I p.1, .ovec ptK p.2]
def app33 (g : Gr) (l : List (Tup ptK)) (lv : List (Tup intK)) (j hi : Int) (o : List (Tup ptK)) : Rn :=
 bif smP l && Nat.beq l.length g.l.length then
  bif roomV (o ++ [iT (accX (prB g (i1 (nth lv j.toNat)) hi) l)]) then some ([], .normal, st33 g l lv (W (j + 1), o ++ [iT (accX (prB g (i1 (nth lv j.toNat)) hi) l)])) else none
 else none
def tree33 (g : Gr) (l : List (Tup ptK)) (lv : List (Tup intK)) (j : Int) (o : List (Tup ptK)) : Rn :=
 bif decide (j < lv.length) then bif inO lv j then bif decide (nx1 j < lv.length) then bif inO lv (nx1 j) then app33 g l lv j (i1 (nth lv (nx1 j).toNat)) o else none else app33 g l lv j 121 o else none
 else some ([], .exit 0, st33 g l lv (j, o))
theorem round33 (g : Gr) (l : List (Tup ptK)) (lv : List (Tup intK)) (j : Int) (o : List (Tup ptK)) : rndD ((cfg w0).at cs33) 40 [] 40 (fnOf Tryz.f33).ntmps rel33 (lpB 0 (fnOf Tryz.f33).body) (st33 g l lv (j, o)) = tree33 g l lv j o := by cases g; kernel_rfl
theorem body33 (g : Gr) (l : List (Tup ptK)) (lv : List (Tup intK)) (p : Int × List (Tup ptK)) : bodyT ((cfg w0).at cs33) 40 [ldP 0 (fnOf Tryz.f33).ntmps rel33 .normal (st33 g l lv p)] 40 (fnOf Tryz.f33) [gD g, .vec ptK l, .vec intK lv] =
  bif smG g then bif chkG g != 0 then some ([], .tup [nilD, I (chkG g)]) else
   bif smP l then bif Nat.ble lv.length 100000 then bif e33 g l lv != 0 then some ([], .tup [nilD, I (e33 g l lv)]) else
   some ([(ldP 0 (fnOf Tryz.f33).ntmps rel33 .normal (st33 g l lv p), .loop (lpB 0 (fnOf Tryz.f33).body), st33 g l lv (0, []))], .tup [.vec ptK p.2, I 0])
  else none else none else none := by cases g; kernel_rfl
theorem run32 (l : List (Tup ptK)) : bodyK ((cfg w0).at []) 40 (fnOf Tryz.f32) [.vec ptK l] = bif roomV ([] ++ l) then some (.vec ptK ([] ++ l)) else none := by kernel_rfl
def c32 : Ct := ct 32 [.v ptK] fun a => .br (smP a.1) (.leaf (.vec ptK a.1)) .bad
theorem roomV_own {l : List (Tup ptK)} (h : l.length ≤ 1000000) : roomV ([] ++ l) = true := by
 unfold roomV
 simp only [List.nil_append, Bool.and_eq_true, Nat.ble_eq]
 omega
theorem gd32 (h0 : Lib0 w0) : Gd (cfg w0) c32 := gd_sig fun a d hd => by
 obtain ⟨hg, hd⟩ := br_run hd
 cases hd
 obtain ⟨l, u⟩ := a
 have key := run32 (w0 := w0) l
 rw [roomV_own (show List.length (α := Tup ptK) l ≤ 1000000 from Nat.le_trans (Nat.le_of_ble_eq_true hg) (by decide))] at key
 exact fnD_k (cfg_ok w0) h0 (cs := []) trivial (fd := fnOf Tryz.f32) rfl (n := 40) key
def numB (have_ e bad want : Int) : Bool := (have_ == (bif bad != 0 then 0 else want)) && (e == bad)
end
end Go.Proofs.YthcpfignhalffaaGreatDoor
namespace Go.Proofs.YthcpfignhalffaaGreatDoor
open Go Go.Am
set_option maxRecDepth 100000
variable {w0 : World}
noncomputable section
def hiZ (lv : List (Tup intK)) (j : Nat) : Int := if j + 1 < lv.length then i1 (nth lv (j + 1)) else 121
def clsR (g : Gr) (l : List (Tup ptK)) (lv : List (Tup intK)) : List (Tup ptK) := (List.range' 0 lv.length).map fun j => iT (sumB g (i1 (nth lv j)) (hiZ lv j) l)
def clsP (g : Gr) (l : List (Tup ptK)) (lv : List (Tup intK)) : List (Tup ptK) := (List.range' 0 lv.length).map fun j => iT (accX (prB g (i1 (nth lv j)) (hiZ lv j)) l)
theorem roomV_ok {o : List (Tup ptK)} {x : Tup ptK} (h : o.length ≤ 1000000) : roomV (o ++ [x]) = true := room h (by omega)
theorem nx1_nat {j : Nat} (h : j ≤ 100000) : nx1 (j : Int) = ((j + 1 : Nat) : Int) := by
 unfold nx1
 rw [show IntKind.i64.wrap ((j : Int) + 1) = (j : Int) + 1 from W_in (by omega)]; rfl
def clX (g : Gr) (l : List (Tup ptK)) (lv : List (Tup intK)) : List (Tup ptK) × Int := bif chkG g != 0 then ([], chkG g) else bif e33 g l lv != 0 then ([], e33 g l lv) else (clsP g l lv, 0)
theorem cs33_gd (h0 : Lib0 w0) : Gds (cfg w0) cs33 := ⟨gd73 h0, gd119 h0, gd122 h0, gd99 h0, gd120 h0, trivial⟩
theorem fn_nilV {g : FuncId} {ds : List D} {e : Int} (h : FnD (cfg w0) g ds (.tup [nilD, I e])) : FnD (cfg w0) g ds (.tup [.vec ptK [], I e]) := FnD.nil_vec (vs := [.int .i64 e]) rfl (by decide) h
theorem fn33 (h0 : Lib0 w0) (g : Gr) (l : List (Tup ptK)) (lv : List (Tup intK)) (hg : smG g = true) (hP : smP l = true) (hl : Nat.ble lv.length 100000 = true) : FnD (cfg w0) 33 [gD g, .vec ptK l, .vec intK lv] (.tup [.vec ptK (clX g l lv).1, I (clX g l lv).2]) := by
 unfold clX
 cases hc : (chkG g != 0) with
 | true =>
   refine fn_nilV (fnD_t (cfg_ok w0) h0 (cs33_gd h0) (fd := fnOf Tryz.f33) rfl (o := []) ((body33 g l lv (0, [])).trans ?_) trivial)
   rw [hg, hc]; rfl
 | false =>
   cases he : (e33 g l lv != 0) with
   | true =>
     refine fn_nilV (fnD_t (cfg_ok w0) h0 (cs33_gd h0) (fd := fnOf Tryz.f33) rfl (o := []) ((body33 g l lv (0, [])).trans ?_) trivial)
     rw [hg, hc, hP, hl, he]; rfl
   | false =>
     have hln := Nat.le_of_ble_eq_true hl
     have hll := (chkPe_zero (firstZ_nil' (show e33 g l lv = 0 by simpa using he) (chkPe g l) (by simp))).1
     have hb : (smP l && Nat.beq l.length g.l.length) = true := by rw [hP, hll]; simp
     show FnD (cfg w0) 33 [gD g, .vec ptK l, .vec intK lv] (.tup [.vec ptK (clsP g l lv), I 0])
     refine fn_rg h0 (cs33_gd h0) (fd := fnOf Tryz.f33) rfl rel33 lv.length (by omega) (st33 g l lv) (fun j o => (X.normal, o ++ [iT (accX (prB g (i1 (nth lv j)) (hiZ lv j)) l)])) (fun j o => o.length = j) (a0 := []) rfl
      (fun j o hj hi => .leaf (by
       have hi : o.length = j := hi
       refine (round33 g l lv j o).trans ?_
       unfold tree33 app33 hiZ
       rw [lt_t hj, nx1_nat (by omega), hb, inO_nat hj, Int.toNat_natCast, Int.toNat_natCast]
       by_cases hk : j + 1 < lv.length
       ·rw [lt_t hk, inO_nat hk, if_pos hk, roomV_ok (by omega)]; rfl
       ·rw [decide_eq_false (show ¬ (((j + 1 : Nat) : Int) < (lv.length : Int)) by omega), if_neg hk]; simp only [cond_true, cond_false]; rw [roomV_ok (by omega)]; rfl)) (fun j o o' _ hi h => by cases h; simp [hi])
      (fun o _ => .leaf ((round33 g l lv _ o).trans (by unfold tree33; rw [ge_f]; rfl))) fun x p hx => ?_
     rw [rgRun_fold 0 (h := fun j o => o ++ [iT (accX (prB g (i1 (nth lv j)) (hiZ lv j)) l)]) _ _ _ (fun _ _ _ _ => rfl), foldl_snoc (fun j => iT (accX (prB g (i1 (nth lv j)) (hiZ lv j)) l))] at hx
     cases hx
     refine (body33 g l lv _).trans ?_
     rw [hg, hc, hP, hl, he]; rfl
def c33 : Ct := gC 33 [.v ptK, .v intK] fun g a => .br (smG g && (smP a.1 && Nat.ble (a.2.1 : List (Tup intK)).length 100000)) (.leaf (.tup [.vec ptK (clX g a.1 a.2.1).1, I (clX g a.1 a.2.1).2])) .bad
theorem gd33 (h0 : Lib0 w0) : Gd (cfg w0) c33 := gd_g fun g a d hd => by
 obtain ⟨hg, hd⟩ := br_run hd
 cases hd
 rw [Bool.and_eq_true, Bool.and_eq_true] at hg
 exact fn33 h0 g a.1 a.2.1 hg.1 hg.2.1 hg.2.2
end
end Go.Proofs.YthcpfignhalffaaGreatDoor
namespace Go.Proofs.YthcpfignhalffaaGreatDoor
open Go Go.Am
set_option maxRecDepth 100000
variable {w0 : World}
noncomputable section
def endA (p : List (Tup ptK)) (g : Gr) (pe : List (Tup ptK)) (v : Int) (lv : List (Tup intK)) (area : Int) (two : Int) (ex : Int × Int) (three : Int) (cl : List (Tup ptK)) : Option D :=
 bif numB (areaX p).1 (areaX p).2 (chkP p) area then
  bif (exX g pe v).1.1 == ex.1 && ((exX g pe v).1.2 == ex.2 && true) then
   bif (exX g pe v).2 == two then
    bif smP (clX g pe lv).1 then bif sameP (clX g pe lv).1 cl then
     bif (clX g pe lv).2 == three then some (Bo true) else some (Bo false)
    else some (Bo false) else none
   else some (Bo false)
  else some (Bo false)
 else some (Bo false)
def a3 (p : List (Tup ptK)) (g : Gr) (pe : List (Tup ptK)) (v : Int) (lv : List (Tup intK)) (area : Int) (two : Int) (ex : Int × Int) (three : Int) : Option D :=
 bif three == 0 then bif smG g && (Nat.beq pe.length g.l.length && Nat.ble lv.length 100000) then endA p g pe v lv area two ex three (clsR g pe lv) else none
 else endA p g pe v lv area two ex three []
def a2 (p : List (Tup ptK)) (g : Gr) (pe : List (Tup ptK)) (v : Int) (lv : List (Tup intK)) (area : Int) (two three : Int) : Option D :=
 bif two == 0 then bif smG g && Nat.beq pe.length g.l.length then a3 p g pe v lv area two (sumB g v 121 pe) three else none
 else a3 p g pe v lv area two (0, 0) three
end
end Go.Proofs.YthcpfignhalffaaGreatDoor
