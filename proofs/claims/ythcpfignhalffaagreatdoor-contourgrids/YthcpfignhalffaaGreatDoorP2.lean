/-
  A part of the proof of the statement that the claim names: see the last file.
-/
import Derived.Test.YthcpfignhalffaaGreatDoorP1
namespace Go.Proofs.YthcpfignhalffaaGreatDoor
open Go Go.Am
set_option maxRecDepth 100000
variable {w0 : World}
noncomputable section


def areaP (l : List (Tup ptK)) : Int := (List.range' 0 l.length).foldl (fun n (i : Nat) => stepA l (i : Int) n) 0
theorem modI_nat {l : List (Tup ptK)} {i : Nat} (hi : i < l.length) (hl : l.length ≤ 100000) : modI l (i : Int) = (((i + 1) % l.length : Nat) : Int) := by
  unfold modI
  rw [show IntKind.i64.wrap ((i : Int) + 1) = ((i + 1 : Nat) : Int) from W_in (by omega), Int.ofNat_tmod]
theorem inP_mod {l : List (Tup ptK)} {i : Nat} (hi : i < l.length) (hl : l.length ≤ 100000) : inP l (modI l (i : Int)) = true := by
  rw [modI_nat hi hl]
  exact inP_nat (Nat.mod_lt _ (by omega))
theorem cs30_gd (h0 : Lib0 w0) : Gds (cfg w0) cs30 := ⟨gd117 h0, trivial⟩
theorem fn30 (h0 : Lib0 w0) (l : List (Tup ptK)) (hl : smP l = true) : FnD (cfg w0) 30 [.vec ptK l] (bif chkP l != 0 then .tup [I 0, I (chkP l)] else .tup [I (areaP l), I 0]) := by
  have hlen : l.length ≤ 100000 := Nat.le_of_ble_eq_true hl
  cases hc : (chkP l != 0) with
  | true =>
    refine fnD_t (cfg_ok w0) h0 (cs30_gd h0) (fd := fnOf Tryz.f30) rfl (o := []) ((body30 l 0).trans ?_) trivial
    rw [hl, hc]; rfl
  | false =>
    have hrun : rgRun 0 (fun (j : Nat) (n : Int) => (X.normal, stepA l (j : Int) n)) l.length 0 0 = (.exit 0, (((0 + l.length : Nat) : Int), areaP l)) :=
      rgRun_fold 0 (h := fun (j : Nat) (n : Int) => stepA l (j : Int) n) _ _ _ (fun _ _ _ _ => rfl)
    have lL : ∀ tm, LdT ((cfg w0).at cs30) (ldP 0 (fnOf Tryz.f176).ntmps rel176 .normal (st176 l tm (((0 + l.length : Nat) : Int), areaP l))) (.loop (lpB 0 (fnOf Tryz.f176).body)) (st176 l tm (0, 0)) := fun tm =>
      ldT_rg (at_ok (cfg_ok w0) cs30) (at_sp h0 (cs30_gd h0)) (N := (fnOf Tryz.f176).ntmps) (rel := rel176) (B := lpB 0 (fnOf Tryz.f176).body) (id := 0) (k := l.length) (by omega) (st176 l tm) (fun (j : Nat) (n : Int) => (X.normal, stepA l (j : Int) n)) (fun _ _ => True)
        (fun j n hj _ => .leaf (by
          refine (round176 l tm j n).trans ?_
          unfold tree176
          rw [lt_t hj, inP_nat hj, inP_mod hj hlen, decide_eq_false (show ¬ (l.length : Int) = 0 by omega)]
          rfl)) (fun _ _ _ _ _ _ => trivial)
        (fun n _ => .leaf ((round176 l tm _ n).trans (by unfold tree176; rw [ge_f]; rfl))) (a0 := 0) trivial hrun
    have hR : LdT ((cfg w0).at cs30) (ld30 (areaP l)) rf30 (pre30 l) :=
      ldT_range (C := (cfg w0).at cs30) (at_ok (cfg_ok w0) cs30) (at_sp h0 (cs30_gd h0)) (id := 300014) (N := (fnOf Tryz.f30).ntmps) (rel := rel30) (pre := pre30 l) (x := .normal) (ds' := [.obox [I (areaP l)]]) (tf := 14) (rs := [(5, .id)]) (fd := fnOf Tryz.f176) (py := 0) (xs := #[]) (ys := #[.pointer (some ⟨K0 + 1, 0, none⟩)]) (g := 176) rfl (by kernel_rfl) rfl rfl
        fun tm => ⟨40, 40, _, _, iter30 l tm (((0 + l.length : Nat) : Int), areaP l), lL tm, trivial⟩
    refine fnD_t (cfg_ok w0) h0 (cs30_gd h0) (fd := fnOf Tryz.f30) (L := [ld30 (areaP l)]) (o := ob30 l (areaP l)) rfl ((body30 l (areaP l)).trans ?_) ⟨hR, trivial⟩
    rw [hl, hc]; rfl
def areaX (l : List (Tup ptK)) : Int × Int := bif chkP l != 0 then (0, chkP l) else (areaP l, 0)
def c30 : Ct := ct 30 [.v ptK] fun a => .br (smP a.1) (.leaf (.tup [I (areaX a.1).1, I (areaX a.1).2])) .bad
theorem gd30 (h0 : Lib0 w0) : Gd (cfg w0) c30 := gd_sig fun a d hd => by
  obtain ⟨hg, hd⟩ := br_run hd
  cases hd
  obtain ⟨l, u⟩ := a
  have := fn30 h0 l hg
  show FnD (cfg w0) 30 [.vec ptK l] (.tup [I (areaX l).1, I (areaX l).2])
  unfold areaX
  cases hc : (chkP l != 0) <;> rw [hc] at this <;> exact this

def stepR (l : List (Tup ptK)) (i n : Int) : Int := W (W (n + W (p1 (nth l i.toNat) * p2 (nth l (modI l i).toNat))) - W (p1 (nth l (modI l i).toNat) * p2 (nth l i.toNat)))
def areaR (l : List (Tup ptK)) : Int := (List.range' 0 l.length).foldl (fun n (i : Nat) => stepR l (i : Int) n) 0
def rel37 : List (Nat × Cv) := [(0, .id), (4, .id), (3, .id)]
def st37 (l : List (Tup ptK)) (p : Int × Int) : List D := [.vec ptK l, I p.1, I p.2]
def tree37 (l : List (Tup ptK)) (i n : Int) : Rn :=
  bif decide (i < l.length) then bif inP l i then bif decide ((l.length : Int) = 0) then none else bif inP l (modI l i) then
    some ([], .normal, st37 l (W (i + 1), stepR l i n))
  else none else none else some ([], .exit 0, st37 l (i, n))
theorem round37 (l : List (Tup ptK)) (i n : Int) : rndD ((cfg w0).at []) 40 [] 40 (fnOf Tryz.f37).ntmps rel37 (lpB 0 (fnOf Tryz.f37).body) (st37 l (i, n)) = tree37 l i n := by kernel_rfl
theorem body37 (l : List (Tup ptK)) (p : Int × Int) : bodyT ((cfg w0).at []) 40 [ldP 0 (fnOf Tryz.f37).ntmps rel37 .normal (st37 l p)] 40 (fnOf Tryz.f37) [.vec ptK l] =
    some ([(ldP 0 (fnOf Tryz.f37).ntmps rel37 .normal (st37 l p), .loop (lpB 0 (fnOf Tryz.f37).body), st37 l (0, 0))], I p.2) := by kernel_rfl
theorem fn37 (h0 : Lib0 w0) (l : List (Tup ptK)) (hl : l.length ≤ 100000) : FnD (cfg w0) 37 [.vec ptK l] (I (areaR l)) := by
  refine fn_rg h0 (cs := []) trivial (fd := fnOf Tryz.f37) rfl rel37 l.length (by omega) (st37 l) (fun (j : Nat) (n : Int) => (X.normal, stepR l (j : Int) n)) (fun _ _ => True) (a0 := 0) trivial
    (fun j n hj _ => .leaf (by
      refine (round37 l j n).trans ?_
      unfold tree37
      rw [lt_t hj, inP_nat hj, inP_mod hj hl, decide_eq_false (show ¬ (l.length : Int) = 0 by omega)]
      rfl)) (fun _ _ _ _ _ _ => trivial)
    (fun n _ => .leaf ((round37 l _ n).trans (by unfold tree37; rw [ge_f]; rfl))) fun x p hx => ?_
  rw [rgRun_fold 0 (h := fun (j : Nat) (n : Int) => stepR l (j : Int) n) _ _ _ (fun _ _ _ _ => rfl)] at hx
  cases hx
  exact body37 l _
def c37 : Ct := ct 37 [.v ptK] fun a => .br (smP a.1) (.leaf (I (areaR a.1))) .bad
theorem gd37 (h0 : Lib0 w0) : Gd (cfg w0) c37 := gd_sig fun a d hd => by
  obtain ⟨hg, hd⟩ := br_run hd
  cases hd
  exact fn37 h0 a.1 (Nat.le_of_ble_eq_true hg)


def chkPe (g : Gr) (l : List (Tup ptK)) : Int := bif (l.length : Int) != g.l.length then 2 else firstZ (l.map ivZ)
theorem run119 (g : Gr) (l : List (Tup ptK)) : bodyK ((cfg w0).at [firstC 99, mapQ 177 178 fun p => t1 (ivZ p)]) 40 (fnOf Tryz.f119) [gD g, .vec ptK l] =
    bif (l.length : Int) != g.l.length then some (I 2) else bif smP l then bif Nat.ble (l.map fun p => t1 (ivZ p)).length 100000 then some (I (firstZ ((l.map fun p => t1 (ivZ p)).map i1))) else none else none := by cases g; kernel_rfl
def chkPeC (g : Nat) : Ct := gC g [.v ptK] fun g a => .br (smP a.1) (.leaf (I (chkPe g a.1))) .bad
theorem gd119 (h0 : Lib0 w0) : Gd (cfg w0) (chkPeC 119) := gd_g fun g a d hd => by
  obtain ⟨hg, hd⟩ := br_run hd
  cases hd
  obtain ⟨l, u⟩ := a
  have hg : smP l = true := hg
  refine fnD_k (cfg_ok w0) h0 (cs := [firstC 99, mapQ 177 178 fun p => t1 (ivZ p)]) ⟨gd99 h0, gd177 h0, trivial⟩ (fd := fnOf Tryz.f119) rfl (n := 40) ((run119 g l).trans ?_)
  have e : Nat.ble (List.map (fun p => t1 (ivZ p)) (show List (Tup ptK) from l)).length 100000 = true := by rw [List.length_map]; exact hg
  have e2 : ((show List (Tup ptK) from l).map fun p => t1 (ivZ p)).map i1 = (show List (Tup ptK) from l).map ivZ := by rw [List.map_map]; rfl
  refine (show _ = (bif ((show List (Tup ptK) from l).length : Int) != g.l.length then some (I 2) else bif smP l then bif Nat.ble (List.map (fun p => t1 (ivZ p)) (show List (Tup ptK) from l)).length 100000 then some (I (firstZ (((show List (Tup ptK) from l).map fun p => t1 (ivZ p)).map i1))) else none else none) from rfl).trans ?_
  rw [hg, e, e2]
  show _ = some (I (chkPe g l))
  unfold chkPe
  generalize (((show List (Tup ptK) from l).length : Int) != g.l.length) = b
  cases b <;> rfl
def c125 : Ct := ct 125 [.b ptK, .c ik, .c ik] fun a => .leaf (I (firstZ [withinZ (p1 a.1) a.2.1 a.2.2.1, withinZ (p2 a.1) a.2.1 a.2.2.1, whenZ (decide (p1 a.1 > p2 a.1)) 11]))
theorem run125 (p : Tup ptK) (a b : Int) : bodyK ((cfg w0).at [withinC 68, whenC 49, firstC 109]) 40 (fnOf Tryz.f125) [.agg [I (p1 p), I (p2 p)], I a, I b] = some (I (firstZ [withinZ (p1 p) a b, withinZ (p2 p) a b, whenZ (decide (p1 p > p2 p)) 11])) := by kernel_rfl
theorem gd125 (h0 : Lib0 w0) : Gd (cfg w0) c125 := gd_k h0 (cs := [withinC 68, whenC 49, firstC 109]) ⟨gd68 h0, gd49 h0, gd109 h0, trivial⟩ (fd := fnOf Tryz.f125) rfl (n := 40) fun a d hd => by
  cases hd
  exact run125 a.1 a.2.1 a.2.2.1
def rel35 : List (Nat × Cv) := [(1, .id), (5, .id), (4, .id)]
def st35 (l : List (Tup ptK)) (a : Int × Int) : List D := [.vec ptK l, I a.1, I a.2]
def tree35 (l : List (Tup ptK)) (j e : Int) : Rn :=
  bif decide (j < l.length) then bif inP l j then bif ivZ (nth l j.toNat) != 0 then some ([], .ret, st35 l (j, ivZ (nth l j.toNat))) else some ([], .normal, st35 l (W (j + 1), e)) else none
  else some ([], .exit 0, st35 l (j, e))
theorem round35 (l : List (Tup ptK)) (j e : Int) : rndD ((cfg w0).at [c125]) 40 [] 40 (fnOf Tryz.f35).ntmps rel35 (lpB 0 (fnOf Tryz.f35).body) (st35 l (j, e)) = tree35 l j e := by kernel_rfl
theorem body35 (g : Gr) (l : List (Tup ptK)) (x : X) (p : Int × Int) (hx : x = .ret ∨ x = .normal) : bodyT ((cfg w0).at [c125]) 40 [ldP 0 (fnOf Tryz.f35).ntmps rel35 x (st35 l p)] 40 (fnOf Tryz.f35) [gD g, .vec ptK l] =
    bif (l.length : Int) != g.l.length then some ([], I 2) else some ([(ldP 0 (fnOf Tryz.f35).ntmps rel35 x (st35 l p), .loop (lpB 0 (fnOf Tryz.f35).body), st35 l (0, 0))], onX x (I p.2) (I 0)) := by
  cases g; rcases hx with rfl | rfl <;> kernel_rfl
theorem fn35 (h0 : Lib0 w0) (g : Gr) (l : List (Tup ptK)) (hl : l.length ≤ 100000) : FnD (cfg w0) 35 [gD g, .vec ptK l] (I (chkPe g l)) := by
  unfold chkPe
  cases he : ((l.length : Int) != g.l.length) with
  | true =>
    refine fnD_t (cfg_ok w0) h0 (cs := [c125]) ⟨gd125 h0, trivial⟩ (fd := fnOf Tryz.f35) rfl (L := [ldP 0 (fnOf Tryz.f35).ntmps rel35 .normal (st35 l (0, 0))]) (o := []) ((body35 g l .normal (0, 0) (.inr rfl)).trans ?_) trivial
    rw [he]; rfl
  | false =>
    refine fn_ls h0 (cs := [c125]) ⟨gd125 h0, trivial⟩ (fd := fnOf Tryz.f35) rfl rel35 l (by omega) (st35 l) (fun p a => bif ivZ p != 0 then (X.ret, ivZ p) else (.normal, a)) (fun _ _ => True) (a0 := 0) trivial
      (fun j a hj _ => .leaf (by
        rw [round35]
        unfold tree35
        rw [inP_nat hj, lt_t hj, Int.toNat_natCast]
        cases (ivZ (nth l j) != 0) <;> rfl)) (fun _ _ _ _ _ _ => trivial)
      (fun a _ => .leaf (by rw [round35]; unfold tree35; rw [ge_f]; rfl)) fun x p hx => ?_
    obtain ⟨q, hq⟩ := lsRun_firstP ivZ l 0 0
    rw [hq] at hx
    simp only [cond_false]
    cases hf : (firstZ (l.map ivZ) != 0) <;> rw [hf] at hx <;> cases hx
    · rw [show firstZ (l.map ivZ) = 0 by simpa using hf]
      exact (body35 g l _ _ (.inr rfl)).trans (by rw [he]; rfl)
    · exact (body35 g l _ _ (.inl rfl)).trans (by rw [he]; rfl)
theorem gd35 (h0 : Lib0 w0) : Gd (cfg w0) (chkPeC 35) := gd_g fun g a d hd => by
  obtain ⟨hg, hd⟩ := br_run hd
  cases hd
  exact fn35 h0 g a.1 (Nat.le_of_ble_eq_true hg)
end
end Go.Proofs.YthcpfignhalffaaGreatDoor

namespace Go.Proofs.YthcpfignhalffaaGreatDoor
open Go Go.Am
set_option maxRecDepth 100000
variable {w0 : World}
noncomputable section

theorem firstZ_nil' : ∀ {l : List Int}, firstZ l = 0 → ∀ e ∈ l, e = 0
  | [], _, e, he => by cases he
  | x :: xs, h, e, he => by
    unfold firstZ at h
    cases hx : (x != 0) with
    | true => rw [hx] at h; simp only [cond_true] at h; rw [h] at hx; cases hx
    | false =>
      rw [hx] at h
      rcases List.mem_cons.1 he with rfl | he
      · simpa using hx
      · exact firstZ_nil' h e he


def addS (l : List (Tup ptK)) (j : Nat) (s : Int × Int) : Int × Int := (W (s.1 + p1 (nth l j)), W (s.2 + p2 (nth l j)))
def accS (p : Nat → Bool) (l : List (Tup ptK)) (j : Nat) (s : Int × Int) : Int × Int := bif p j then addS l j s else s
def accX (p : Nat → Bool) (l : List (Tup ptK)) : Int × Int := (List.range' 0 l.length).foldl (fun s j => accS p l j s) (0, 0)
def relEx : List (Nat × Cv) := [(8, .id), (9, .id), (10, .id), (5, .id), (1, .id), (4, .id)]
def stEx (l : List (Tup ptK)) (f : D) (p : Int × (Int × Int)) : List D := [.vec ptK l, I l.length, I p.1, .obox [I p.2.1, I p.2.2], f, .obox [I 0, I 0]]
def inFl (l : List (Tup flK)) (j : Int) : Bool := Nat.beq 1 1 && (decide (0 ≤ j) && decide (j < l.length))
theorem inFl_nat {l : List (Tup flK)} {j : Nat} (h : j < l.length) : inFl l (j : Int) = true := inb 1 h
def fA (fl : List (Tup flK)) : D := .fn 121 [] [.box [.vec flK fl]]
def fB (g : Gr) (n e : Int) : D := .fn 123 [] [.box (gcs g), .box [I n], .box [I e]]
def treeA (l : List (Tup ptK)) (fl : List (Tup flK)) (j : Int) (s : Int × Int) : Rn :=
  bif decide (j < l.length) then bif inP l j then bif inFl fl j then bif b1 (nth fl j.toNat) then some ([], .normal, stEx l (fA fl) (W (j + 1), addS l j.toNat s)) else some ([], .normal, stEx l (fA fl) (W (j + 1), s)) else none else none
  else some ([], .exit 0, stEx l (fA fl) (j, s))
def treeB (l : List (Tup ptK)) (g : Gr) (n e : Int) (j : Int) (s : Int × Int) : Rn :=
  bif decide (j < l.length) then bif inP l j then bif inO g.l j then
    bif decide (levR (i1 (nth g.l j.toNat)) ≥ n) then bif decide (levR (i1 (nth g.l j.toNat)) < e) then some ([], .normal, stEx l (fB g n e) (W (j + 1), addS l j.toNat s)) else some ([], .normal, stEx l (fB g n e) (W (j + 1), s))
    else some ([], .normal, stEx l (fB g n e) (W (j + 1), s)) else none else none
  else some ([], .exit 0, stEx l (fB g n e) (j, s))
theorem roundA (l : List (Tup ptK)) (fl : List (Tup flK)) (j a b : Int) : rndD ((cfg w0).at [c124]) 40 [] 40 (fnOf Tryz.f120).ntmps relEx (lpB 0 (fnOf Tryz.f120).body) (stEx l (fA fl) (j, (a, b))) = treeA l fl j (a, b) := by kernel_rfl
theorem roundB (l : List (Tup ptK)) (g : Gr) (n e j a b : Int) : rndD ((cfg w0).at [c124]) 40 [] 40 (fnOf Tryz.f120).ntmps relEx (lpB 0 (fnOf Tryz.f120).body) (stEx l (fB g n e) (j, (a, b))) = treeB l g n e j (a, b) := by cases g; kernel_rfl
def tbEx (l : List (Tup ptK)) (f : D) (p : Int × (Int × Int)) : Option (Obs × D) := some ([(ldP 0 (fnOf Tryz.f120).ntmps relEx .normal (stEx l f p), .loop (lpB 0 (fnOf Tryz.f120).body), stEx l f (0, (0, 0)))], .agg [I p.2.1, I p.2.2])
theorem bodyA (l : List (Tup ptK)) (fl : List (Tup flK)) (p : Int × (Int × Int)) : bodyT ((cfg w0).at [c124]) 40 [ldP 0 (fnOf Tryz.f120).ntmps relEx .normal (stEx l (fA fl) p)] 40 (fnOf Tryz.f120) [.vec ptK l, fA fl] = tbEx l (fA fl) p := by kernel_rfl
theorem bodyB (l : List (Tup ptK)) (g : Gr) (n e : Int) (p : Int × (Int × Int)) : bodyT ((cfg w0).at [c124]) 40 [ldP 0 (fnOf Tryz.f120).ntmps relEx .normal (stEx l (fB g n e) p)] 40 (fnOf Tryz.f120) [.vec ptK l, fB g n e] = tbEx l (fB g n e) p := by cases g; kernel_rfl
theorem fnEx (h0 : Lib0 w0) (l : List (Tup ptK)) (f : D) (p : Nat → Bool) (hl : l.length ≤ 100000)
    (hr : ∀ (j : Nat) s, j < l.length → rndD ((cfg w0).at [c124]) 40 [] 40 (fnOf Tryz.f120).ntmps relEx (lpB 0 (fnOf Tryz.f120).body) (stEx l f (j, s)) = some ([], .normal, stEx l f (W (j + 1), accS p l j s)))
    (he : ∀ s, rndD ((cfg w0).at [c124]) 40 [] 40 (fnOf Tryz.f120).ntmps relEx (lpB 0 (fnOf Tryz.f120).body) (stEx l f (l.length, s)) = some ([], .exit 0, stEx l f (l.length, s)))
    (hb : ∀ q, bodyT ((cfg w0).at [c124]) 40 [ldP 0 (fnOf Tryz.f120).ntmps relEx .normal (stEx l f q)] 40 (fnOf Tryz.f120) [.vec ptK l, f] = tbEx l f q) : FnD (cfg w0) 120 [.vec ptK l, f] (.agg [I (accX p l).1, I (accX p l).2]) := by
  refine fn_rg h0 (cs := [c124]) ⟨gd124 h0, trivial⟩ (fd := fnOf Tryz.f120) rfl relEx l.length (by omega) (stEx l f) (fun j s => (X.normal, accS p l j s)) (fun _ _ => True) (a0 := (0, 0)) trivial
    (fun j s hj _ => .leaf (hr j s hj)) (fun _ _ _ _ _ _ => trivial) (fun s _ => .leaf (he s)) fun x q hx => ?_
  rw [rgRun_fold 0 (h := fun j s => accS p l j s) _ _ _ (fun _ _ _ _ => rfl)] at hx
  cases hx
  exact hb _
def asA (d : D) : Option (List (Tup flK)) := match d with
  | .fn 121 [] [.box [.vec ks l]] => recast ks flK l
  | _ => none
theorem asA_eq {d : D} {l : List (Tup flK)} (h : asA d = some l) : d = fA l := by
  unfold asA at h
  split at h
  · obtain ⟨e, rfl⟩ := recast_eq h
    subst e
    rfl
  · cases h
def asB (d : D) : Option (Gr × Int × Int) := match d with
  | .fn 123 [] [.box [.val (.int .i64 w), .val (.int .i64 h), .vec ks l], .box [.val (.int .i64 n)], .box [.val (.int .i64 e)]] => match recast ks intK l with
    | some l => some (⟨w, h, l⟩, n, e)
    | none => none
  | _ => none
theorem asB_eq {d : D} {x : Gr × Int × Int} (h : asB d = some x) : d = fB x.1 x.2.1 x.2.2 := by
  unfold asB at h
  split at h
  · split at h
    · rename_i hr
      cases h
      obtain ⟨e, rfl⟩ := recast_eq hr
      subst e
      rfl
    · cases h
  · cases h
def prB (g : Gr) (n e : Int) (j : Nat) : Bool := decide (levR (i1 (nth g.l j)) ≥ n) && decide (levR (i1 (nth g.l j)) < e)
def c120 : Ct := ct 120 [.v ptK, .x] fun a => match asA a.2.1 with
  | some fl => .br (smP a.1 && Nat.beq (a.1 : List (Tup ptK)).length fl.length) (.leaf (.agg [I (accX (fun j => b1 (nth fl j)) a.1).1, I (accX (fun j => b1 (nth fl j)) a.1).2])) .bad
  | none => match asB a.2.1 with
    | some x => .br (smP a.1 && Nat.beq (a.1 : List (Tup ptK)).length x.1.l.length) (.leaf (.agg [I (accX (prB x.1 x.2.1 x.2.2) a.1).1, I (accX (prB x.1 x.2.1 x.2.2) a.1).2])) .bad
    | none => .bad
theorem fn120A (h0 : Lib0 w0) (l : List (Tup ptK)) (fl : List (Tup flK)) (hl : l.length ≤ 100000) (he : l.length = fl.length) : FnD (cfg w0) 120 [.vec ptK l, fA fl] (.agg [I (accX (fun j => b1 (nth fl j)) l).1, I (accX (fun j => b1 (nth fl j)) l).2]) :=
  fnEx h0 l (fA fl) _ hl (fun j s hj => (roundA l fl j s.1 s.2).trans (by
      unfold treeA accS
      rw [lt_t hj, inP_nat hj, inFl_nat (by omega), Int.toNat_natCast]
      show (bif b1 (nth fl j) then _ else _) = some ([], X.normal, stEx l (fA fl) (W ((j : Int) + 1), bif b1 (nth fl j) then addS l j s else s))
      cases b1 (nth fl j) <;> rfl))
    (fun s => (roundA l fl _ s.1 s.2).trans (by unfold treeA; rw [ge_f]; rfl)) (fun q => bodyA l fl q)
theorem fn120B (h0 : Lib0 w0) (l : List (Tup ptK)) (g : Gr) (n e : Int) (hl : l.length ≤ 100000) (he : l.length = g.l.length) : FnD (cfg w0) 120 [.vec ptK l, fB g n e] (.agg [I (accX (prB g n e) l).1, I (accX (prB g n e) l).2]) :=
  fnEx h0 l (fB g n e) _ hl (fun j s hj => (roundB l g n e j s.1 s.2).trans (by
      unfold treeB accS prB
      rw [lt_t hj, inP_nat hj, inO_nat (by omega), Int.toNat_natCast]
      cases decide (levR (i1 (nth g.l j)) ≥ n) <;> cases decide (levR (i1 (nth g.l j)) < e) <;> rfl))
    (fun s => (roundB l g n e _ s.1 s.2).trans (by unfold treeB; rw [ge_f]; rfl)) (fun q => bodyB l g n e q)
theorem gd120 (h0 : Lib0 w0) : Gd (cfg w0) c120 := gd_sig fun a d hd => by
  obtain ⟨l, f, u⟩ := a
  simp only at hd
  cases ha : asA f with
  | some fl =>
    rw [ha] at hd
    obtain ⟨hg, hd⟩ := br_run hd
    cases hd
    cases asA_eq ha
    rw [Bool.and_eq_true] at hg
    exact fn120A h0 l fl (Nat.le_of_ble_eq_true hg.1) (Nat.eq_of_beq_eq_true hg.2)
  | none =>
    rw [ha] at hd
    simp only at hd
    cases hb : asB f with
    | none => rw [hb] at hd; cases hd
    | some x =>
      rw [hb] at hd
      obtain ⟨hg, hd⟩ := br_run hd
      cases hd
      cases asB_eq hb
      rw [Bool.and_eq_true] at hg
      exact fn120B h0 l x.1 x.2.1 x.2.2 (Nat.le_of_ble_eq_true hg.1) (Nat.eq_of_beq_eq_true hg.2)

def zI : D := .agg [I 0, I 0]
def iD (s : Int × Int) : D := .agg [I s.1, I s.2]
def e31 (g : Gr) (l : List (Tup ptK)) (v : Int) : Int := firstZ [chkPe g l, withinZ v 0 maxL]
def abP (g : Gr) (v : Int) (j : Nat) : Bool := b1 (nth (g.l.map (abE v)) j)
def cs31 : List Ct := [chkC 73, chkPeC 119, rangeC 100 0 maxL, firstC 99, c102, c120]
theorem cs31_gd (h0 : Lib0 w0) : Gds (cfg w0) cs31 := ⟨gd73 h0, gd119 h0, gd100 h0, gd99 h0, gd102 h0, gd120 h0, trivial⟩
theorem run31 (g : Gr) (l : List (Tup ptK)) (v : Int) : bodyK ((cfg w0).at cs31) 40 (fnOf Tryz.f31) [gD g, .vec ptK l, I v] =
    bif smG g then bif chkG g != 0 then some (.tup [zI, I (chkG g)]) else
      bif smP l then bif e31 g l v != 0 then some (.tup [zI, I (e31 g l v)]) else
      bif smG g then bif smP l && Nat.beq l.length (g.l.map (abE v)).length then some (.tup [iD (accX (abP g v) l), I 0]) else none else none else none else none := by cases g; kernel_rfl
def exX (g : Gr) (l : List (Tup ptK)) (v : Int) : (Int × Int) × Int := bif chkG g != 0 then ((0, 0), chkG g) else bif e31 g l v != 0 then ((0, 0), e31 g l v) else (accX (abP g v) l, 0)
theorem chkPe_zero {g : Gr} {l : List (Tup ptK)} (h : chkPe g l = 0) : l.length = g.l.length ∧ ∀ p ∈ l, ivZ p = 0 := by
  unfold chkPe at h
  cases hb : ((l.length : Int) != g.l.length) with
  | true => rw [hb] at h; cases h
  | false =>
    rw [hb] at h
    exact ⟨Int.ofNat.inj (by simpa using hb), fun p hp => firstZ_nil' h _ (List.mem_map_of_mem hp)⟩
theorem e31_zero {g : Gr} {l : List (Tup ptK)} {v : Int} (h : e31 g l v = 0) : chkPe g l = 0 := firstZ_nil' h _ (by simp)
def c31 : Ct := gC 31 [.v ptK, .c ik] fun g a => .br (smG g && smP a.1) (.leaf (.tup [iD (exX g a.1 a.2.1).1, I (exX g a.1 a.2.1).2])) .bad
theorem fn31 (h0 : Lib0 w0) (g : Gr) (l : List (Tup ptK)) (v : Int) (hg : smG g = true) (hP : smP l = true) : FnD (cfg w0) 31 [gD g, .vec ptK l, I v] (.tup [iD (exX g l v).1, I (exX g l v).2]) := by
  refine fnD_k (cfg_ok w0) h0 (cs31_gd h0) (fd := fnOf Tryz.f31) rfl (n := 40) ((run31 g l v).trans ?_)
  unfold exX
  rw [hg, hP]
  cases hc : (chkG g != 0) with
  | true => rfl
  | false =>
    cases he : (e31 g l v != 0) with
    | true => rfl
    | false =>
      have := chkPe_zero (e31_zero (show e31 g l v = 0 by simpa using he))
      rw [List.length_map, show Nat.beq l.length g.l.length = true from (Nat.beq_eq ..).mpr this.1]
      rfl
theorem gd31 (h0 : Lib0 w0) : Gd (cfg w0) c31 := gd_g fun g a d hd => by
  obtain ⟨hg, hd⟩ := br_run hd
  cases hd
  rw [Bool.and_eq_true] at hg
  exact fn31 h0 g a.1 a.2.1 hg.1 hg.2
end
end Go.Proofs.YthcpfignhalffaaGreatDoor
