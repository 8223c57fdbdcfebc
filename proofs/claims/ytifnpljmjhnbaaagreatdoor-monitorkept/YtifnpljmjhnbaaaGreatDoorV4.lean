/-
  A part of the proof of the statement that the claim names: see the last file.
-/
import Derived.Test.YtifnpljmjhnbaaaGreatDoorV3
namespace Go.Proofs.YtifnpljmjhnbaaaGreatDoor
open Go Go.Am
set_option maxRecDepth 100000
variable {w0 : World}
noncomputable section


def evsR (l : TL) (r : Ru) : List (Tup evK) := ((GG l r l.length).filter (selG r)).map (gpR l)
def ev38 (l : TL) (r : Ru) : EE := bif (evsR l r).any bgE then ([], 4) else (evsR l r, 0)
theorem LN_lt (l : TL) (r : Ru) (n : Nat) : ∀ j ∈ LN l r n, j < n := fun j hj => by
  unfold LN at hj
  rw [List.mem_filter, List.mem_range'_1] at hj
  omega
theorem LN_sorted (l : TL) (r : Ru) (n : Nat) : (LN l r n).Pairwise (· < ·) := (List.pairwise_lt_range' (s := 0) (n := n)).filter _
theorem nthN_el {N : List Nat} {i : Nat} (h : i < N.length) : nthN N i = N[i] := by simp [nthN, h]
theorem nthN_mono {N : List Nat} (hs : N.Pairwise (· < ·)) {a b : Nat} (hb : b < N.length) (h : a ≤ b) : nthN N a ≤ nthN N b := by
  rcases Nat.eq_or_lt_of_le h with rfl | h
  · exact Nat.le_refl _
  · rw [nthN_el (by omega), nthN_el hb]
    exact Nat.le_of_lt (List.pairwise_iff_getElem.1 hs a b (by omega) hb h)
theorem lv_nat {N : List Nat} {i : Nat} (h : i < N.length) : lv (N.map ln1) (i : Int) = (nthN N i : Nat) := by
  unfold lv nthN
  rw [Int.toNat_natCast, nth_map ln1 N 0 h]
  rfl
theorem LN_succ (l : TL) (r : Ru) (n : Nat) : LN l r (n + 1) = LN l r n ++ (bif loudB l r n then [n] else []) := by
  unfold LN
  rw [List.range'_concat, List.filter_append]
  simp only [Nat.one_mul, Nat.zero_add, List.filter_cons, List.filter_nil]
  cases loudB l r n <;> rfl
def step38a (l : TL) (r : Ru) (j : Nat) (o : TL) : TL := bif loudB l r j then o ++ [t1 (j : Int)] else o
theorem fold38a (l : TL) (r : Ru) : ∀ n, (List.range' 0 n).foldl (fun o (j : Nat) => step38a l r j o) [] = (LN l r n).map ln1
  | 0 => rfl
  | n + 1 => by
    rw [List.range'_concat, List.foldl_append, fold38a l r n, LN_succ]
    simp only [Nat.one_mul, Nat.zero_add, List.foldl_cons, List.foldl_nil, step38a]
    cases loudB l r n
    · simp
    · simp [ln1]
theorem x1_nat {n : Nat} (h : n ≤ 1000000) : x1 (n : Int) = ((n + 1 : Nat) : Int) := W_nat h
theorem rd38b {l : TL} {r : Ru} (hg : sm l = true) {N : List Nat} (hN : ∀ j ∈ N, j < l.length) (hs : N.Pairwise (· < ·)) (hNl : N.length ≤ l.length) {i : Nat} (hi : i < N.length) {b : Nat} (hb : b ≤ i) {o : List (Tup evK)} (ho : o.length ≤ i) (e : Int) :
    RdOK ((cfg w0).at cs38) (fnOf Tryz.f38).ntmps rel38b (lpB 2 (fnOf Tryz.f38).body) (st38b l r (N.map ln1) ((i : Int), ((b : Int), o, e))) (step38 l r N i ((b : Int), o, e)).1 (st38b l r (N.map ln1) (nx i (step38 l r N i ((b : Int), o, e)))) :=
  .leaf (by
    have hl := sm_le hg
    have hlen : (N.map ln1).length = N.length := List.length_map ..
    have hi2 : nthN N i < l.length := by rw [nthN_el hi]; exact hN _ (List.getElem_mem hi)
    have hbi := nthN_mono hs hi hb
    have hx := x1_nat (n := i) (by omega)
    have elv := lv_nat hi
    have elb := lv_nat (N := N) (i := b) (by omega)
    have exl : x1 ((nthN N i : Nat) : Int) = ((nthN N i + 1 : Nat) : Int) := x1_nat (by omega)
    have exl' : ((nthN N i + 1 : Nat) : Int) = ((nthN N i : Nat) : Int) + 1 := by omega
    have etl : tl38 l r (N.map ln1) i b o e = bif decide ((i : Int) + 1 - b ≥ r.2.2) then
        bif bgE (gpR l ((nthN N b : Nat), (nthN N i : Nat) + 1, (i : Int) + 1 - b)) then some ([], .ret, st38b l r (N.map ln1) (i, b, o, 4)) else some ([], .normal, st38b l r (N.map ln1) (((i + 1 : Nat) : Int), (i : Int) + 1, o ++ [gpR l ((nthN N b : Nat), (nthN N i : Nat) + 1, (i : Int) + 1 - b)], e))
      else some ([], .normal, st38b l r (N.map ln1) (((i + 1 : Nat) : Int), (i : Int) + 1, o, e)) := by
      unfold tl38 hrR
      rw [elv, elb, hx, exl, exl']
      have e1 : IntKind.i64.wrap (((i + 1 : Nat) : Int) - b) = (i : Int) + 1 - b := by rw [W_id (by omega) (by omega)]; omega
      have i1' : inO (N.map ln1) (b : Int) = true := inO_nat (by omega)
      have i2' : inO (N.map ln1) (i : Int) = true := inO_nat (by omega)
      have i3' : inH ((nthN N b : Nat) : Int) (((nthN N i : Nat) : Int) + 1) l.length = true := by
        simp only [inH, Bool.and_eq_true, decide_eq_true_eq]
        omega
      rw [e1, i1', i2', i3', hg]
      unfold roomEv
      rw [room (k := 48) (by omega) (by omega)]
      have c3 : ((i + 1 : Nat) : Int) = (i : Int) + 1 := by omega
      cases decide ((i : Int) + 1 - b ≥ r.2.2) with
      | false => rw [c3]; rfl
      | true =>
        simp only [cond_true, Bool.and_self]
        rw [c3]
        rfl
    refine (round38b l r (N.map ln1) i b o e).trans ?_
    rw [etl, hx, hlen, lt_t hi, show inO (N.map ln1) (i : Int) = true from inO_nat (by omega)]
    have hstep : ∀ c : Bool, c = (decide (i + 1 < N.length) && decide (((nthN N (i + 1) : Nat) : Int) - (nthN N i : Nat) - 1 ≤ r.2.1)) → step38 l r N i ((b : Int), o, e) = bif c then (.normal, ((b : Int), o, e)) else
        bif decide ((i : Int) + 1 - b ≥ r.2.2) then
          bif bgE (gpR l ((nthN N b : Nat), (nthN N i : Nat) + 1, (i : Int) + 1 - b)) then (.ret, ((b : Int), o, 4)) else (.normal, ((i : Int) + 1, o ++ [gpR l ((nthN N b : Nat), (nthN N i : Nat) + 1, (i : Int) + 1 - b)], e))
        else (.normal, ((i : Int) + 1, o, e)) := fun c hc => by
      unfold step38
      rw [← hc]
      simp only [Int.toNat_natCast]
    have hnx : W ((i : Int) + 1) = ((i + 1 : Nat) : Int) := hx
    have fin : (bif decide ((i : Int) + 1 - b ≥ r.2.2) then
        bif bgE (gpR l ((nthN N b : Nat), (nthN N i : Nat) + 1, (i : Int) + 1 - b)) then some (([], .ret, st38b l r (N.map ln1) (i, b, o, 4)) : Obs × X × List D) else some ([], .normal, st38b l r (N.map ln1) (((i + 1 : Nat) : Int), (i : Int) + 1, o ++ [gpR l ((nthN N b : Nat), (nthN N i : Nat) + 1, (i : Int) + 1 - b)], e))
      else some ([], .normal, st38b l r (N.map ln1) (((i + 1 : Nat) : Int), (i : Int) + 1, o, e))) =
      some ([], (bif decide ((i : Int) + 1 - b ≥ r.2.2) then
          bif bgE (gpR l ((nthN N b : Nat), (nthN N i : Nat) + 1, (i : Int) + 1 - b)) then ((X.ret, ((b : Int), o, (4 : Int))) : X × BO) else (.normal, ((i : Int) + 1, o ++ [gpR l ((nthN N b : Nat), (nthN N i : Nat) + 1, (i : Int) + 1 - b)], e))
        else (.normal, ((i : Int) + 1, o, e))).1, st38b l r (N.map ln1) (nx i (bif decide ((i : Int) + 1 - b ≥ r.2.2) then
          bif bgE (gpR l ((nthN N b : Nat), (nthN N i : Nat) + 1, (i : Int) + 1 - b)) then ((X.ret, ((b : Int), o, (4 : Int))) : X × BO) else (.normal, ((i : Int) + 1, o ++ [gpR l ((nthN N b : Nat), (nthN N i : Nat) + 1, (i : Int) + 1 - b)], e))
        else (.normal, ((i : Int) + 1, o, e))))) := by
      rw [← hnx]
      cases decide ((i : Int) + 1 - b ≥ r.2.2) with
      | false => rfl
      | true => cases bgE (gpR l ((nthN N b : Nat), (nthN N i : Nat) + 1, (i : Int) + 1 - b)) <;> rfl
    by_cases hlt : i + 1 < N.length
    · rw [lt_t hlt, show inO (N.map ln1) ((i + 1 : Nat) : Int) = true from inO_nat (by omega)]
      have ej : joinR r (N.map ln1) i = decide (((nthN N (i + 1) : Nat) : Int) - (nthN N i : Nat) - 1 ≤ r.2.1) := by
        have hi3 : nthN N (i + 1) < l.length := by rw [nthN_el hlt]; exact hN _ (List.getElem_mem hlt)
        unfold joinR
        rw [hx, elv, lv_nat hlt, W_id (n := ((nthN N (i + 1) : Nat) : Int) - (nthN N i : Nat)) (by omega) (by omega), W_id (by omega) (by omega)]
      rw [ej]
      have hst := hstep (decide (((nthN N (i + 1) : Nat) : Int) - (nthN N i : Nat) - 1 ≤ r.2.1)) (by rw [decide_eq_true hlt, Bool.true_and])
      cases hj : decide (((nthN N (i + 1) : Nat) : Int) - (nthN N i : Nat) - 1 ≤ r.2.1) with
      | true =>
        rw [hj, cond_true] at hst
        rw [hst]
        simp only [cond_true]
        rw [← hnx]
        rfl
      | false =>
        rw [hj, cond_false] at hst
        rw [hst]
        simp only [cond_true, cond_false]
        exact fin
    · rw [show decide (((i + 1 : Nat) : Int) < (N.length : Int)) = false from decide_eq_false (by omega)]
      have hst := hstep false (by rw [decide_eq_false hlt, Bool.false_and])
      rw [cond_false] at hst
      rw [hst]
      simp only [cond_true, cond_false]
      exact fin)
end
end Go.Proofs.YtifnpljmjhnbaaaGreatDoor

namespace Go.Proofs.YtifnpljmjhnbaaaGreatDoor
open Go Go.Am
set_option maxRecDepth 100000
variable {w0 : World}
noncomputable section

theorem groups_zero (gap : Int) {N : List Nat} (h : 0 < N.length) : groups gap N = refG gap (nthN N 0 : Nat) (((0 : Nat) : Int) + 1 - ((0 : Nat) : Int)) (nthN N 0 : Nat) (N.drop (0 + 1)) := by
  cases N with
  | nil => cases h
  | cons x ys => rfl
theorem fn38 (h0 : Lib0 w0) (l : TL) (r : Ru) (hg : sm l = true) : FnD (cfg w0) 38 [.vec intK l, .agg [I r.1, I r.2.1, I r.2.2]] (eeD (ev38 l r)) := by
  have hl := sm_le hg
  have ok := at_ok (cfg_ok w0) cs38
  have hcs : Gds (cfg w0) cs38 := ⟨gd103 h0, trivial⟩
  have sp := at_sp h0 (cs := cs38) hcs
  have hN1 := LN_lt l r l.length
  have hN2 := LN_sorted l r l.length
  have hN3 : (LN l r l.length).length ≤ l.length := by
    unfold LN
    have := filter_len (loudB l r) (List.range' 0 l.length)
    simpa using this
  have hfold := fold38a l r l.length
  have hGG := GG_groups l r l.length
  unfold ev38 evsR
  rw [hGG]
  generalize LN l r l.length = N at *
  have la : LdT ((cfg w0).at cs38) (ldP 0 (fnOf Tryz.f38).ntmps rel38a .normal (st38a l r (((0 + l.length : Nat) : Int), N.map ln1))) (.loop (lpB 0 (fnOf Tryz.f38).body)) (st38a l r (0, [])) := by
    have hrun : rgRun 0 (fun (j : Nat) (o : TL) => (X.normal, step38a l r j o)) l.length 0 [] = (.exit 0, (((0 + l.length : Nat) : Int), N.map ln1)) := by
      rw [rgRun_fold 0 (h := fun (j : Nat) (o : TL) => step38a l r j o) _ _ _ (fun _ _ _ _ => rfl), hfold]
    exact ldT_rg ok sp (N := (fnOf Tryz.f38).ntmps) (rel := rel38a) (B := lpB 0 (fnOf Tryz.f38).body) (id := 0) (k := l.length) (by omega) (st38a l r) (fun (j : Nat) (o : TL) => (X.normal, step38a l r j o)) (fun j o => o.length ≤ j)
      (fun j o hj ho => .leaf (by
        refine (round38a l r j o).trans ?_
        unfold step38a loudB roomN
        rw [inO_nat hj, lt_t hj, Int.toNat_natCast, room (k := 8) (by omega) (by omega)]
        cases decide (i1 (nth l j) ≥ r.1) <;> rfl)) (fun j o o' hj ho h => by
        cases h
        unfold step38a
        cases loudB l r j
        · simp only [cond_false]; omega
        · simp only [cond_true, List.length_append, List.length_singleton]; omega)
      (fun o _ => .leaf ((round38a l r _ o).trans (by rw [ge_f]; rfl))) (a0 := []) (by simp) hrun
  have lb : ∀ (x : X) (p : Int × BO), rgRun 2 (step38 l r N) N.length 0 (0, [], 0) = (x, p) → LdT ((cfg w0).at cs38) (ldP 2 (fnOf Tryz.f38).ntmps rel38b (outX 2 x) (st38b l r (N.map ln1) p)) (.loop (lpB 2 (fnOf Tryz.f38).body)) (st38b l r (N.map ln1) (0, 0, [], 0)) := fun x p hx =>
    ldT_rg ok sp (N := (fnOf Tryz.f38).ntmps) (rel := rel38b) (B := lpB 2 (fnOf Tryz.f38).body) (id := 2) (k := N.length) (by omega) (st38b l r (N.map ln1)) (step38 l r N) (fun j a => (∃ b : Nat, a.1 = (b : Int) ∧ b ≤ j) ∧ a.2.1.length ≤ j)
      (fun j a hj ⟨⟨b, hb, hbj⟩, ho⟩ => by
        obtain ⟨a1, o, e⟩ := a
        simp only at hb ho
        subst hb
        exact rd38b hg hN1 hN2 hN3 hj hbj ho e) (fun j a a' hj ⟨⟨b, hb, hbj⟩, ho⟩ h => by
        obtain ⟨a1, o, e⟩ := a
        simp only at hb ho
        unfold step38 at h
        simp only at h
        revert h
        cases (decide (j + 1 < N.length) && decide (((nthN N (j + 1) : Nat) : Int) - (nthN N j : Nat) - 1 ≤ r.2.1)) with
        | true => intro h; cases h; exact ⟨⟨b, hb, by omega⟩, by simp only; omega⟩
        | false =>
          cases decide ((j : Int) + 1 - a1 ≥ r.2.2) with
          | false => intro h; cases h; exact ⟨⟨j + 1, by simp, by omega⟩, by simp only; omega⟩
          | true =>
            cases bgE (gpR l ((nthN N a1.toNat : Nat), (nthN N j : Nat) + 1, (j : Int) + 1 - a1)) with
            | true => intro h; cases h
            | false => intro h; cases h; exact ⟨⟨j + 1, by simp, by omega⟩, by simp; omega⟩)
      (fun a _ => .leaf (by
        obtain ⟨a1, o, e⟩ := a
        refine (round38b l r (N.map ln1) _ a1 o e).trans ?_
        rw [List.length_map, ge_f]; rfl)) (a0 := (0, [], 0)) ⟨⟨0, rfl, by omega⟩, by simp⟩ hx
  cases hn : N with
  | nil =>
    have hb := body38 (w0 := w0) l r (((0 + l.length : Nat) : Int), N.map ln1) .normal (0, 0, [], 0) (.inr rfl)
    have := lb (.exit 2) (0, 0, [], 0) (by rw [hn]; rfl)
    exact fnD_t (cfg_ok w0) h0 hcs (fd := fnOf Tryz.f38) rfl hb (by exact ⟨this, la, trivial⟩)
  | cons x ys =>
    rw [← hn]
    have hpos : 0 < N.length := by rw [hn]; simp
    obtain ⟨n, hn1⟩ : ∃ n, N.length = n + 1 := ⟨N.length - 1, by omega⟩
    obtain ⟨q, b', o', hq⟩ := run38 l r N n 0 0 [] (by omega) (by omega)
    rw [← groups_zero r.2.1 hpos, ← hn1] at hq
    have hq : rgRun 2 (step38 l r N) N.length 0 (0, [], 0) = _ := hq
    cases ha : (((groups r.2.1 N).filter (selG r)).map (gpR l)).any bgE with
    | true =>
      rw [ha, cond_true] at hq
      have hb := body38 (w0 := w0) l r (((0 + l.length : Nat) : Int), N.map ln1) .ret ((q : Int), (b', o', 4)) (.inl rfl)
      exact fnD_nilE (fnD_t (cfg_ok w0) h0 hcs (fd := fnOf Tryz.f38) rfl hb (by exact ⟨lb _ _ hq, la, trivial⟩))
    | false =>
      rw [ha, cond_false, List.nil_append] at hq
      have hb := body38 (w0 := w0) l r (((0 + l.length : Nat) : Int), N.map ln1) .normal (((0 + N.length : Nat) : Int), (b', ((groups r.2.1 N).filter (selG r)).map (gpR l), 0)) (.inr rfl)
      exact fnD_t (cfg_ok w0) h0 hcs (fd := fnOf Tryz.f38) rfl hb (by exact ⟨lb _ _ hq, la, trivial⟩)
def c38 : Ct := ct 38 [.v intK, .b ruK] fun a => .br (sm a.1) (.leaf (eeD (ev38 a.1 (a.2.1.1, a.2.1.2.1, a.2.1.2.2.1)))) .bad
theorem gd38 (h0 : Lib0 w0) : Gd (cfg w0) c38 := gd_sig fun a d hd => by
  obtain ⟨l, ⟨x, y, z, _⟩, u⟩ := a
  obtain ⟨hg, hd⟩ := br_run hd
  cases hd
  exact fn38 h0 l (x, y, z) hg
end
end Go.Proofs.YtifnpljmjhnbaaaGreatDoor
