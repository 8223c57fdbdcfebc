/-
  A part of the proof of the statement that the claim names: see the last file.
-/
import Derived.Test.YtifnpljmjhnbaaaGreatDoorL7
namespace Go.Proofs.YtifnpljmjhnbaaaGreatDoor
open Go Go.Am Go.RowKit
set_option maxRecDepth 100000
variable {w0 : World}
noncomputable section


abbrev Q4 := TLq × Int × Int × Int
def qOf (i : Int) (a : Q4) : Qz := ⟨a.1, a.2.1, i, a.2.2.1, a.2.2.2⟩
def stp82 (P : List (List UInt8)) (j : Nat) (a : Q4) : X × Q4 :=
  bif lineOk ⟨a.1, (j : Int), a.2.1⟩ true (splW (P.getD j [])) then (.normal, (nxP ⟨a.1, (j : Int), a.2.1⟩ (P.getD j [])).o, (nxP ⟨a.1, (j : Int), a.2.1⟩ (P.getD j [])).k, a.2.2) else (.ret, a.1, a.2.1, (j : Int), 25)
theorem runQ (P : List (List UInt8)) : ∀ (f j : Nat) (o : TLq) (k r e : Int), j + f + 1 = P.length → match goP (P.drop j) ⟨o, (j : Int), k⟩ with
    | .bad i => (∃ x o' k', rgRun 0 (stp82 P) f j (o, k, r, e) = (.ret, x, o', k', i, 25)) ∨ ((∃ o' k', rgRun 0 (stp82 P) f j (o, k, r, e) = (.exit 0, ((j + f : Nat) : Int), o', k', r, e)) ∧ P.getD (j + f) [] ≠ [] ∧ i = ((j + f : Nat) : Int))
    | .good q => rgRun 0 (stp82 P) f j (o, k, r, e) = (.exit 0, ((j + f : Nat) : Int), q.o, q.k, r, e) ∧ P.getD (j + f) [] = [] ∧ q.n = ((j + f : Nat) : Int)
  | 0, j, o, k, r, e, h => by
    have hj : j < P.length := by omega
    rw [List.drop_eq_getElem_cons hj, List.drop_eq_nil_of_le (by omega)]
    have hg : P.getD (j + 0) [] = P[j] := by rw [Nat.add_zero, List.getD_eq_getElem?_getD, List.getElem?_eq_getElem hj]; rfl
    rw [hg]
    cases hx : P[j] with
    | nil => exact ⟨rfl, rfl, rfl⟩
    | cons b l => exact .inr ⟨⟨o, k, rfl⟩, by simp, rfl⟩
  | f + 1, j, o, k, r, e, h => by
    have hj : j < P.length := by omega
    have hj2 : j + 1 < P.length := by omega
    have hd : P.drop j = P[j] :: P[j + 1] :: P.drop (j + 1 + 1) := by rw [List.drop_eq_getElem_cons hj, List.drop_eq_getElem_cons hj2]
    have hd2 : P.drop (j + 1) = P[j + 1] :: P.drop (j + 1 + 1) := List.drop_eq_getElem_cons hj2
    have hg : P.getD j [] = P[j] := by rw [List.getD_eq_getElem?_getD, List.getElem?_eq_getElem hj]; rfl
    have hgo : goP (P.drop j) ⟨o, (j : Int), k⟩ = bif lineOk ⟨o, (j : Int), k⟩ true (splW P[j]) then goP (P.drop (j + 1)) (nxP ⟨o, (j : Int), k⟩ P[j]) else .bad (j : Int) := by rw [hd, hd2]; rfl
    rw [hgo]
    unfold rgRun
    cases hok : lineOk ⟨o, (j : Int), k⟩ true (splW P[j]) with
    | false =>
      have es : stp82 P j (o, k, r, e) = (.ret, o, k, (j : Int), 25) := by
        unfold stp82
        rw [hg]
        simp only [hok]
        rfl
      rw [es]
      exact .inl ⟨_, _, _, rfl⟩
    | true =>
      have es : stp82 P j (o, k, r, e) = (.normal, (nxP ⟨o, (j : Int), k⟩ P[j]).o, (nxP ⟨o, (j : Int), k⟩ P[j]).k, r, e) := by
        unfold stp82
        rw [hg]
        simp only [hok]
        rfl
      rw [es]
      simp only
      have ih := runQ P f (j + 1) (nxP ⟨o, (j : Int), k⟩ P[j]).o (nxP ⟨o, (j : Int), k⟩ P[j]).k r e (by omega)
      rw [show j + (f + 1) = j + 1 + f by omega]
      exact ih
theorem cs82_gd (h0 : Lib0 w0) : Gds (cfg w0) cs82 := ⟨gd83 h0, gd141 h0, gd142 h0, gd102 h0, gd17 h0, gd29 h0, trivial⟩
theorem spl_small (c : UInt8) : ∀ l : List UInt8, ∀ x ∈ spl c l, x.length ≤ l.length
  | [], x, hx => by
    simp only [spl, List.mem_singleton] at hx
    rw [hx]
    exact Nat.le_refl _
  | b :: l, x, hx => by
    cases hb : (b == c) with
    | true =>
      rw [spl_t hb] at hx
      rcases List.mem_cons.1 hx with rfl | hx
      · exact Nat.zero_le _
      · have := spl_small c l x hx
        simp only [List.length_cons]; omega
    | false =>
      rw [spl_f hb] at hx
      have ih := spl_small c l
      cases hs : spl c l with
      | nil =>
        rw [hs] at hx
        simp only [consH, List.mem_singleton] at hx
        rw [hx]; simp
      | cons y ys =>
        rw [hs] at hx ih
        rcases List.mem_cons.1 (show x ∈ (b :: y) :: ys from hx) with rfl | hx
        · have := ih y (by simp)
          simp only [List.length_cons]; omega
        · have := ih x (by simp [hx])
          simp only [List.length_cons]; omega
theorem fn82 (h0 : Lib0 w0) (s : ByteArray) : FnD (cfg w0) 82 [St_ s] (p3D (parP s)) := by
  have he : e80 s = bif decide (((s.size : Nat) : Int) > 4096) then 26 else bif s.toList == mtL.toList then 25 else 0 := by
    unfold e80 firstZ firstZ firstZ whenZ
    cases decide (((s.size : Nat) : Int) > 4096) <;> cases (s.toList == mtL.toList) <;> rfl
  have hnil : ∀ {a e : Int}, FnD (cfg w0) 82 [St_ s] (.tup [nlV, I a, I e]) → FnD (cfg w0) 82 [St_ s] (p3D ([], a, e)) := fun {a e} h => FnD.nil_vec (ks := intK) (vs := [iv a, iv e]) rfl (by decide) h
  unfold parP
  rw [he]
  cases h1 : decide (((s.size : Nat) : Int) > 4096) with
  | true =>
    have hb := body82r (w0 := w0) s ⟨[], 0, 0, 0, 0⟩
    rw [h1] at hb
    exact hnil (fnD_t (cfg_ok w0) h0 (cs82_gd h0) (fd := fnOf Tryz.f82) rfl hb trivial)
  | false =>
    cases h2 : (s.toList == mtL.toList) with
    | true =>
      have hb := body82r (w0 := w0) s ⟨[], 0, 0, 0, 0⟩
      rw [h1, h2] at hb
      exact hnil (fnD_t (cfg_ok w0) h0 (cs82_gd h0) (fd := fnOf Tryz.f82) rfl hb trivial)
    | false =>
      simp only [cond_false]
      rw [show ((0 : Int) != 0) = false from rfl]
      simp only [cond_false]
      have hs : s.size ≤ 4096 := by have := of_decide_eq_false h1; omega
      have hsm : smS s = true := (Nat.ble_eq ..).mpr (by omega)
      have hok10 : okU 10 = true := by decide
      have hL : splC (cU 10) s = (spl 10 (bl s)).map tupS := rfl
      have hcl : (bl s).count 10 ≤ s.size := by rw [← bl_len]; exact List.count_le_length
      have hPl := spl_len 10 (bl s)
      have hPs := spl_small 10 (bl s)
      rw [bl_len] at hPs
      have hrun := runQ (spl 10 (bl s)) ((spl 10 (bl s)).length - 1) 0 [] 0 0 0 (by omega)
      rw [List.drop_zero, Nat.zero_add] at hrun
      have hen : en82 (splC (cU 10) s) = (((spl 10 (bl s)).length - 1 : Nat) : Int) := by
        unfold en82
        rw [hL, List.length_map, W_id (by omega) (by omega)]
        omega
      have hbn := body82n (w0 := w0) s
      have hbr := body82r (w0 := w0) s
      simp only [h1, h2, hsm, hok10, hen, cond_false, gO, cond_true] at hbn hbr
      rw [hL] at hbn hbr
      generalize hP : spl 10 (bl s) = P at *
      have hld : ∀ (x : X) (i : Int) (a : Q4), rgRun 0 (stp82 P) (P.length - 1) 0 ([], 0, 0, 0) = (x, i, a) → LdT ((cfg w0).at cs82) (ld82 (P.map tupS) (((P.length - 1 : Nat) : Int)) (outX 0 x) (qOf i a)) (.loop (lpB 0 (fnOf Tryz.f82).body)) (st82 (P.map tupS) (((P.length - 1 : Nat) : Int)) ⟨[], 0, 0, 0, 0⟩) := fun x i a hx =>
        ldT_rg (at_ok (cfg_ok w0) cs82) (at_sp h0 (cs82_gd h0)) (N := N82) (rel := rel82) (B := lpB 0 (fnOf Tryz.f82).body) (id := 0) (k := P.length - 1) (by omega) (fun p : Int × Q4 => st82 (P.map tupS) (((P.length - 1 : Nat) : Int)) (qOf p.1 p.2)) (stp82 P) (fun j a => a.1.length ≤ j)
          (fun j a hj ha => .leaf (by
            have hj1 : j < P.length := by omega
            have hgd : P.getD j [] = P[j] := by rw [List.getD_eq_getElem?_getD, List.getElem?_eq_getElem hj1]; rfl
            refine (round82 _ _ (qOf (j : Int) a)).trans ?_
            rw [tree82_eq (q := qOf (j : Int) a) (i := j) rfl (by omega) (by have : (qOf (j : Int) a).o.length ≤ j := ha; omega) (by have := hPs P[j] (List.getElem_mem hj1); omega) (by omega)]
            unfold ln82 stp82 rt82
            rw [hgd]
            cases hok : lineOk ⟨a.1, (j : Int), a.2.1⟩ true (splW P[j]) with
            | false =>
              rw [show lineOk ⟨(qOf (j : Int) a).o, (qOf (j : Int) a).i, (qOf (j : Int) a).k⟩ true (splW P[j]) = false from hok]
              rfl
            | true =>
              rw [show lineOk ⟨(qOf (j : Int) a).o, (qOf (j : Int) a).i, (qOf (j : Int) a).k⟩ true (splW P[j]) = true from hok]
              rfl)) (fun j a a' hj ha h => by
            unfold stp82 at h
            cases hok : lineOk ⟨a.1, (j : Int), a.2.1⟩ true (splW (P.getD j [])) with
            | false => rw [hok] at h; cases h
            | true =>
              rw [hok] at h
              cases h
              have := lineE_o ⟨a.1, (j : Int), a.2.1⟩ (splW (P.getD j []))
              show (lineE ⟨a.1, (j : Int), a.2.1⟩ (splW (P.getD j []))).o.length ≤ j + 1
              have h3 : a.1.length ≤ j := ha
              have h4 : (Pz.o ⟨a.1, (j : Int), a.2.1⟩).length = a.1.length := rfl
              omega)
          (fun a _ => .leaf ((round82 _ _ (qOf _ a)).trans (by
            unfold tree82
            rw [show decide ((qOf (((P.length - 1 : Nat) : Int)) a).i < ((P.length - 1 : Nat) : Int)) = false from ge_f _]
            rfl))) (a0 := ([], 0, 0, 0)) (Nat.le_refl _) hx
      have hlast : lnL (P.map tupS) (((P.length - 1 : Nat) : Int)) = mkB (P.getD (P.length - 1) []) := by
        unfold lnL
        rw [Int.toNat_natCast, nth_map (by omega), List.getD_eq_getElem?_getD, List.getElem?_eq_getElem (by omega)]
        rfl
      have hinl : inL (P.map tupS) (((P.length - 1 : Nat) : Int)) = true := inL_nat (by rw [List.length_map]; omega)
      have hemp : ∀ l : List UInt8, ((mkB l).toList != mtL.toList) = !decide (l = []) := fun l => by
        show (!((mkB l).toList == mtL.toList)) = _
        rw [str_eq, bl_mkB]
        cases l with
        | nil => rfl
        | cons b l => rfl
      rw [hinl, hlast, hemp] at hbn
      simp only [cond_true] at hbn
      have hen' : en82 (P.map tupS) = (((P.length - 1 : Nat) : Int)) := by rw [← hL]; exact hen
      have hO : ∀ (x : X) (q : Qz), LdT ((cfg w0).at cs82) (ld82 (P.map tupS) (((P.length - 1 : Nat) : Int)) x q) (.loop (lpB 0 (fnOf Tryz.f82).body)) (st82 (P.map tupS) (((P.length - 1 : Nat) : Int)) ⟨[], 0, 0, 0, 0⟩) → Owed ((cfg w0).at cs82) (ob82 (P.map tupS) x q) := fun x q h => by
        unfold ob82
        rw [hen']
        exact ⟨h, trivial⟩
      cases hg : goP P ⟨[], ((0 : Nat) : Int), 0⟩ with
      | bad i =>
        rw [hg] at hrun
        show FnD (cfg w0) 82 [St_ s] (p3D ([], i, 25))
        rcases hrun with ⟨x, o', k', hx⟩ | ⟨⟨o', k', hx⟩, hne, rfl⟩
        · exact hnil (fnD_t (cfg_ok w0) h0 (cs82_gd h0) (fd := fnOf Tryz.f82) rfl (hbr (qOf x (o', k', i, 25))) (hO _ _ (hld _ _ _ hx)))
        · have hb := hbn (qOf (((P.length - 1 : Nat) : Int)) (o', k', 0, 0))
          rw [decide_eq_false hne] at hb
          exact hnil (fnD_t (cfg_ok w0) h0 (cs82_gd h0) (fd := fnOf Tryz.f82) rfl hb (hO _ _ (hld _ _ _ hx)))
      | good q =>
        have hql := goP_len _ _ _ hg
        rw [hg] at hrun
        obtain ⟨hx, hl, hn⟩ := hrun
        have hb := hbn (qOf (((P.length - 1 : Nat) : Int)) (q.o, q.k, 0, 0))
        have hsmo : sm q.o = true := (Nat.ble_eq ..).mpr (by simp only [List.length_nil] at hql; omega)
        rw [decide_eq_true hl] at hb
        show FnD (cfg w0) 82 [St_ s] (p3D (bif e80b q != 0 then ([], q.n, e80b q) else (q.o, 0, 0)))
        have hb : bodyT ((cfg w0).at cs82) 40 [ld82 (P.map tupS) (((P.length - 1 : Nat) : Int)) .normal (qOf (((P.length - 1 : Nat) : Int)) (q.o, q.k, 0, 0))] 40 (fnOf Tryz.f82) [St_ s] =
            bif sm q.o then bif e80b q != 0 then some (ob82 (P.map tupS) .normal (qOf (((P.length - 1 : Nat) : Int)) (q.o, q.k, 0, 0)), .tup [nlV, I (((P.length - 1 : Nat) : Int)), I (e80b q)]) else some (ob82 (P.map tupS) .normal (qOf (((P.length - 1 : Nat) : Int)) (q.o, q.k, 0, 0)), .tup [.vec intK q.o, I 0, I 0]) else none := hb
        rw [hsmo] at hb
        cases he2 : (e80b q != 0) with
        | true =>
          rw [he2] at hb
          rw [hn]
          exact hnil (fnD_t (cfg_ok w0) h0 (cs82_gd h0) (fd := fnOf Tryz.f82) rfl hb (hO _ _ (hld _ _ _ hx)))
        | false =>
          rw [he2] at hb
          exact fnD_t (cfg_ok w0) h0 (cs82_gd h0) (fd := fnOf Tryz.f82) rfl hb (hO _ _ (hld _ _ _ hx))
def c82 : Ct := ct 82 [.c .str] fun a => .leaf (p3D (parP a.1))
theorem gd82 (h0 : Lib0 w0) : Gd (cfg w0) c82 := gd_sig fun a d hd => by
  obtain ⟨s, u⟩ := a
  cases hd
  exact fn82 h0 s
end
end Go.Proofs.YtifnpljmjhnbaaaGreatDoor
