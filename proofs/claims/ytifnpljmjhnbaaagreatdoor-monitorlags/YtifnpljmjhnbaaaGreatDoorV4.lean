/-
  A part of the proof of the statement that the claim names: see the last file.
-/
import Derived.Test.YtifnpljmjhnbaaaGreatDoorV3
import Derived.Test.YtifnpljmjhnbaaaGreatDoorL3
namespace Go.Proofs.YtifnpljmjhnbaaaGreatDoor
open Go Go.Am Go.RowKit
set_option maxRecDepth 100000
variable {w0 : World}
noncomputable section


def d204 : Ct := ct 204 [.c fK] fun a => .leaf (Bo (ni a.1))
theorem dd204 : Gd (cfg w0) d204 := gd_sig fun a d hd => by
  obtain ⟨x, u⟩ := a
  cases hd
  exact fn204 x
def d205 : Ct := ct 205 [.c fK, .c fK] fun a => .br (isG a.2.1) (.leaf (I (grd a.1))) .bad
theorem dd205 : Gd (cfg w0) d205 := gd_sig fun a d hd => by
  obtain ⟨x, g, u⟩ := a
  obtain ⟨hk, hd⟩ := br_run hd
  cases hd
  cases isG_eq hk
  exact fn205 x
def isMx (n : Int) : Bool := n == 16384
theorem isMx_eq {n : Int} (h : isMx n = true) : n = 16384 := eq_of_beq h
def d206 : Ct := ct 206 [.c fK, .c ik] fun a => .br (isMx a.2.1) (.leaf (I (chkF a.1))) .bad
theorem dd206 : Gd (cfg w0) d206 := gd_sig fun a d hd => by
  obtain ⟨x, g, u⟩ := a
  obtain ⟨hk, hd⟩ := br_run hd
  cases hd
  cases isMx_eq hk
  exact fn206 x
theorem run185' (x : Nat) : bodyK ((cfg w0).at [d204, d205, whenC 203]) 40 (fnOf Tryz.f185) [F32 x] = bif whenZ (ni x) 1 != 0 then some (I (whenZ (ni x) 1)) else bif grd x != 0 then some (I (grd x)) else some (I 0) := by kernel_rfl
def d185 : Ct := ct 185 [.c fK] fun a => .leaf (I (chkF a.1))
theorem dd185 (h0 : Lib0 w0) : Gd (cfg w0) d185 := gd_sig fun a d hd => by
  obtain ⟨x, u⟩ := a
  cases hd
  exact fnD_k (cfg_ok w0) h0 (cs := [d204, d205, whenC 203]) ⟨dd204, dd205, gd203 h0, trivial⟩ (fd := fnOf Tryz.f185) rfl (n := 40) ((run185' x).trans (by
    show _ = some (I (chkF x))
    unfold chkF whenZ
    cases ni x with
    | true => rfl
    | false =>
      cases hg : (grd x != 0) with
      | true => rfl
      | false =>
        have : grd x = 0 := by simpa using hg
        rw [this]
        rfl))
theorem run186 (x : Nat) : bodyK ((cfg w0).at [d206]) 40 (fnOf Tryz.f186) [F32 x] = some (I (chkF x)) := by kernel_rfl
def d186 : Ct := ct 186 [.c fK] fun a => .leaf (I (chkF a.1))
theorem dd186 (h0 : Lib0 w0) : Gd (cfg w0) d186 := gd_sig fun a d hd => by
  obtain ⟨x, u⟩ := a
  cases hd
  exact fnD_k (cfg_ok w0) h0 (cs := [d206]) ⟨dd206, trivial⟩ (fd := fnOf Tryz.f186) rfl (n := 40) (run186 x)


def ckE (x : Tup fsK) : Tup intK := t1 (chkF (f1 x))
theorem round184' (l : FL) (j : Int) (o : TLi) : rndD ((cfg w0).at [d185]) 40 [] 40 (fnOf Tryz.f184).ntmps rel184 (lpB 0 (fnOf Tryz.f184).body) (st184 l (j, o)) =
    bif decide (j < l.length) then bif inF l j then
      bif (Nat.ble ((o ++ [ckE (nth l j.toNat)]).length * 8) 1000000000000 && Nat.ble (o ++ [ckE (nth l j.toNat)]).length 1000000000000) then some ([], .normal, st184 l (W (j + 1), o ++ [ckE (nth l j.toNat)])) else none
    else none else some ([], .exit 0, st184 l (j, o)) := by kernel_rfl
theorem body184' (l : FL) (p : Int × TLi) : bodyT ((cfg w0).at [d185]) 40 [ldP 0 (fnOf Tryz.f184).ntmps rel184 .normal (st184 l p)] 40 (fnOf Tryz.f184) [.vec fsK l, .fn 185 [] []] =
    some ([(ldP 0 (fnOf Tryz.f184).ntmps rel184 .normal (st184 l p), .loop (lpB 0 (fnOf Tryz.f184).body), st184 l (0, []))], .vec intK p.2) := by kernel_rfl
theorem fn184' (h0 : Lib0 w0) (l : FL) (hg : l.length ≤ 100000) : FnD (cfg w0) 184 [.vec fsK l, .fn 185 [] []] (.vec intK (l.map ckE)) := by
  refine fn_ls h0 (cs := [d185]) ⟨dd185 h0, trivial⟩ (fd := fnOf Tryz.f184) rfl rel184 l (by omega) (st184 l) (fun w a => (X.normal, a ++ [ckE w])) (fun j a => a.length = j) (a0 := []) rfl
    (fun j a hj hi' => .leaf (by
      have hi' : a.length = j := hi'
      rw [round184', inF_nat hj, lt_t hj, Int.toNat_natCast, room (by omega) (by omega)]
      rfl)) (fun j a a' _ hi h => by cases h; simp [hi])
    (fun a _ => .leaf (by rw [round184', ge_f]; rfl)) fun x p hx => ?_
  rw [lsRun_fold (h := fun w b => b ++ [ckE w]) 0 l 0 [] (fun _ _ _ => rfl), foldl_snoc ckE] at hx
  cases hx
  exact body184' l _
def d184 : Ct := ct 184 [.v fsK, .x] fun a => match isFn 185 a.2.1 with
  | true => .br (smF a.1) (.leaf (.vec intK ((a.1 : FL).map ckE))) .bad
  | false => .bad
theorem dd184 (h0 : Lib0 w0) : Gd (cfg w0) d184 := gd_sig fun a d hd => by
  obtain ⟨l, f, u⟩ := a
  simp only at hd
  cases hb : isFn 185 f with
  | false => rw [hb] at hd; cases hd
  | true =>
    rw [hb] at hd
    obtain ⟨hg, hd⟩ := br_run hd
    cases hd
    cases isFn_eq hb
    exact fn184' h0 l (Nat.le_of_ble_eq_true hg)
def ckW (l : FL) : Int := firstZ [whenZ (decide ((l.length : Int) < 2)) 16, whenZ (decide ((l.length : Int) > 16)) 5, firstZ ((l.map ckE).map i1)]
theorem run153v (l : FL) : bodyK ((cfg w0).at [d184, whenC 104, firstC 84]) 40 (fnOf Tryz.f153) [.vec fsK l] = bif smF l then bif Nat.ble (l.map ckE).length 100000 then some (I (ckW l)) else none else none := by kernel_rfl
theorem run153u (l : FL) (hg : smF l = true) : bodyK ((cfg w0).at [d184, whenC 104, firstC 84]) 40 (fnOf Tryz.f153) [.vec fsK l] = some (I (ckW l)) := by
  rw [run153v, hg, List.length_map, show Nat.ble (List.length l) 100000 = true from hg]
  rfl
def d153 : Ct := ct 153 [.v fsK] fun a => .br (smF a.1) (.leaf (I (ckW a.1))) .bad
theorem dd153 (h0 : Lib0 w0) : Gd (cfg w0) d153 := gd_sig fun a d hd => by
  obtain ⟨l, u⟩ := a
  obtain ⟨hg, hd⟩ := br_run hd
  cases hd
  exact fnD_k (cfg_ok w0) h0 (cs := [d184, whenC 104, firstC 84]) ⟨dd184 h0, gd104 h0, gd84 h0, trivial⟩ (fd := fnOf Tryz.f153) rfl (n := 40) (run153u l hg)
def ckW2 (a b : FL) : Int := firstZ [ckW a, ckW b, whenZ ((a.length : Int) != b.length) 2]
def smW (a b : FL) : Bool := smF a && smF b
theorem run111v (a b : FL) : bodyK ((cfg w0).at [d153, whenC 104, firstC 84]) 40 (fnOf Tryz.f111) [.vec fsK a, .vec fsK b] = bif smF a then bif smF b then some (I (ckW2 a b)) else none else none := by kernel_rfl
def d111 : Ct := ct 111 [.v fsK, .v fsK] fun a => .br (smW a.1 a.2.1) (.leaf (I (ckW2 a.1 a.2.1))) .bad
theorem dd111 (h0 : Lib0 w0) : Gd (cfg w0) d111 := gd_sig fun a d hd => by
  obtain ⟨a, b, u⟩ := a
  obtain ⟨hg, hd⟩ := br_run hd
  cases hd
  have hg : (smF a && smF b) = true := hg
  rw [Bool.and_eq_true] at hg
  exact fnD_k (cfg_ok w0) h0 (cs := [d153, whenC 104, firstC 84]) ⟨dd153 h0, gd104 h0, gd84 h0, trivial⟩ (fd := fnOf Tryz.f111) rfl (n := 40) ((run111v a b).trans (by rw [hg.1, hg.2]; rfl))
end
end Go.Proofs.YtifnpljmjhnbaaaGreatDoor

namespace Go.Proofs.YtifnpljmjhnbaaaGreatDoor
open Go Go.Am Go.RowKit Ieee
set_option maxRecDepth 100000
variable {w0 : World}
noncomputable section


theorem chkF_isS {x : Nat} (h : chkF x = 0) : isS x = true := by
  unfold chkF at h
  cases hn : ni x with
  | true => rw [hn] at h; cases h
  | false =>
    rw [hn] at h
    have h : grd x = 0 := h
    cases hx : FloatKind.f32.decode x with
    | nan s t => unfold grd at h; rw [hx] at h; cases h
    | infinity s => unfold grd at h; rw [hx] at h; cases h
    | number s m e =>
      rw [grd_num hx] at h
      obtain ⟨hN, _⟩ := Num.read (f := single) hx
      generalize m * 2 ^ (e + 1200).toNat = M at h hN
      unfold grdN at h
      cases hb : Nat.ble M tenU with
      | false => rw [hb] at h; cases h
      | true =>
        rw [hb] at h
        cases hd : decide (qU ∣ 16 * M) with
        | false => rw [hd] at h; cases h
        | true =>
          obtain ⟨m16, y, y2, z, n, S⟩ := smp_all hN (Nat.le_of_ble_eq_true hb)
          exact isS_of S (of_decide_eq_true hd)
theorem firstZ_mem0 : ∀ {l : List Int}, firstZ l = 0 → ∀ e ∈ l, e = 0
  | [], _, e, h => by cases h
  | x :: xs, hz, e, h => by
    unfold firstZ at hz
    obtain ⟨h1, h2⟩ := first_zero hz
    rcases List.mem_cons.1 h with rfl | h
    · exact h1
    · exact firstZ_mem0 h2 e h
theorem ckW_ok {l : FL} (h : ckW l = 0) : allOk l = true ∧ 2 ≤ l.length ∧ l.length ≤ 16 := by
  have hm := firstZ_mem0 h
  have h1 := hm _ (List.mem_cons_self ..)
  have h2 := hm _ (List.mem_cons_of_mem _ (List.mem_cons_self ..))
  have h3 := hm _ (List.mem_cons_of_mem _ (List.mem_cons_of_mem _ (List.mem_cons_self ..)))
  refine ⟨?_, ?_, ?_⟩
  · unfold allOk
    rw [List.all_eq_true]
    intro x hx
    refine chkF_isS ?_
    exact firstZ_mem0 h3 (chkF (f1 x)) (by rw [List.map_map]; exact List.mem_map.2 ⟨x, hx, rfl⟩)
  · unfold whenZ at h1
    cases hd : decide ((l.length : Int) < 2) with
    | true => rw [hd] at h1; cases h1
    | false => have := of_decide_eq_false hd; omega
  · unfold whenZ at h2
    cases hd : decide ((l.length : Int) > 16) with
    | true => rw [hd] at h2; cases h2
    | false => have := of_decide_eq_false hd; omega
theorem ckW2_ok {a b : FL} (h : ckW2 a b = 0) : okW a b = true ∧ 2 ≤ a.length ∧ a.length ≤ 16 ∧ a.length = b.length := by
  have hm := firstZ_mem0 h
  obtain ⟨a1, a2, a3⟩ := ckW_ok (hm _ (List.mem_cons_self ..))
  obtain ⟨b1, b2, b3⟩ := ckW_ok (hm _ (List.mem_cons_of_mem _ (List.mem_cons_self ..)))
  have h3 := hm _ (List.mem_cons_of_mem _ (List.mem_cons_of_mem _ (List.mem_cons_self ..)))
  refine ⟨?_, a2, a3, ?_⟩
  · unfold okW
    rw [a1, b1, show smF a = true from (Nat.ble_eq ..).mpr (by omega), show smF b = true from (Nat.ble_eq ..).mpr (by omega)]
    rfl
  · unfold whenZ at h3
    cases hd : ((a.length : Int) != b.length) with
    | true => rw [hd] at h3; cases h3
    | false =>
      have : (a.length : Int) = b.length := by simpa using hd
      omega
end
end Go.Proofs.YtifnpljmjhnbaaaGreatDoor

namespace Go.Proofs.YtifnpljmjhnbaaaGreatDoor
open Go Go.Am Go.RowKit
set_option maxRecDepth 100000
variable {w0 : World}
noncomputable section


theorem run42v (a b : FL) : bodyK ((cfg w0).at [d111, c112]) 40 (fnOf Tryz.f42) [.vec fsK a, .vec fsK b] =
    bif smW a b then bif ckW2 a b != 0 then some (.tup [.val (.slice none 0 0), I (ckW2 a b)]) else bif okW a b then bif eqF a b then some (.tup [.vec intK (corL (a.map lvE) (b.map lvE)), I 0]) else none else none else none := by kernel_rfl
def cor42v (a b : FL) : LIx := bif ckW2 a b != 0 then ([], ckW2 a b) else (corL (a.map lvE) (b.map lvE), 0)
theorem fn42v (h0 : Lib0 w0) (a b : FL) (hg : smW a b = true) : FnD (cfg w0) 42 [.vec fsK a, .vec fsK b] (lixD (cor42v a b)) := by
  have hr := fun d h => fnD_k (d := d) (cfg_ok w0) h0 (cs := [d111, c112]) ⟨dd111 h0, gd112 h0, trivial⟩ (g := 42) (fd := fnOf Tryz.f42) rfl ((run42v a b).trans h)
  rw [hg] at hr
  unfold cor42v
  cases hc : (ckW2 a b != 0) with
  | true => rw [hc] at hr; exact FnD.nil_vec (ks := intK) (vs := [iv (ckW2 a b)]) rfl (by decide) (hr _ rfl)
  | false =>
    obtain ⟨h1, _, _, h3⟩ := ckW2_ok (a := a) (b := b) (by simpa using hc)
    rw [hc, h1, eqF_of h3] at hr
    exact hr _ rfl
def d42 : Ct := ct 42 [.v fsK, .v fsK] fun a => .br (smW a.1 a.2.1) (.leaf (lixD (cor42v a.1 a.2.1))) .bad
theorem dd42 (h0 : Lib0 w0) : Gd (cfg w0) d42 := gd_sig fun a d hd => by
  obtain ⟨a, b, u⟩ := a
  obtain ⟨hg, hd⟩ := br_run hd
  cases hd
  exact fn42v h0 a b hg
def cs44v : List Ct := [d111, c112, c113, c114]
theorem round44v (l : TLi) (d a : Int) : rndD ((cfg w0).at cs44v) 40 [] 40 (fnOf Tryz.f44).ntmps rel44 (lpB 0 (fnOf Tryz.f44).body) (st44 l (d, a)) =
    bif decide (d < l.length) then bif inO l d then bif inO l a then bif decide (i1 (nth l d.toNat) > i1 (nth l a.toNat)) then some ([], .normal, st44 l (W (d + 1), d)) else some ([], .normal, st44 l (W (d + 1), a)) else none else none
    else some ([], .exit 0, st44 l (d, a)) := by kernel_rfl
theorem body44v (a b : FL) (p : Int × Int) : bodyT ((cfg w0).at cs44v) 40 [ldP 0 (fnOf Tryz.f44).ntmps rel44 .normal (st44 (corL (a.map lvE) (b.map lvE)) p)] 40 (fnOf Tryz.f44) [.vec fsK a, .vec fsK b] =
    bif smW a b then bif ckW2 a b != 0 then some ([], .tup [I 0, .agg [I 0, I 0], I (ckW2 a b)]) else bif okW a b then bif eqF a b then t44 (corL (a.map lvE) (b.map lvE)) p else none else none else none := by kernel_rfl
def lag44v (a b : FL) : L4 := bif ckW2 a b != 0 then (0, 0, 0, ckW2 a b) else lagL (corL (a.map lvE) (b.map lvE))
theorem fn44v (h0 : Lib0 w0) (a b : FL) (hg : smW a b = true) : FnD (cfg w0) 44 [.vec fsK a, .vec fsK b] (lagD (lag44v a b)) := by
  have hcs : Gds (cfg w0) cs44v := ⟨dd111 h0, gd112 h0, gd113 h0, gd114 h0, trivial⟩
  unfold lag44v
  cases hc : (ckW2 a b != 0) with
  | true =>
    have hb := body44v (w0 := w0) a b (0, 0)
    rw [hg, hc] at hb
    exact fnD_t (cfg_ok w0) h0 hcs (fd := fnOf Tryz.f44) rfl hb trivial
  | false =>
    obtain ⟨h1, h2, h16, he⟩ := ckW2_ok (a := a) (b := b) (by simpa using hc)
    have hlen : (corL (a.map lvE) (b.map lvE)).length = a.length := by rw [corL_len, List.length_map]
    have hb := fun d : Int => body44v (w0 := w0) a b (d, (atM (corL (a.map lvE) (b.map lvE)) : Int))
    generalize corL (a.map lvE) (b.map lvE) = l at hlen hb
    have hx : rgRun 0 (fun (d : Nat) (a : Nat) => (X.normal, stM l d a)) l.length 0 0 = (.exit 0, (((0 + l.length : Nat) : Int), atM l)) :=
      rgRun_fold (h := fun (d : Nat) a => stM l d a) 0 l.length 0 _ (fun _ _ _ _ => rfl)
    have hld := ldT_rg (at_ok (cfg_ok w0) cs44v) (at_sp h0 hcs) (N := (fnOf Tryz.f44).ntmps) (rel := rel44) (B := lpB 0 (fnOf Tryz.f44).body) (id := 0) (k := l.length) (by omega) (fun p : Int × Nat => st44 l (p.1, (p.2 : Int))) _ (fun _ a => a < l.length)
      (fun d a hd ha => .leaf (by
        refine (round44v l (d : Int) (a : Int)).trans ?_
        rw [lt_t hd, inO_nat hd, inO_nat ha, Int.toNat_natCast, Int.toNat_natCast]
        unfold stM
        cases decide (i1 (nth l d) > i1 (nth l a)) <;> rfl)) (fun d a a' hd ha h => by
        cases h
        unfold stM
        cases decide (i1 (nth l d) > i1 (nth l a))
        · exact ha
        · exact hd)
      (fun a _ => .leaf ((round44v l _ (a : Int)).trans (by rw [ge_f]; rfl))) (a0 := 0) (by omega) hx
    have hb := hb (((0 + l.length : Nat) : Int))
    rw [hg, hc, h1, eqF_of he, t44_eq (by omega) (by omega)] at hb
    exact fnD_lp (cfg_ok w0) h0 hcs (g := 44) (fd := fnOf Tryz.f44) rfl hb hld
def d44 : Ct := ct 44 [.v fsK, .v fsK] fun a => .br (smW a.1 a.2.1) (.leaf (lagD (lag44v a.1 a.2.1))) .bad
theorem dd44 (h0 : Lib0 w0) : Gd (cfg w0) d44 := gd_sig fun a d hd => by
  obtain ⟨a, b, u⟩ := a
  obtain ⟨hg, hd⟩ := br_run hd
  cases hd
  exact fn44v h0 a b hg
end
end Go.Proofs.YtifnpljmjhnbaaaGreatDoor
