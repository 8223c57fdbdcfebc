/-
  A part of the proof of the statement that the claim names: see the last file.
-/
import Derived.Test.YtifnpljmjhnbaaaGreatDoorV4
namespace Go.Proofs
open Go.RowKit

theorem Tryz.lvl116 (x m : Nat) (n : Int) (w : World) (hm : floatBits .mul .f32 1098907648 x = some m) (hn : floatToIntVal .f32 m .i64 = some n) :
    Calls Tryz.prog 116 #[.float .f32 x] w fun e w' => e = .returned (.int .i64 n) ∧ w = w' := by
  have hmul : ∀ t w, (binOp .mul t (.float .f32 1098907648) (.float .f32 x)).run Tryz.prog w = .ok (.float .f32 m) w := fun t w => run_float_arith w .mul t .f32 1098907648 x m hm
  have hcv : ∀ w, (convert 139 3 (.float .f32 m)).run Tryz.prog w = .ok (.int .i64 n) w := fun w => run_convert_float_int w 139 3 .f32 .i64 m n (by rw [Tryz.underlying139]; rfl) Tryz.underlying3 hn
  go_enter Tryz.func116, Tryz.ntmps116
  go_wp2_with (first | simp only [hmul] | simp only [hcv])
  all_goals go_ret
  all_goals exact ⟨rfl, rfl⟩
end Go.Proofs
namespace Go.Proofs.YtifnpljmjhnbaaaGreatDoor
open Go Go.Am Go.RowKit
set_option maxRecDepth 100000
variable {w0 : World}
noncomputable section


theorem c116_fn (x : Nat) (h : isS x = true) : FnD (cfg w0) 116 [F32 x] (I (lvl x)) := by
  obtain ⟨m, y, y2, z, S⟩ := isS_spec h
  refine FnD.scal (vs := [.float .f32 x]) (by simp [scal]) rfl fun w hw => ?_
  refine (Tryz.lvl116 x m (lvl x) w S.hm S.hn).mono fun e w' ⟨h1, h2⟩ => ⟨h1, ?_⟩
  rw [← h2]; exact Below.refl _ _
def c116 : Ct := ct 116 [.c fK] fun a => .br (isS a.1) (.leaf (I (lvl a.1))) .bad
theorem gd116 : Gd (cfg w0) c116 := gd_sig fun a d hd => by
  obtain ⟨x, u⟩ := a
  obtain ⟨hg, hd⟩ := br_run hd
  cases hd
  exact c116_fn x hg
def rel157 : List (Nat × Cv) := [(0, .id), (3, .id), (2, .id)]
def st157 (l : FL) (a : Int × Int) : List D := [.vec fsK l, I a.1, I a.2]
theorem round157 (l : FL) (j b : Int) : rndD ((cfg w0).at [d186]) 40 [] 40 (fnOf Tryz.f157).ntmps rel157 (lpB 0 (fnOf Tryz.f157).body) (st157 l (j, b)) =
    bif decide (j < l.length) then bif inF l j then bif i1 (ckE (nth l j.toNat)) != 0 then some ([], .ret, st157 l (j, i1 (ckE (nth l j.toNat)))) else some ([], .normal, st157 l (IntKind.i64.wrap (j + 1), b)) else none
    else some ([], .exit 0, st157 l (j, b)) := by kernel_rfl
theorem body157 (l : FL) (x : X) (p : Int × Int) (hx : x = .ret ∨ x = .normal) : bodyT ((cfg w0).at [d186]) 40 [ldP 0 (fnOf Tryz.f157).ntmps rel157 x (st157 l p)] 40 (fnOf Tryz.f157) [.vec fsK l] =
    some ([(ldP 0 (fnOf Tryz.f157).ntmps rel157 x (st157 l p), .loop (lpB 0 (fnOf Tryz.f157).body), st157 l (0, 0))], onX x (I p.2) (I 0)) := by
  rcases hx with rfl | rfl <;> kernel_rfl
theorem firstF (p : Tup fsK → Int) : ∀ (l : FL) (i : Nat) (a : Int), ∃ q : Nat, lsRun 0 (fun x a => bif p x != 0 then (X.ret, p x) else (.normal, a)) l i a = bif firstZ (l.map p) != 0 then (.ret, ((q : Int), firstZ (l.map p))) else (.exit 0, (((i + l.length : Nat) : Int), a))
  | [], i, a => ⟨0, rfl⟩
  | x :: xs, i, a => by
    obtain ⟨q, hq⟩ := firstF p xs (i + 1) a
    cases hp : (p x != 0) with
    | true =>
      refine ⟨i, ?_⟩
      unfold lsRun
      rw [List.map_cons]
      unfold firstZ
      simp only [hp, cond_true]
    | false =>
      refine ⟨q, ?_⟩
      unfold lsRun
      rw [List.map_cons]
      unfold firstZ
      simp only [hp, cond_false]
      rw [hq, List.length_cons, show i + 1 + xs.length = i + (xs.length + 1) by omega]
theorem fn157 (h0 : Lib0 w0) (l : FL) (hl : l.length ≤ 100000) : FnD (cfg w0) 157 [.vec fsK l] (I (firstZ ((l.map ckE).map i1))) := by
  rw [List.map_map]
  refine fn_ls h0 (cs := [d186]) ⟨dd186 h0, trivial⟩ (fd := fnOf Tryz.f157) rfl rel157 l (by omega) (st157 l) (fun x a => bif (i1 ∘ ckE) x != 0 then (X.ret, (i1 ∘ ckE) x) else (.normal, a)) (fun _ _ => True) (a0 := 0) trivial
    (fun j a hj _ => .leaf (by
      rw [round157, inF_nat hj, lt_t hj, Int.toNat_natCast]
      show (bif true then bif true then _ else none else _) = some ([], (bif i1 (ckE (nth l j)) != 0 then (X.ret, i1 (ckE (nth l j))) else (X.normal, a)).1, _)
      cases hb : (i1 (ckE (nth l j)) != 0) <;> simp only [cond_true, cond_false, Function.comp, hb] <;> rfl)) (fun _ _ _ _ _ _ => trivial)
    (fun a _ => .leaf (by rw [round157, ge_f]; rfl)) fun x p hx => ?_
  obtain ⟨q, hq⟩ := firstF (i1 ∘ ckE) l 0 0
  rw [hq] at hx
  cases hf : (firstZ (l.map (i1 ∘ ckE)) != 0) <;> rw [hf] at hx <;> cases hx
  · rw [show firstZ (l.map (i1 ∘ ckE)) = 0 by simpa using hf]
    exact body157 l _ _ (.inr rfl)
  · exact body157 l _ _ (.inl rfl)
end
end Go.Proofs.YtifnpljmjhnbaaaGreatDoor

namespace Go.Proofs.YtifnpljmjhnbaaaGreatDoor
open Go Go.Am Go.RowKit
set_option maxRecDepth 100000
variable {w0 : World}
noncomputable section


def c157 : Ct := ct 157 [.v fsK] fun a => .br (smF a.1) (.leaf (I (firstZ (((a.1 : FL).map ckE).map i1)))) .bad
theorem gd157 (h0 : Lib0 w0) : Gd (cfg w0) c157 := gd_sig fun a d hd => by
  obtain ⟨l, u⟩ := a
  obtain ⟨hg, hd⟩ := br_run hd
  cases hd
  exact fn157 h0 l (Nat.le_of_ble_eq_true hg)
theorem run115 (l : FL) : bodyK ((cfg w0).at [c157, whenC 102, firstC 17]) 40 (fnOf Tryz.f115) [.vec fsK l] = bif smF l then some (I (ckW l)) else none := by kernel_rfl
def c115 : Ct := ct 115 [.v fsK] fun a => .br (smF a.1) (.leaf (I (ckW a.1))) .bad
theorem gd115 (h0 : Lib0 w0) : Gd (cfg w0) c115 := gd_sig fun a d hd => by
  obtain ⟨l, u⟩ := a
  obtain ⟨hg, hd⟩ := br_run hd
  cases hd
  have hg : smF l = true := hg
  exact fnD_k (cfg_ok w0) h0 (cs := [c157, whenC 102, firstC 17]) ⟨gd157 h0, gd102 h0, gd17 h0, trivial⟩ (fd := fnOf Tryz.f115) rfl (n := 40) ((run115 l).trans (by rw [hg]; rfl))
theorem run46 (a b : FL) : bodyK ((cfg w0).at [c115, whenC 102, firstC 17]) 40 (fnOf Tryz.f46) [.vec fsK a, .vec fsK b] = bif smF a then bif smF b then some (I (ckW2 a b)) else none else none := by kernel_rfl
def c46 : Ct := ct 46 [.v fsK, .v fsK] fun a => .br (smW a.1 a.2.1) (.leaf (I (ckW2 a.1 a.2.1))) .bad
theorem gd46 (h0 : Lib0 w0) : Gd (cfg w0) c46 := gd_sig fun a d hd => by
  obtain ⟨a, b, u⟩ := a
  obtain ⟨hg, hd⟩ := br_run hd
  cases hd
  have hg : (smF a && smF b) = true := hg
  rw [Bool.and_eq_true] at hg
  exact fnD_k (cfg_ok w0) h0 (cs := [c115, whenC 102, firstC 17]) ⟨gd115 h0, gd102 h0, gd17 h0, trivial⟩ (fd := fnOf Tryz.f46) rfl (n := 40) ((run46 a b).trans (by rw [hg.1, hg.2]; rfl))
end
end Go.Proofs.YtifnpljmjhnbaaaGreatDoor

namespace Go.Proofs.YtifnpljmjhnbaaaGreatDoor
open Go Go.Am Go.RowKit
set_option maxRecDepth 100000
variable {w0 : World}
noncomputable section


def rel48 : List (Nat × Cv) := [(0, .id), (1, .id), (5, .ov intK), (6, .id)]
def st48 (a b : FL) (p : Int × TLi) : List D := [.vec fsK a, .vec fsK b, .ovec intK p.2, I p.1]
def rel48i : List (Nat × Cv) := [(0, .id), (1, .id), (5, .ov intK), (6, .id), (7, .id), (8, .id)]
def st48i (a b : FL) (d : Int) (o : TLi) (p : Int × Int) : List D := [.vec fsK a, .vec fsK b, .ovec intK o, I d, I p.2, I p.1]
def ld48i (a b : FL) (d : Int) (o : TLi) (p : Int × Int) : Ld := ldP 2 (fnOf Tryz.f48).ntmps rel48i .normal (st48i a b d o p)
def ixC (b : FL) (i d : Int) : Int := (IntKind.i64.wrap (i + d)).tmod b.length
def trB (a b : FL) (i d : Int) : Int := IntKind.i64.wrap (lvl (f1 (nth a i.toNat)) * lvl (f1 (nth b (ixC b i d).toNat)))
theorem round48i (a b : FL) (d : Int) (o : TLi) (i s : Int) : rndD ((cfg w0).at [c116]) 40 [] 40 (fnOf Tryz.f48).ntmps rel48i (lpB 2 (fnOf Tryz.f48).body) (st48i a b d o (i, s)) =
    bif decide (i < a.length) then bif inF a i then bif isS (f1 (nth a i.toNat)) then bif decide ((b.length : Int) = 0) then none else bif inF b (ixC b i d) then bif isS (f1 (nth b (ixC b i d).toNat)) then
      some ([], .normal, st48i a b d o (W (i + 1), IntKind.i64.wrap (s + trB a b i d))) else none else none else none else none else some ([], .exit 2, st48i a b d o (i, s)) := by kernel_rfl
theorem round48 (a b : FL) (d : Int) (o : TLi) (q : Int × Int) : rndD ((cfg w0).at [c116]) 40 [ld48i a b d o q] 40 (fnOf Tryz.f48).ntmps rel48 (lpB 0 (fnOf Tryz.f48).body) (st48 a b (d, o)) =
    bif decide (d < a.length) then bif (Nat.ble ((o ++ [t1 q.2]).length * 8) 1000000000000 && Nat.ble (o ++ [t1 q.2]).length 1000000000000) then
      some ([(ld48i a b d o q, .loop (lpB 2 (fnOf Tryz.f48).body), st48i a b d o (0, 0))], .normal, st48 a b (W (d + 1), o ++ [t1 q.2])) else none else some ([], .exit 0, st48 a b (d, o)) := by kernel_rfl
theorem body48 (a b : FL) (p : Int × TLi) : bodyT ((cfg w0).at [c116]) 40 [ldP 0 (fnOf Tryz.f48).ntmps rel48 .normal (st48 a b p)] 40 (fnOf Tryz.f48) [.vec fsK a, .vec fsK b] =
    some ([(ldP 0 (fnOf Tryz.f48).ntmps rel48 .normal (st48 a b p), .loop (lpB 0 (fnOf Tryz.f48).body), st48 a b (0, []))], .vec intK p.2) := by kernel_rfl
theorem nth_map {l : FL} {j : Nat} (h : j < l.length) : i1 (nth (l.map lvE) j) = lvl (f1 (nth l j)) := by
  have e : nth (l.map lvE) j = lvE (nth l j) := by
    unfold nth
    rw [List.getD_eq_getElem?_getD, List.getElem?_map, List.getD_eq_getElem?_getD, List.getElem?_eq_getElem h]
    rfl
  rw [e]
  rfl
theorem ixC_eq {b : FL} {i d : Nat} (hb : 0 < b.length) (hi : i < 1000000) (hd : d < 1000000) : ixC b (i : Int) (d : Int) = (((i + d) % b.length : Nat) : Int) := by
  unfold ixC
  rw [W_id (by omega) (by omega), Int.tmod_eq_emod_of_nonneg (by omega)]
  rw [Int.natCast_emod, Int.natCast_add]
theorem trB_eq {a b : FL} {i d : Nat} (h100 : a.length ≤ 100000) (hl : a.length = b.length) (hi : i < a.length) (hd : d < a.length) : trB a b (i : Int) (d : Int) = trm (a.map lvE) (b.map lvE) (i : Int) (d : Int) := by
  have h1 := ixC_eq (b := b) (i := i) (d := d) (by omega) (by omega) (by omega)
  have h2 : (i + d) % b.length < b.length := Nat.mod_lt _ (by omega)
  have h3 : ixY (b.map lvE) (i : Int) (d : Int) = ixC b i d := by unfold ixY ixC; rw [List.length_map]
  unfold trB trm
  rw [h3, h1, Int.toNat_natCast, Int.toNat_natCast, nth_map hi, nth_map h2]
theorem li48 (a b : FL) (h0 : Lib0 w0) (d : Nat) (o : TLi) (hg : okW a b = true) (h100 : a.length ≤ 100000) (hl : a.length = b.length) (hd : d < a.length) :
    LdT ((cfg w0).at [c116]) (ld48i a b d o (((0 + a.length : Nat) : Int), corF (a.map lvE) (b.map lvE) d a.length 0)) (.loop (lpB 2 (fnOf Tryz.f48).body)) (st48i a b d o (0, 0)) := by
  obtain ⟨_, g2, _, g4⟩ := okW_spec hg
  have hx' : rgRun 2 (fun (i : Nat) (s : Int) => (X.normal, IntKind.i64.wrap (s + trm (a.map lvE) (b.map lvE) i d))) a.length 0 0 = (.exit 2, (((0 + a.length : Nat) : Int), corF (a.map lvE) (b.map lvE) d a.length 0)) :=
    rgRun_fold (h := fun (i : Nat) s => IntKind.i64.wrap (s + trm (a.map lvE) (b.map lvE) i d)) 2 a.length 0 _ (fun _ _ _ _ => rfl)
  exact ldT_rg (at_ok (cfg_ok w0) [c116]) (at_sp h0 (cs := [c116]) ⟨gd116, trivial⟩) (N := (fnOf Tryz.f48).ntmps) (rel := rel48i) (B := lpB 2 (fnOf Tryz.f48).body) (id := 2) (k := a.length) (by omega) (st48i a b d o) _ (fun _ _ => True)
    (fun i s hi _ => .leaf (by
      have h1 := ixC_eq (b := b) (i := i) (d := d) (by omega) (by omega) (by omega)
      have h2 : (i + d) % b.length < b.length := Nat.mod_lt _ (by omega)
      refine (round48i a b (d : Int) o (i : Int) s).trans ?_
      rw [lt_t hi, inF_nat hi, Int.toNat_natCast, allOk_nth g2 hi, decide_eq_false (show ¬ (b.length : Int) = 0 by omega), h1, inF_nat h2, Int.toNat_natCast, allOk_nth g4 h2, trB_eq h100 hl hi hd]
      rfl)) (fun _ _ _ _ _ _ => trivial)
    (fun s _ => .leaf ((round48i a b (d : Int) o _ s).trans (by rw [ge_f]; rfl))) (a0 := 0) trivial hx'
theorem fn48 (h0 : Lib0 w0) (a b : FL) (hg : okW a b = true) (hl : a.length = b.length) (h100 : a.length ≤ 100000) : FnD (cfg w0) 48 [.vec fsK a, .vec fsK b] (.vec intK (corL (a.map lvE) (b.map lvE))) := by
  have hx' : rgRun 0 (fun (d : Nat) (o : TLi) => (X.normal, o ++ [t1 (corF (a.map lvE) (b.map lvE) d a.length 0)])) a.length 0 [] = (.exit 0, (((0 + a.length : Nat) : Int), corL (a.map lvE) (b.map lvE))) := by
    rw [rgRun_fold (h := fun (d : Nat) (o : TLi) => o ++ [t1 (corF (a.map lvE) (b.map lvE) d a.length 0)]) 0 a.length 0 _ (fun _ _ _ _ => rfl), foldl_snoc (fun d : Nat => t1 (corF (a.map lvE) (b.map lvE) d a.length 0)), List.nil_append]
    unfold corL
    rw [List.length_map]
  have hld := ldT_rg (at_ok (cfg_ok w0) [c116]) (at_sp h0 (cs := [c116]) ⟨gd116, trivial⟩) (N := (fnOf Tryz.f48).ntmps) (rel := rel48) (B := lpB 0 (fnOf Tryz.f48).body) (id := 0) (k := a.length) (by omega) (st48 a b) _ (fun d o => o.length = d)
    (fun d o hd ho => by
      have ho : o.length = d := ho
      refine .one ((round48 a b (d : Int) o (((0 + a.length : Nat) : Int), corF (a.map lvE) (b.map lvE) d a.length 0)).trans ?_) (li48 a b h0 d o hg h100 hl hd)
      rw [lt_t hd, room (by omega) (by omega)]
      rfl) (fun d o o' _ ho h => by cases h; simp [ho])
    (fun o _ => .leaf ((round48 a b _ o (0, 0)).trans (by rw [ge_f]; rfl))) (a0 := []) rfl hx'
  exact fnD_lp (cfg_ok w0) h0 (cs := [c116]) ⟨gd116, trivial⟩ (g := 48) (fd := fnOf Tryz.f48) rfl (body48 a b _) hld
def c48 : Ct := ct 48 [.v fsK, .v fsK] fun a => .br (okW a.1 a.2.1) (.br (eqF a.1 a.2.1) (.leaf (.vec intK (corL ((a.1 : FL).map lvE) ((a.2.1 : FL).map lvE)))) .bad) .bad
theorem gd48 (h0 : Lib0 w0) : Gd (cfg w0) c48 := gd_sig fun a d hd => by
  obtain ⟨a, b, u⟩ := a
  obtain ⟨hg, hd⟩ := br_run hd
  obtain ⟨hl, hd⟩ := br_run hd
  cases hd
  exact fn48 h0 a b hg (Nat.eq_of_beq_eq_true hl) (Nat.le_of_ble_eq_true (okW_spec hg).1)
end
end Go.Proofs.YtifnpljmjhnbaaaGreatDoor
