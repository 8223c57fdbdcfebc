/-
 A part of the proof of the statement that the claim names: see the last file.
-/
import Derived.Test.YtmlglimahbjgbaaGreatDoorW3
import Derived.Test.YtmlglimahbjgbaaGreatDoorS6
import Derived.Test.YtmlglimahbjgbaaGreatDoorT9
import Derived.Test.YtmlglimahbjgbaaGreatDoorD2
namespace Go.Proofs.YtmlglimahbjgbaaGreatDoor
open Go Go.Am Go.Town
set_option maxRecDepth 100000
variable {w0 : World}
noncomputable section
def slB (b : Bd) : D := .sl 1 4 [Str b.nm, .vec ptK b.cs, I b.h, I b.e]
def as1 : D → Option Bd
 | .sl n sz [.val (.string nm), .vec ks l, .val (.int .i64 h), .val (.int .i64 e)] => match Nat.beq n 1 && Nat.beq sz 4, recast ks ptK l with
   | true, some cs => some ⟨nm, cs, h, e⟩
   | _, _ => none
 | _ => none
theorem as1_eq {d : D} {b : Bd} (h : as1 d = some b) : d = slB b := by
 unfold as1 at h
 split at h
 ·split at h
  ·rename_i n sz nm ks l hh e x y cs hb hr
   simp only [Bool.and_eq_true, Nat.beq_eq] at hb
   obtain ⟨rfl, rfl⟩ := hb
   cases h
   obtain ⟨e, rfl⟩ := recast_eq hr
   subst e
   rfl
  ·cases h
 ·cases h
def oneC (g : Nat) (F : Bd → FT D) : Ct := ct g [.x] fun a => match as1 a.1 with
 | some b => F b
 | none => .bad
theorem gd_one {g : Nat} {F : Bd → FT D} (H : ∀ b d, (F b).run = some d → FnD (cfg w0) g [slB b] d) : Gd (cfg w0) (oneC g F) := gd_sig fun a d hd => by
 obtain ⟨x, u⟩ := a
 simp only at hd
 cases hb : as1 x with
 | none => rw [hb] at hd; cases hd
 | some b =>
   rw [hb] at hd
   cases as1_eq hb
   exact H b d hd
def cs75s : List Ct := [checkBC 137, ⟨119, tG whenF⟩, ⟨98, tG firstF⟩]
def er1 (b : Bd) : Int := firstZ [chkB b, whenZ (decide ((-1 : Int) ≥ 0)) 9]
theorem er1_eq (b : Bd) : er1 b = chkB b := by
 unfold er1 firstZ firstZ firstZ
 show (bif chkB b != 0 then chkB b else (bif (0 : Int) != 0 then 0 else 0)) = chkB b
 cases h : (chkB b != 0) with
 | true => rfl
 | false =>
   have : chkB b = 0 := by simpa using h
   rw [this]; rfl
theorem run75s (b : Bd) : bodyK (((cfg w0).onI [145, 146, 181]).at cs75s) 60 (fnOf Tryz.f75) [slB b] = bif smallB b then bif er1 b != 0 then some (I (er1 b)) else some (I 0) else none := by cases b; kernel_rfl
def c75s : Ct := oneC 75 fun b => .br (smallB b) (.leaf (I (chkB b))) .bad
theorem gd75s (h0 : Lib0 w0) : Gd (cfg w0) c75s := gd_one fun b d hd => by
 obtain ⟨hg, hd⟩ := br_run hd
 cases hd
 exact fnD_k (C := (cfg w0).onI [145, 146, 181]) (Cfg.onI_ok (cfg_ok w0) _) (specs_onI h0 _) (cs := cs75s) ⟨gd137 h0, gd_of (when_good h0), gd_of (first_good h0), trivial⟩ (fd := fnOf Tryz.f75) rfl (n := 60) ((run75s b).trans (by
  rw [hg, er1_eq]
  cases h : (chkB b != 0) with
  | true => rfl
  | false =>
    have : chkB b = 0 := by simpa using h
    rw [this]; rfl))
theorem run135s (b : Bd) : bodyK ((cfg w0).at [c136]) 60 (fnOf Tryz.f135) [slB b, .fn 136 [] []] = bif smallB b then some (.sl 1 1 [.vec wallK (edges b)]) else none := by cases b; kernel_rfl
def c135s : Ct := ct 135 [.x, .x] fun a => match as1 a.1, fnIs 136 a.2.1 with
 | some b, true => .br (smallB b) (.leaf (.sl 1 1 [.vec wallK (edges b)])) .bad
 | _, _ => .bad
theorem gd135s (h0 : Lib0 w0) : Gd (cfg w0) c135s := gd_sig fun a d hd => by
 obtain ⟨x, f, u⟩ := a
 simp only at hd
 split at hd
 ·rename_i b hb hf
  obtain ⟨hg, hd⟩ := br_run hd
  cases hd
  cases as1_eq hb
  cases fnIs_inv hf
  exact fnD_k (cfg_ok w0) h0 (cs := [c136]) ⟨gd136 h0, trivial⟩ (fd := fnOf Tryz.f135) rfl (n := 60) ((run135s b).trans (by rw [hg]; rfl))
 ·cases hd
def z0s : Int := W (((0 : Nat) : Int) - ((0 : Nat) : Int))
def lnS1 (l : List (Tup wallK)) : Int := W (0 + (l.length : Int))
def gzs (n : Int) : Bool := decide (0 < n) && (decide (n ≤ 10000000) && Nat.ble (n.toNat * 64) 1000000000000)
def rpW (l : List (Tup wallK)) : List (Tup wallK) := List.replicate (W (lnS1 l - z0s)).toNat (dfl wallK)
def rmW1 (l : List (Tup wallK)) : Bool := Nat.ble (l.length * 64) 1000000000000 && Nat.ble l.length 1000000000000
theorem run134s (m : List (Tup wallK)) (x : Tup wallK) : bodyK (((cfg w0).onI [175]).at []) 60 (fnOf Tryz.f134) [.sl 1 1 [.vec wallK (x :: m)]] =
  bif decide (lnS1 (x :: m) < 0) then none else bif decide (lnS1 (x :: m) < 0) then none else bif decide (W (lnS1 (x :: m) - z0s) > 0) then bif gzs (W (lnS1 (x :: m) - z0s)) then
   bif Nat.ble (0 + 0 + (x :: m).length) (rpW (x :: m)).length then some (.vec wallK (List.take (0 + (x :: m).length) (List.drop 0 (setAt (rpW (x :: m)) (0 + 0) (x :: m))))) else none else none
  else bif rmW1 (x :: m) then some (.vec wallK (x :: m)) else none := by kernel_rfl
end
end Go.Proofs.YtmlglimahbjgbaaGreatDoor
namespace Go.Proofs.YtmlglimahbjgbaaGreatDoor
open Go Go.Am Go.Town
set_option maxRecDepth 100000
variable {w0 : World}
noncomputable section
def orW (e : Int) (x : List (Tup wallK)) : List (Tup wallK) := bif e != 0 then [] else x
def orB (e : Int) (x : Bool) : Bool := bif e != 0 then false else x
def em68 (l : List (Tup wallK)) (x : Tup bxK) : Bool := e68 l x == 0 && (!(idx180 l x == -1) && (keepW x l).isEmpty)
def m68 (l : List (Tup wallK)) (x : Tup bxK) : D := .tup [.vec wallK (orW (e68 l x) (keepW x l)), I (e68 l x)]
def c68v : Ct := ct 68 [.v wallK, .b bxK] fun a => .br (em68 a.1 a.2.1) (.leaf (.tup [.emp 7, I 0])) (.leaf (m68 a.1 a.2.1))
theorem c68v_run (l : List (Tup wallK)) (x : Tup bxK) {d : D} (h : (FT.br (em68 l x) (.leaf (.tup [.emp 7, I 0])) (.leaf (m68 l x))).run = some d) : (F68 l x).run = some d := by
 unfold F68
 unfold em68 m68 orW at h
 simp only [FT.run] at h ⊢
 cases hc : (e68 l x != 0) with
 | true =>
   have hz : (e68 l x == 0) = false := by
    have : e68 l x ≠ 0 := by simpa using hc
    simpa using this
   rw [hz, hc] at h
   exact h
 | false =>
   have hz : e68 l x = 0 := by simpa using hc
   have hz2 : (e68 l x == 0) = true := by simpa using hz
   rw [hz2, hc, hz] at h
   simp only [Bool.true_and, cond_false] at h ⊢
   cases hi : (idx180 l x == -1) with
   | true =>
     rw [hi, idx_none hi] at h
     exact h
   | false =>
     rw [hi] at h
     cases hk : (keepW x l).isEmpty <;> rw [hk] at h <;> exact h
theorem gd68v (h0 : Lib0 w0) : Gd (cfg w0) c68v := gd_sig fun a _ hd => fn68 h0 a.1 a.2.1 (c68v_run a.1 a.2.1 hd)
def as2 : D → Option (List (Tup wallK))
 | .sl n sz [.vec ks l] => match Nat.beq n 1 && Nat.beq sz 1, recast ks wallK l with
   | true, some l => some l
   | _, _ => none
 | _ => none
theorem as2_eq {d : D} {l : List (Tup wallK)} (h : as2 d = some l) : d = .sl 1 1 [.vec wallK l] := by
 unfold as2 at h
 split at h
 ·split at h
  ·rename_i n sz ks l hh x y cs hb hr
   simp only [Bool.and_eq_true, Nat.beq_eq] at hb
   obtain ⟨rfl, rfl⟩ := hb
   cases h
   obtain ⟨e, rfl⟩ := recast_eq hr
   subst e
   rfl
  ·cases h
 ·cases h
def in134 (l : List (Tup wallK)) : Bool := Nat.ble 1 l.length && Nat.ble l.length 1000
def c134s : Ct := ct 134 [.x] fun a => match as2 a.1 with
 | some l => .br (in134 l) (.leaf (.vec wallK l)) .bad
 | none => .bad
theorem gd134s (h0 : Lib0 w0) : Gd (cfg w0) c134s := gd_sig fun a d hd => by
 obtain ⟨x, u⟩ := a
 simp only at hd
 split at hd
 ·rename_i l hb
  obtain ⟨hg, hd⟩ := br_run hd
  cases hd
  cases as2_eq hb
  unfold in134 at hg
  simp only [Bool.and_eq_true, Nat.ble_eq] at hg
  cases l with
  | nil => simp at hg
  | cons x m =>
    refine fnD_k (C := (cfg w0).onI [175]) (Cfg.onI_ok (cfg_ok w0) [175]) (specs_onI h0 [175]) (cs := []) trivial (fd := fnOf Tryz.f134) rfl (n := 60) ((run134s m x).trans ?_)
    have hm : m.length < 1000 := by have := hg.2; simp only [List.length_cons] at this; omega
    have e1 : lnS1 (x :: m) = (x :: m).length := by unfold lnS1; rw [Int.zero_add]; exact W_in (by omega) (by omega)
    have e2 : W (lnS1 (x :: m) - z0s) = (x :: m).length := by rw [e1, show z0s = 0 from rfl, Int.sub_zero]; exact W_in (by omega) (by omega)
    have e3 : rpW (x :: m) = List.replicate (x :: m).length (dfl wallK) := by unfold rpW; rw [e2]; rfl
    rw [e2, e3, e1]
    have d1 : decide (((x :: m).length : Int) < 0) = false := decide_eq_false (by omega)
    have d2 : decide (((x :: m).length : Int) > 0) = true := by simp
    have d3 : gzs ((x :: m).length : Int) = true := by
     unfold gzs
     simp only [Bool.and_eq_true, decide_eq_true_eq, Nat.ble_eq, Int.toNat_natCast]
     omega
    have d4 : Nat.ble (0 + 0 + (x :: m).length) (List.replicate (x :: m).length (dfl wallK)).length = true := by simp
    rw [d1, d2, d3, d4]
    simp only [cond_true, cond_false, List.drop_zero, Nat.zero_add, Nat.add_zero]
    have : setAt (List.replicate (x :: m).length (dfl wallK)) 0 (x :: m) = x :: m := by unfold setAt; simp
    rw [this, List.take_length]
 ·cases hd
def cs63s : List Ct := [c75s, c135s, c134s]
theorem run63s (b : Bd) : bodyK ((cfg w0).at cs63s) 60 (fnOf Tryz.f63) [slB b] =
  bif smallB b then bif chkB b != 0 then some (.tup [.val (.slice none 0 0), I (chkB b)]) else bif smallB b then bif in134 (edges b) then some (.tup [.vec wallK (edges b), I 0]) else none else none else none := by cases b; kernel_rfl
theorem chkB_len {b : Bd} (h : chkB b = 0) : 3 ≤ b.cs.length ∧ b.cs.length ≤ 8 := by
 unfold chkB at h
 cases he : (e1B b != 0) with
 | true => rw [he] at h; simp only [cond_true] at h; rw [h] at he; cases he
 | false =>
   have hz : e1B b = 0 := by simpa using he
   unfold e1B at hz
   rw [firstZ_nil] at hz
   have h1 := hz (whenZ (decide ((b.cs.length : Int) < 3)) 16) (by simp)
   have h2 := hz (whenZ (decide ((b.cs.length : Int) > 8)) 5) (by simp)
   constructor
   ·apply Classical.byContradiction
    intro hn
    rw [decide_eq_true (by omega : (b.cs.length : Int) < 3)] at h1
    cases h1
   ·apply Classical.byContradiction
    intro hn
    rw [decide_eq_true (by omega : (b.cs.length : Int) > 8)] at h2
    cases h2
def c63s : Ct := oneC 63 fun b => .br (smallB b) (.leaf (.tup [.vec wallK (orW (chkB b) (edges b)), I (chkB b)])) .bad
theorem gd63s (h0 : Lib0 w0) : Gd (cfg w0) c63s := gd_one fun b d hd => by
 obtain ⟨hg, hd⟩ := br_run hd
 cases hd
 have go := fun {d : D} (h : bodyK ((cfg w0).at cs63s) 60 (fnOf Tryz.f63) [slB b] = some d) => (show FnD (cfg w0) 63 [slB b] d from fnD_k (cfg_ok w0) h0 (cs := cs63s) ⟨gd75s h0, gd135s h0, gd134s h0, trivial⟩ (fd := fnOf Tryz.f63) rfl h)
 have hr := run63s (w0 := w0) b
 rw [hg] at hr
 unfold orW
 cases hc : (chkB b != 0) with
 | true =>
   rw [hc] at hr
   exact FnD.nil_vec (vs := [.int .i64 (chkB b)]) rfl (by decide) (go hr)
 | false =>
   have hz : chkB b = 0 := by simpa using hc
   have hl : in134 (edges b) = true := by
    have := chkB_len hz
    have h2 := edges_len b
    unfold in134
    simp only [Bool.and_eq_true, Nat.ble_eq]
    omega
   rw [hc, hl] at hr
   rw [hz]
   exact go hr
end
end Go.Proofs.YtmlglimahbjgbaaGreatDoor
namespace Go.Proofs.YtmlglimahbjgbaaGreatDoor
open Go Go.Am Go.Town
set_option maxRecDepth 100000
variable {w0 : World}
noncomputable section
def orZ (e : Int) (x : Int) : Int := bif e != 0 then 0 else x
def orL (e : Int) (x : List (Tup intK)) : List (Tup intK) := bif e != 0 then [] else x
def deps (l : List (Tup wallK)) (s r : Tup v3K) : List (Tup intK) := l.map (depE s r)
theorem fn30v (h0 : Lib0 w0) (l : List (Tup wallK)) (s r : Tup v3K) : FnD (cfg w0) 30 [.vec wallK l, vec3 s, vec3 r] (.tup [.vec intK (orL (e30 l s r) (deps l s r)), I (orZ (e30 l s r) (sumT (deps l s r))), I (e30 l s r)]) := by
 have := fn30 h0 l s r
 unfold orL orZ
 cases hc : (e30 l s r != 0) <;> rw [hc] at this
 ·rw [show e30 l s r = 0 by simpa using hc]; exact this
 ·exact this.nil_vec (ks := intK) (vs := [iv 0, iv (e30 l s r)]) rfl (by decide)
def c30v : Ct := ct 30 [.v wallK, .b v3K, .b v3K] fun a => .leaf (.tup [.vec intK (orL (e30 a.1 a.2.1 a.2.2.1) (deps a.1 a.2.1 a.2.2.1)), I (orZ (e30 a.1 a.2.1 a.2.2.1) (sumT (deps a.1 a.2.1 a.2.2.1))), I (e30 a.1 a.2.1 a.2.2.1)])
theorem gd30v (h0 : Lib0 w0) : Gd (cfg w0) c30v := gd_sig fun a d hd => by cases hd; exact fn30v h0 a.1 a.2.1 a.2.2.1
def okS (b : Bd) : Bool := decide ((b.cs.length : Int) ≤ 9) && decide ((b.nm.size : Int) ≤ 40)
def roomP (l : List (Tup ptK)) : Bool := Nat.ble (([] ++ l).length * 16) 1000000000000 && Nat.ble ([] ++ l).length 1000000000000
theorem roomP_ok {b : Bd} (h : smallB b = true) : roomP b.cs = true := by
 unfold smallB at h
 unfold roomP
 simp only [Bool.and_eq_true, Nat.ble_eq, List.nil_append] at h ⊢
 omega
theorem run62 (b : Bd) : bodyK ((cfg w0).at []) 40 (fnOf Tryz.f62) [bD b] = bif decide ((b.cs.length : Int) ≤ 9) then some (Bo (decide ((b.nm.size : Int) ≤ 40))) else some (Bo false) := by kernel_rfl
def c62 : Ct := bC 62 fun b => .leaf (Bo (okS b))
theorem gd62 (h0 : Lib0 w0) : Gd (cfg w0) c62 := gd_b fun b d hd => by
 cases hd
 exact fnD_k (cfg_ok w0) h0 (cs := []) trivial (fd := fnOf Tryz.f62) rfl (n := 40) ((run62 b).trans (by unfold okS; cases decide ((b.cs.length : Int) ≤ 9) <;> rfl))
theorem run66 (b : Bd) : bodyK ((cfg w0).at []) 40 (fnOf Tryz.f66) [bD b] = bif roomP b.cs then some (bD b) else none := by kernel_rfl
def c66 : Ct := bC 66 fun b => .br (smallB b) (.leaf (bD b)) .bad
theorem gd66 (h0 : Lib0 w0) : Gd (cfg w0) c66 := gd_b fun b d hd => by
 obtain ⟨hg, hd⟩ := br_run hd
 cases hd
 exact fnD_k (cfg_ok w0) h0 (cs := []) trivial (fd := fnOf Tryz.f66) rfl (n := 40) ((run66 b).trans (by rw [roomP_ok hg]; rfl))
def c65v : Ct := bpC 65 fun b p => .br (smallB b) (.leaf (.tup [.vec intK (orL (errBP b p) (facL (sidesB b p))), I (errBP b p)])) .bad
theorem gd65v (h0 : Lib0 w0) : Gd (cfg w0) c65v := gd_bp fun b p d hd => by
 obtain ⟨hg, hd⟩ := br_run hd
 cases hd
 have := fn65 h0 b p hg
 unfold orL
 cases hc : (errBP b p != 0) with
 | true => rw [hc] at this; exact this
 | false =>
   rw [hc] at this
   have hz : errBP b p = 0 := by simpa using hc
   rw [hz]
   exact this
def c67v : Ct := bpC 67 fun b p => .br (smallB b) (.leaf (.tup [Bo (orB (errBP b p) (!negL (sidesB b p))), I (errBP b p)])) .bad
theorem gd67v (h0 : Lib0 w0) : Gd (cfg w0) c67v := gd_bp fun b p d hd => by
 obtain ⟨hg, hd⟩ := br_run hd
 cases hd
 have hl : Nat.ble (sidesB b p).length 100000 = true := Nat.ble_eq_true_of_le (by
  have hs' := hg
  simp only [smallB, Bool.and_eq_true, Nat.ble_eq] at hs'
  rw [sides_len]; omega)
 refine fnD_k (cfg_ok w0) h0 (cs67_gd h0) (fd := fnOf Tryz.f67) rfl (n := 40) ((run67 b p).trans ?_)
 rw [hg, hl]
 unfold orB
 cases hc : (errBP b p != 0) with
 | true => rfl
 | false =>
   have hz : errBP b p = 0 := by simpa using hc
   rw [hz]; rfl
def le5 (l : List (Tup wallK)) : Bool := decide ((l.length : Int) ≤ 5)
def fewB (l : List (Tup wallK)) : Bool := bif le5 l then chkAllW l == 0 else false
def cs77 : List Ct := [checkC 33]
theorem fn77 (h0 : Lib0 w0) (l : List (Tup wallK)) : FnD (cfg w0) 77 [.vec wallK l] (Bo (fewB l)) :=
 fnD_k (cfg_ok w0) h0 (cs := cs77) ⟨gd33 h0, trivial⟩ (fd := fnOf Tryz.f77) rfl (n := 40) ((show bodyK ((cfg w0).at cs77) 40 (fnOf Tryz.f77) [.vec wallK l] =
  bif le5 l then some (Bo (chkAllW l == 0)) else some (Bo false) by kernel_rfl).trans (by
   unfold fewB
   cases le5 l <;> rfl))
def c77 : Ct := ct 77 [.v wallK] fun a => .leaf (Bo (fewB a.1))
theorem gd77 (h0 : Lib0 w0) : Gd (cfg w0) c77 := gd_sig fun a d hd => by cases hd; exact fn77 h0 a.1
def law12 : List Ct := [⟨13, tG awakeF⟩, c77, c62, checkBC 70, ⟨20, tG checkPointF⟩, ⟨21, tG checkPathF⟩, c31, c68v, c91, checkC 33, c30v, c66, c65v, c67v, c63s, c92, ⟨22, tG rsideF⟩, c86, c87, c90, c93]
theorem law12_gd (h0 : Lib0 w0) (ha : Good w0 ⟨13, awakeF⟩) : Gds (cfg w0) law12 :=
 ⟨gd_of ha, gd77 h0, gd62 h0, gd70 h0, gd_of (rcheckPoint_good h0), gd_of (rcheckPath_good h0), gd31 h0, gd68v h0, gd91 h0, gd33 h0, gd30v h0, gd66 h0, gd65v h0, gd67v h0, gd63s h0, gd92 h0, gd_of (rside_good h0), gd86 h0, gd87 h0, gd90 h0, gd93 h0, trivial⟩
end
end Go.Proofs.YtmlglimahbjgbaaGreatDoor
