/-
  A part of the proof of the statement that the claim names: see the last file.
-/
import Derived.Test.YtifnpljmjhnbaaaGreatDoorL4
namespace Go.Proofs.YtifnpljmjhnbaaaGreatDoor
open Go Go.Am Go.RowKit
set_option maxRecDepth 100000
variable {w0 : World}
noncomputable section


def relG : List (Nat × Cv) := [(0, .id), (2, .id), (3, .id), (4, .id), (5, .id)]
def stG (s : ByteArray) (a : Int × Int) : List D := [St_ s, I 0, Bo false, I a.2, I a.1]
def idS (s : ByteArray) (i : Int) : Bool := decide (0 ≤ i) && decide (i < s.size)
def byI (s : ByteArray) (i : Int) : Int := (((s.get! i.toNat).toNat : Nat) : Int)
def treeG (s : ByteArray) (i n : Int) : Rn' := bif decide (i < s.size) then bif idS s i then bif decide (byI s i < 48) then some ([], .ret, stG s (i, n)) else bif idS s i then bif decide (byI s i > 57) then some ([], .ret, stG s (i, n)) else
  bif idS s i then some ([], .normal, stG s (W (i + 1), IntKind.i64.wrap (IntKind.i64.wrap (10 * n) + IntKind.i64.wrap (IntKind.u8.wrap (byI s i - 48))))) else none else none else none else some ([], .exit 0, stG s (i, n))
def ldG (N : Nat) (s : ByteArray) (x : X) (p : Int × Int) : Ld := ldP 0 N relG x (stG s p)
def bodG (N : Nat) (B : Code) (dg : Int) (s : ByteArray) (x : X) (p : Int × Int) (d : D) : Option (Obs × D) :=
  bif s.toList == mtL.toList then some ([], .tup [I 0, Bo false]) else bif decide (((s.size : Nat) : Int) > dg) then some ([], .tup [I 0, Bo false]) else
  bif decide (((s.size : Nat) : Int) > 1) then bif idS s 0 then bif byI s 0 == 48 then some ([], .tup [I 0, Bo false]) else some ([(ldG N s x p, .loop B, stG s (0, 0))], d) else none else some ([(ldG N s x p, .loop B, stG s (0, 0))], d)
theorem round141 (s : ByteArray) (i n : Int) : rndD ((cfg w0).at []) 40 [] 40 (fnOf Tryz.f141).ntmps relG (lpB 0 (fnOf Tryz.f141).body) (stG s (i, n)) = treeG s i n := by kernel_rfl
theorem round142 (s : ByteArray) (i n : Int) : rndD ((cfg w0).at []) 40 [] 40 (fnOf Tryz.f142).ntmps relG (lpB 0 (fnOf Tryz.f142).body) (stG s (i, n)) = treeG s i n := by kernel_rfl
theorem body141r (s : ByteArray) (p : Int × Int) : bodyT ((cfg w0).at []) 40 [ldG (fnOf Tryz.f141).ntmps s .ret p] 40 (fnOf Tryz.f141) [St_ s] = bodG (fnOf Tryz.f141).ntmps (lpB 0 (fnOf Tryz.f141).body) 9 s .ret p (.tup [I 0, Bo false]) := by kernel_rfl
theorem body141n (s : ByteArray) (p : Int × Int) : bodyT ((cfg w0).at []) 40 [ldG (fnOf Tryz.f141).ntmps s .normal p] 40 (fnOf Tryz.f141) [St_ s] = bodG (fnOf Tryz.f141).ntmps (lpB 0 (fnOf Tryz.f141).body) 9 s .normal p (.tup [I p.2, Bo true]) := by kernel_rfl
theorem body142r (s : ByteArray) (p : Int × Int) : bodyT ((cfg w0).at []) 40 [ldG (fnOf Tryz.f142).ntmps s .ret p] 40 (fnOf Tryz.f142) [St_ s] = bodG (fnOf Tryz.f142).ntmps (lpB 0 (fnOf Tryz.f142).body) 15 s .ret p (.tup [I 0, Bo false]) := by kernel_rfl
theorem body142n (s : ByteArray) (p : Int × Int) : bodyT ((cfg w0).at []) 40 [ldG (fnOf Tryz.f142).ntmps s .normal p] 40 (fnOf Tryz.f142) [St_ s] = bodG (fnOf Tryz.f142).ntmps (lpB 0 (fnOf Tryz.f142).body) 15 s .normal p (.tup [I p.2, Bo true]) := by kernel_rfl
def digB (b : UInt8) : Bool := decide (((b.toNat : Nat) : Int) < 48) || decide (((b.toNat : Nat) : Int) > 57)
def stepG (s : ByteArray) (i : Nat) (n : Int) : X × Int := bif digB (s.get! i) then (.ret, n) else (.normal, 10 * n + ((s.get! i).toNat - 48))
theorem scan_cons (b : UInt8) (l : List UInt8) (n : Int) : scan (b :: l) n = bif digB b then (n, true) else scan l (10 * n + (b.toNat - 48)) := rfl
theorem runG (s : ByteArray) : ∀ (f i : Nat) (n : Int), i + f = s.size → ∃ p, rgRun 0 (stepG s) f i n = (bif (scan ((bl s).drop i) n).2 then (.ret, p) else (.exit 0, ((s.size : Nat) : Int), (scan ((bl s).drop i) n).1))
  | 0, i, n, h => ⟨(0, 0), by
    rw [List.drop_eq_nil_of_le (by rw [bl_len]; omega)]
    show (X.exit 0, ((i : Int), n)) = _
    rw [show i = s.size by omega]
    rfl⟩
  | f + 1, i, n, h => by
    rw [drop_get (show i < s.size by omega), scan_cons]
    unfold rgRun
    cases hd : digB (s.get! i) with
    | true =>
      have e : stepG s i n = (.ret, n) := by unfold stepG; rw [hd]; rfl
      rw [e]
      exact ⟨((i : Int), n), rfl⟩
    | false =>
      have e : stepG s i n = (.normal, 10 * n + ((s.get! i).toNat - 48)) := by unfold stepG; rw [hd]; rfl
      rw [e]
      obtain ⟨p, hp⟩ := runG s f (i + 1) (10 * n + ((s.get! i).toNat - 48)) (by omega)
      exact ⟨p, hp⟩
def dgL (l : List UInt8) (dg : Int) : Int × Bool := bif (numL l dg).2 then (0, false) else ((numL l dg).1, true)
theorem fnG (h0 : Lib0 w0) {g : FuncId} {fd : AFn} (hfd : (cfg w0).fn g = some fd) {dg : Int} (hdg : dg ≤ 15) (hr : ∀ s i n, rndD ((cfg w0).at []) 40 [] 40 fd.ntmps relG (lpB 0 fd.body) (stG s (i, n)) = treeG s i n)
    (hbr : ∀ s p, bodyT ((cfg w0).at []) 40 [ldG fd.ntmps s .ret p] 40 fd [St_ s] = bodG fd.ntmps (lpB 0 fd.body) dg s .ret p (.tup [I 0, Bo false]))
    (hbn : ∀ s p, bodyT ((cfg w0).at []) 40 [ldG fd.ntmps s .normal p] 40 fd [St_ s] = bodG fd.ntmps (lpB 0 fd.body) dg s .normal p (.tup [I p.2, Bo true])) (s : ByteArray) :
    FnD (cfg w0) g [St_ s] (.tup [I (dgL (bl s) dg).1, Bo (dgL (bl s) dg).2]) := by
  have hB : ∀ (x : X) (p : Int × Int) (d : D), bodG fd.ntmps (lpB 0 fd.body) dg s x p d = bif num0 (bl s) dg then some ([], .tup [I 0, Bo false]) else some ([(ldG fd.ntmps s x p, .loop (lpB 0 fd.body), stG s (0, 0))], d) := fun x p d => by
    unfold bodG num0
    rw [bl_len, show (s.toList == mtL.toList) = decide (s.size = 0) from empty_bytes s]
    by_cases h0 : s.size = 0
    · rw [decide_eq_true h0]; rfl
    · rw [decide_eq_false h0]
      simp only [cond_false, Bool.false_or]
      by_cases h1 : ((s.size : Nat) : Int) > dg
      · rw [decide_eq_true h1]; rfl
      · rw [decide_eq_false h1]
        simp only [cond_false, Bool.false_or]
        by_cases h2 : s.size > 1
        · have hd := drop_get (s := s) (i := 0) (by omega)
          rw [List.drop_zero] at hd
          have e : ((bl s).head? == some 48) = (byI s 0 == 48) := by
            rw [hd]
            show (s.get! 0 == 48) = ((((s.get! 0).toNat : Nat) : Int) == 48)
            cases hx : (s.get! 0 == 48) with
            | true => rw [eq_of_beq hx]; rfl
            | false =>
              symm
              rw [beq_eq_false_iff_ne] at hx ⊢
              intro e
              exact hx (UInt8.toNat_inj.1 (by show (s.get! 0).toNat = 48; omega))
          rw [decide_eq_true (show ((s.size : Nat) : Int) > 1 by omega), decide_eq_true h2, e, show idS s 0 = true by unfold idS; rw [decide_eq_true (show (0 : Int) ≤ 0 by omega), decide_eq_true (show (0 : Int) < s.size by omega)]; rfl]
          simp only [cond_true, Bool.true_and]
        · rw [decide_eq_false (show ¬ ((s.size : Nat) : Int) > 1 by omega), decide_eq_false h2]
          rfl
  cases hn : num0 (bl s) dg with
  | true =>
    have hb := hbr s (0, 0)
    rw [hB, hn] at hb
    have e : dgL (bl s) dg = (0, false) := by unfold dgL numL; rw [hn]; rfl
    rw [e]
    exact fnD_t (cfg_ok w0) h0 (cs := []) trivial hfd hb trivial
  | false =>
    have h15 : s.size ≤ 15 := by
      unfold num0 at hn
      simp only [Bool.or_eq_false_iff, decide_eq_false_iff_not] at hn
      have := hn.2.1
      rw [bl_len] at this
      omega
    have enum : numL (bl s) dg = scan (bl s) 0 := by unfold numL; rw [hn]; rfl
    obtain ⟨p, hp⟩ := runG s s.size 0 0 (by omega)
    rw [List.drop_zero] at hp
    have hld : ∀ (x : X) (q : Int × Int), rgRun 0 (stepG s) s.size 0 0 = (x, q) → LdT ((cfg w0).at []) (ldG fd.ntmps s (outX 0 x) q) (.loop (lpB 0 fd.body)) (stG s (0, 0)) := fun x q hx =>
      ldT_rg (at_ok (cfg_ok w0) []) (at_sp h0 (cs := []) trivial) (N := fd.ntmps) (rel := relG) (B := lpB 0 fd.body) (id := 0) (k := s.size) (by omega) (stG s) (stepG s) (fun i n => 0 ≤ n ∧ n < 10 ^ i)
        (fun i n hi ⟨hn0, hn1⟩ => .leaf (by
          refine (hr s (i : Int) n).trans ?_
          unfold treeG stepG
          have hid : idS s (i : Int) = true := by unfold idS; rw [decide_eq_true (show (0 : Int) ≤ i by omega), decide_eq_true (show (i : Int) < s.size by omega)]; rfl
          have hby : byI s (i : Int) = ((s.get! i).toNat : Int) := rfl
          rw [lt_t hi, hid, hby]
          unfold digB
          cases h1 : decide (((s.get! i).toNat : Int) < 48) with
          | true => rfl
          | false =>
            cases h2 : decide (((s.get! i).toNat : Int) > 57) with
            | true => rfl
            | false =>
              have h1 := of_decide_eq_false h1
              have h2 := of_decide_eq_false h2
              have hp15 : (10 : Int) ^ i ≤ 10 ^ 15 := pow_mono (by omega)
              rw [show IntKind.u8.wrap (((s.get! i).toNat : Int) - 48) = ((s.get! i).toNat : Int) - 48 from IntWalk.u8_in _ ⟨by omega, by omega⟩, W_id (n := 10 * n) (by omega) (by omega), W_id (n := ((s.get! i).toNat : Int) - 48) (by omega) (by omega), W_id (n := 10 * n + (((s.get! i).toNat : Int) - 48)) (by omega) (by omega)]
              rfl)) (fun i n n' hi ⟨hn0, hn1⟩ h => by
          unfold stepG at h
          cases hd : digB (s.get! i) with
          | true => rw [hd] at h; cases h
          | false =>
            rw [hd] at h
            cases h
            unfold digB at hd
            simp only [Bool.or_eq_false_iff, decide_eq_false_iff_not] at hd
            rw [Int.pow_succ]
            omega)
        (fun n _ => .leaf ((hr s _ n).trans (by unfold treeG; rw [ge_f]; rfl))) (a0 := 0) ⟨Int.le_refl _, by show (0 : Int) < 10 ^ 0; decide⟩ hx
    unfold dgL
    rw [enum]
    cases hw : (scan (bl s) 0).2 with
    | true =>
      rw [hw] at hp
      have hb := hbr s p
      rw [hB, hn] at hb
      exact fnD_lp (cfg_ok w0) h0 (cs := []) trivial (g := g) hfd hb (hld .ret p hp)
    | false =>
      rw [hw] at hp
      have hb := hbn s (((s.size : Nat) : Int), (scan (bl s) 0).1)
      rw [hB, hn] at hb
      exact fnD_lp (cfg_ok w0) h0 (cs := []) trivial (g := g) hfd hb (hld (.exit 0) _ hp)
def dgC (g : Nat) (dg : Int) : Ct := ct g [.c .str] fun a => .leaf (.tup [I (dgL (bl a.1) dg).1, Bo (dgL (bl a.1) dg).2])
theorem gd141 (h0 : Lib0 w0) : Gd (cfg w0) (dgC 141 9) := gd_sig fun a d hd => by
  obtain ⟨s, u⟩ := a
  cases hd
  exact fnG h0 (fd := fnOf Tryz.f141) rfl (by omega) round141 body141r body141n s
theorem gd142 (h0 : Lib0 w0) : Gd (cfg w0) (dgC 142 15) := gd_sig fun a d hd => by
  obtain ⟨s, u⟩ := a
  cases hd
  exact fnG h0 (fd := fnOf Tryz.f142) rfl (by omega) round142 body142r body142n s
end
end Go.Proofs.YtifnpljmjhnbaaaGreatDoor

namespace Go.Proofs.YtifnpljmjhnbaaaGreatDoor
open Go Go.Am Go.RowKit
set_option maxRecDepth 100000
variable {w0 : World}
noncomputable section


def rel83 : List (Nat × Cv) := [(0, .id), (1, .id), (5, .ov sK1), (6, .id), (7, .id)]
def st83 (s : ByteArray) (c : Int) (a : Int × Int × SLs) : List D := [St_ s, .val (.int .u8 c), .ovec sK1 a.2.2, I a.2.1, I a.1]
def rmS (o : SLs) : Bool := Nat.ble (o.length * 16) 1000000000000 && Nat.ble o.length 1000000000000
def cutTwo (s : ByteArray) (i j : Int) : Bool := decide (0 ≤ j) && (decide (j ≤ s.size) && (decide (0 ≤ i) && decide (i ≤ j)))
theorem round83 (s : ByteArray) (c i fr : Int) (o : SLs) : rndD ((cfg w0).at []) 40 [] 40 (fnOf Tryz.f83).ntmps rel83 (lpB 0 (fnOf Tryz.f83).body) (st83 s c (i, fr, o)) =
    bif decide (i < s.size) then bif idS s i then bif byI s i == c then bif cutTwo s fr i then bif rmS (o ++ [tS (s.extract fr.toNat i.toNat)]) then
      some ([], .normal, st83 s c (W (i + 1), IntKind.i64.wrap (i + 1), o ++ [tS (s.extract fr.toNat i.toNat)])) else none else none
    else some ([], .normal, st83 s c (W (i + 1), fr, o)) else none else some ([], .exit 0, st83 s c (i, fr, o)) := by kernel_rfl
def ld83 (s : ByteArray) (c : Int) (p : Int × Int × SLs) : Ld := ldP 0 (fnOf Tryz.f83).ntmps rel83 .normal (st83 s c p)
theorem body83 (s : ByteArray) (c : Int) (p : Int × Int × SLs) : bodyT ((cfg w0).at []) 40 [ld83 s c p] 40 (fnOf Tryz.f83) [St_ s, .val (.int .u8 c)] =
    bif cutOk s p.2.1 then bif rmS (p.2.2 ++ [tS (s.extract p.2.1.toNat s.size)]) then some ([(ld83 s c p, .loop (lpB 0 (fnOf Tryz.f83).body), st83 s c (0, 0, []))], .vec sK1 (p.2.2 ++ [tS (s.extract p.2.1.toNat s.size)])) else none else none := by kernel_rfl
theorem spl_app {c : UInt8} : ∀ {a b : List UInt8}, a.count c = 0 → spl c (a ++ c :: b) = a :: spl c b
  | [], b, _ => spl_t (by simp)
  | x :: a, b, h => by
    rw [List.count_cons] at h
    have hx : (x == c) = false := by
      cases hx : (x == c) with
      | false => rfl
      | true => rw [hx] at h; simp at h
    rw [hx] at h
    show spl c (x :: (a ++ c :: b)) = _
    rw [spl_f hx, spl_app (by simpa using h)]
    rfl
def step83 (s : ByteArray) (c : UInt8) (i : Nat) (a : Int × SLs) : X × (Int × SLs) := (.normal, bif s.get! i == c then (((i + 1 : Nat) : Int), a.2 ++ [tS (s.extract a.1.toNat i)]) else a)
theorem run83 (s : ByteArray) (c : UInt8) : ∀ (f i fr : Nat) (o : SLs), i + f = s.size → fr ≤ i → ((((bl s).drop fr).take (i - fr)).count c = 0) → o.length ≤ i →
    ∃ (fr' : Nat) (o' : SLs), rgRun 0 (step83 s c) f i ((fr : Int), o) = (.exit 0, ((s.size : Nat) : Int), (fr' : Int), o') ∧ fr' ≤ s.size ∧ o'.length ≤ s.size ∧ o' ++ [tS (s.extract fr' s.size)] = o ++ (spl c ((bl s).drop fr)).map tupS
  | 0, i, fr, o, h, hf, hc, ho => by
    refine ⟨fr, o, ?_, by omega, by omega, ?_⟩
    · show (X.exit 0, ((i : Int), ((fr : Int), o))) = _
      rw [show i = s.size by omega]
    · rw [List.take_of_length_le (by rw [List.length_drop, bl_len]; omega)] at hc
      rw [spl_none hc, ext_e]
      rfl
  | f + 1, i, fr, o, h, hf, hc, ho => by
    unfold rgRun
    have hi : i < s.size := by omega
    cases hx : (s.get! i == c) with
    | true =>
      have e : step83 s c i ((fr : Int), o) = (.normal, (((i + 1 : Nat) : Int), o ++ [tS (s.extract fr i)])) := by unfold step83; rw [hx]; rfl
      rw [e]
      simp only
      obtain ⟨fr', o', h1, h2, h3, h4⟩ := run83 s c f (i + 1) (i + 1) (o ++ [tS (s.extract fr i)]) (by omega) (Nat.le_refl _) (by rw [Nat.sub_self]; rfl) (by simp; omega)
      refine ⟨fr', o', h1, h2, h3, ?_⟩
      rw [h4]
      have hsp : (bl s).drop fr = ((bl s).drop fr).take (i - fr) ++ c :: (bl s).drop (i + 1) := by
        have h5 := List.take_append_drop (i - fr) ((bl s).drop fr)
        rw [List.drop_drop, show fr + (i - fr) = i by omega, drop_get hi, eq_of_beq hx] at h5
        exact h5.symm
      rw [List.append_assoc]
      congr 1
      rw [hsp, spl_app hc]
      show [tS (s.extract fr i)] ++ _ = tS (mkB _) :: _
      have e2 : s.extract fr i = mkB (((bl s).drop fr).take (i - fr)) := bl_inj (by rw [bl_extract, bl_mkB])
      rw [e2]
      rfl
    | false =>
      have e : step83 s c i ((fr : Int), o) = (.normal, ((fr : Int), o)) := by unfold step83; rw [hx]; rfl
      rw [e]
      simp only
      refine run83 s c f (i + 1) fr o (by omega) (by omega) ?_ (by omega)
      rw [show i + 1 - fr = (i - fr) + 1 by omega]
      have hl : i - fr < ((bl s).drop fr).length := by rw [List.length_drop, bl_len]; omega
      rw [List.take_succ_eq_append_getElem hl, List.count_append, hc]
      have h5 : ((bl s).drop fr).drop (i - fr) = s.get! i :: (bl s).drop (i + 1) := by rw [List.drop_drop, show fr + (i - fr) = i by omega, drop_get hi]
      rw [List.drop_eq_getElem_cons hl] at h5
      rw [(List.cons.inj h5).1, List.count_singleton, hx]
      rfl
def okU (c : Int) : Bool := decide (0 ≤ c) && decide (c ≤ 255)
def cU (c : Int) : UInt8 := UInt8.ofNat c.toNat
theorem byI_eq {s : ByteArray} {c : Int} (h : okU c = true) (i : Nat) : (byI s (i : Int) == c) = (s.get! i == cU c) := by
  unfold okU at h
  simp only [Bool.and_eq_true, decide_eq_true_eq] at h
  have hc : ((cU c).toNat : Int) = c := by
    unfold cU
    rw [UInt8.toNat_ofNat', Nat.mod_eq_of_lt (by omega)]
    omega
  show (((s.get! i).toNat : Int) == c) = _
  cases hx : (s.get! i == cU c) with
  | true => rw [eq_of_beq hx, hc]; simp
  | false =>
    rw [beq_eq_false_iff_ne] at hx ⊢
    intro e
    exact hx (UInt8.toNat_inj.1 (by omega))
theorem fn83 (h0 : Lib0 w0) (s : ByteArray) (c : Int) (hg : smS s = true) (hc : okU c = true) : FnD (cfg w0) 83 [St_ s, .val (.int .u8 c)] (.vec sK1 ((spl (cU c) (bl s)).map tupS)) := by
  have hs : s.size ≤ 100000 := Nat.le_of_ble_eq_true hg
  obtain ⟨fr, o, h1, h2, h3, h4⟩ := run83 s (cU c) s.size 0 0 [] (by omega) (Nat.le_refl _) rfl (Nat.le_refl _)
  have hrm : ∀ l : SLs, l.length ≤ 200000 → rmS l = true := fun l hl => by
    unfold rmS
    rw [(Nat.ble_eq ..).mpr (by omega), (Nat.ble_eq ..).mpr (by omega)]
    rfl
  have hld := ldT_rg (at_ok (cfg_ok w0) []) (at_sp h0 (cs := []) trivial) (N := (fnOf Tryz.f83).ntmps) (rel := rel83) (B := lpB 0 (fnOf Tryz.f83).body) (id := 0) (k := s.size) (by omega) (st83 s c) (step83 s (cU c)) (fun i a => ∃ fr : Nat, a.1 = (fr : Int) ∧ fr ≤ i ∧ a.2.length ≤ i)
    (fun i a hi ⟨fr, hf, hle, hl⟩ => .leaf (by
      obtain ⟨x, o⟩ := a
      have hf : x = (fr : Int) := hf
      have hl : o.length ≤ i := hl
      subst hf
      refine (round83 s c (i : Int) (fr : Int) o).trans ?_
      have hid : idS s (i : Int) = true := by unfold idS; rw [decide_eq_true (show (0 : Int) ≤ i by omega), decide_eq_true (show (i : Int) < s.size by omega)]; rfl
      have hcu : cutTwo s (fr : Int) (i : Int) = true := by unfold cutTwo; rw [decide_eq_true (show (0 : Int) ≤ i by omega), decide_eq_true (show (i : Int) ≤ s.size by omega), decide_eq_true (show (0 : Int) ≤ fr by omega), decide_eq_true (show (fr : Int) ≤ i by omega)]; rfl
      rw [lt_t hi, hid, byI_eq hc, hcu, Int.toNat_natCast, Int.toNat_natCast, hrm _ (by rw [List.length_append, List.length_singleton]; omega), W_id (n := (i : Int) + 1) (by omega) (by omega)]
      unfold step83
      cases hx : (s.get! i == cU c) <;> rfl)) (fun i a a' hi ⟨fr, hf, hle, hl⟩ h => by
      cases h
      cases hx : (s.get! i == cU c) with
      | true => exact ⟨i + 1, rfl, Nat.le_refl _, by simp; omega⟩
      | false => exact ⟨fr, hf, by omega, by simp only [cond_false]; omega⟩)
    (fun a _ => .leaf (by obtain ⟨x, o⟩ := a; refine (round83 s c _ x o).trans ?_; rw [ge_f]; rfl)) (a0 := ((0 : Int), ([] : SLs))) ⟨0, rfl, Nat.le_refl _, Nat.le_refl _⟩ h1
  have hb := body83 (w0 := w0) s c (((s.size : Nat) : Int), (fr : Int), o)
  have hco : cutOk s (fr : Int) = true := by unfold cutOk; rw [decide_eq_true (show (0 : Int) ≤ fr by omega), decide_eq_true (show (fr : Int) ≤ s.size by omega)]; rfl
  simp only at hb
  rw [hco, Int.toNat_natCast, hrm _ (by rw [List.length_append, List.length_singleton]; omega), h4] at hb
  exact fnD_lp (cfg_ok w0) h0 (cs := []) trivial (g := 83) (fd := fnOf Tryz.f83) rfl hb hld
def splC (c : UInt8) (s : ByteArray) : SLs := (spl c (bl s)).map tupS
def c83 : Ct := ct 83 [.c .str, .c (.int .u8)] fun a => .br (smS a.1) (.br (okU a.2.1) (.leaf (.vec sK1 (splC (cU a.2.1) a.1))) .bad) .bad
theorem gd83 (h0 : Lib0 w0) : Gd (cfg w0) c83 := gd_sig fun a d hd => by
  obtain ⟨s, c, u⟩ := a
  obtain ⟨h1, hd⟩ := br_run hd
  obtain ⟨h2, hd⟩ := br_run hd
  cases hd
  exact fn83 h0 s c h1 h2
end
end Go.Proofs.YtifnpljmjhnbaaaGreatDoor

namespace Go.Proofs.YtifnpljmjhnbaaaGreatDoor
open Go Go.Am Go.RowKit
set_option maxRecDepth 100000
variable {w0 : World}
noncomputable section


def itoB (n : Int) : ByteArray := mkB (itoaL n)
def in64 (n : Int) : Bool := decide (0 ≤ n) && decide (n ≤ 1000000000000000)
def c135 : Ct := ct 135 [.c ik] fun a => .br (in64 a.1) (.leaf (St_ (itoB a.1))) .bad
theorem in64_le {n : Int} (h : in64 n = true) : 0 ≤ n ∧ n ≤ 1000000000000000 := by
  unfold in64 at h
  simpa only [Bool.and_eq_true, decide_eq_true_eq] using h
theorem itoaF_eq {n : Int} (h : in64 n = true) : itoaF [.val (.int .i64 n)] = some (St_ (itoB n)) := by
  obtain ⟨h1, h2⟩ := in64_le h
  unfold itoaF
  simp only []
  rw [decide_eq_true (show -9223372036854775808 ≤ n by omega), decide_eq_true (show n ≤ 9223372036854775807 by omega)]
  rfl
theorem gd135 (h0 : Lib0 w0) : Gd (cfg w0) c135 := gd_sig fun a d hd => by
  obtain ⟨n, u⟩ := a
  obtain ⟨hg, hd⟩ := br_run hd
  cases hd
  have hm : (cfg w0).mode 135 = .spec itoaF := rfl
  exact h0.1 135 itoaF hm [.val (.int .i64 n)] (St_ (itoB n)) (itoaF_eq hg)


def rel140 : List (Nat × Cv) := [(0, .id), (3, .id), (4, .id)]
def st140 (n : Int) (a : Int × ByteArray) : List D := [I n, St_ a.2, I a.1]
def chr (k : Int) : ByteArray := ⟨#[UInt8.ofNat (IntKind.u8.wrap (IntKind.i64.wrap (48 + (if IntKind.i64.wrap (0 - k.tmod 10) > k.tmod 10 then IntKind.i64.wrap (0 - k.tmod 10) else k.tmod 10)))).toNat]⟩
def catB (a b : ByteArray) : Bool := Nat.ble (a.size + b.size) 9223372036854775807
theorem round140 (n k : Int) (s : ByteArray) : rndD ((cfg w0).at []) 40 [] 40 (fnOf Tryz.f140).ntmps rel140 (lpB 0 (fnOf Tryz.f140).body) (st140 n (k, s)) =
    bif k != 0 then bif catB (chr k) s then some ([], .normal, st140 n (IntKind.i64.wrap (k.tdiv 10), chr k ++ s)) else none else some ([], .exit 0, st140 n (k, s)) := by kernel_rfl
def minB : ByteArray := ⟨#[45]⟩
def ld140 (n : Int) (p : Int × ByteArray) : Ld := ldP 0 (fnOf Tryz.f140).ntmps rel140 .normal (st140 n p)
def ob140 (n : Int) (p : Int × ByteArray) : Obs := [(ld140 n p, .loop (lpB 0 (fnOf Tryz.f140).body), st140 n (n, mtL))]
theorem body140 (n : Int) (p : Int × ByteArray) : bodyT ((cfg w0).at []) 40 [ld140 n p] 40 (fnOf Tryz.f140) [I n] =
    bif n == 0 then some ([], St_ ⟨#[48]⟩) else bif decide (n < 0) then bif catB minB p.2 then some (ob140 n p, St_ (minB ++ p.2)) else none else some (ob140 n p, St_ p.2) := by kernel_rfl
def lpL : Nat → Nat → List UInt8 → List UInt8
  | 0, _, acc => acc
  | f + 1, m, acc => if m = 0 then acc else lpL f (m / 10) (UInt8.ofNat (48 + m % 10) :: acc)
theorem lpL_zero : ∀ (f : Nat) (acc : List UInt8), lpL f 0 acc = acc
  | 0, _ => rfl
  | _ + 1, _ => rfl
theorem digs_lp : ∀ (f m : Nat) (acc : List UInt8), m ≠ 0 → m < 10 ^ (f + 1) → digs (f + 1) m acc = lpL (f + 1) m acc
  | f, m, acc, h0, h => by
    unfold digs lpL
    rw [if_neg h0]
    by_cases hm : m < 10
    · have hb : Nat.blt m 10 = true := by rw [Nat.blt_eq]; exact hm
      rw [hb, show m / 10 = 0 by omega, lpL_zero, show m % 10 = m by omega]
    · have hb : Nat.blt m 10 = false := by cases hx : Nat.blt m 10 with | false => rfl | true => rw [Nat.blt_eq] at hx; omega
      rw [hb]
      cases f with
      | zero => have h : m < 10 := h; omega
      | succ f => exact digs_lp f (m / 10) _ (by omega) (by rw [Nat.pow_succ] at h; omega)
def nx140 (a : Int × ByteArray) : X × (Int × ByteArray) := bif a.1 != 0 then (.normal, a.1.tdiv 10, chr a.1 ++ a.2) else (.exit 0, a)
theorem chr_eq (m : Nat) : chr (m : Int) = mkB [UInt8.ofNat (48 + m % 10)] := by
  have h1 : ((m : Int)).tmod 10 = ((m % 10 : Nat) : Int) := by rw [Int.tmod_eq_emod_of_nonneg (by omega)]; omega
  unfold chr
  rw [h1, W_id (n := 0 - ((m % 10 : Nat) : Int)) (by omega) (by omega), if_neg (by omega), W_id (by omega) (by omega), show IntKind.u8.wrap (48 + ((m % 10 : Nat) : Int)) = 48 + ((m % 10 : Nat) : Int) from IntWalk.u8_in _ ⟨by omega, by omega⟩]
  rw [show (48 + ((m % 10 : Nat) : Int)).toNat = 48 + m % 10 by omega]
  rfl
theorem tdiv_nat (m : Nat) : ((m : Int)).tdiv 10 = ((m / 10 : Nat) : Int) := by
  rw [Int.tdiv_eq_ediv_of_nonneg (by omega)]; omega
theorem it140 : ∀ (f m : Nat) (s : ByteArray), m < 10 ^ f → ∃ g, iterN nx140 g ((m : Int), s) = some (.exit 0, ((0 : Int), mkB (lpL f m (bl s))))
  | 0, m, s, h => ⟨1, by
    have h0 : m = 0 := by have : m < 1 := h; omega
    subst h0
    unfold iterN nx140
    show some (X.exit 0, ((0 : Int), s)) = _
    unfold lpL
    rw [mkB_bl]⟩
  | f + 1, m, s, h => by
    by_cases h0 : m = 0
    · subst h0
      refine ⟨1, ?_⟩
      unfold iterN nx140
      show some (X.exit 0, ((0 : Int), s)) = _
      rw [lpL_zero, mkB_bl]
    · obtain ⟨g, hg⟩ := it140 f (m / 10) (chr (m : Int) ++ s) (by rw [Nat.pow_succ] at h; omega)
      refine ⟨g + 1, ?_⟩
      have e : nx140 ((m : Int), s) = (.normal, (((m / 10 : Nat) : Int), chr (m : Int) ++ s)) := by
        unfold nx140
        rw [show ((m : Int) != 0) = true by rw [bne_iff_ne]; omega, tdiv_nat]
        rfl
      unfold iterN
      rw [e]
      simp only
      rw [hg, bl_append, chr_eq, bl_mkB]
      unfold lpL
      rw [if_neg h0]
      cases f <;> rfl
theorem size_app (a b : ByteArray) : (a ++ b).size = a.size + b.size := by rw [← bl_len, bl_append, List.length_append, bl_len, bl_len]
theorem fn140 (h0 : Lib0 w0) (n : Int) (hg : in64 n = true) : FnD (cfg w0) 140 [I n] (St_ (itoB n)) := by
  obtain ⟨h1, h2⟩ := in64_le hg
  obtain ⟨m, rfl⟩ : ∃ m : Nat, n = (m : Int) := ⟨n.toNat, by omega⟩
  by_cases hm : m = 0
  · subst hm
    have hb := body140 (w0 := w0) ((0 : Nat) : Int) (0, mtL)
    exact fnD_t (cfg_ok w0) h0 (cs := []) trivial (fd := fnOf Tryz.f140) rfl (o := []) (d := St_ (itoB ((0 : Nat) : Int))) (hb.trans (by kernel_rfl)) trivial
  · obtain ⟨g, hit⟩ := it140 20 m mtL (by omega)
    have hld := ldT_iter (at_ok (cfg_ok w0) []) (at_sp h0 (cs := []) trivial) (N := (fnOf Tryz.f140).ntmps) (rel := rel140) (B := lpB 0 (fnOf Tryz.f140).body) (id := 0) (st140 (m : Int)) nx140 (fun a => ∃ (k j : Nat), a.1 = (k : Int) ∧ k < 10 ^ j ∧ a.2.size + j ≤ 16)
      (fun a ⟨k, j, hk, hj, hs⟩ => .leaf (by
        obtain ⟨x, s⟩ := a
        have hk : x = (k : Int) := hk
        have hs : s.size + j ≤ 16 := hs
        subst hk
        refine (round140 _ _ _).trans ?_
        unfold nx140
        have hp : k < 10 ^ 16 := Nat.lt_of_lt_of_le hj (Nat.pow_le_pow_right (by omega) (by omega))
        have hc : catB (chr (k : Int)) s = true := (Nat.ble_eq ..).mpr (by have : (chr (k : Int)).size = 1 := rfl; omega)
        rw [hc, tdiv_nat, W_id (by omega) (by omega)]
        cases ((k : Int) != 0) <;> rfl))
      (fun a b ⟨k, j, hk, hj, hs⟩ hn => by
        obtain ⟨x, s⟩ := a
        have hk : x = (k : Int) := hk
        have hs : s.size + j ≤ 16 := hs
        subst hk
        unfold nx140 at hn
        by_cases hz : k = 0
        · subst hz; cases hn
        · rw [show (((k : Int), s).1 != 0) = true by rw [bne_iff_ne]; simpa using hz] at hn
          cases hn
          cases j with
          | zero => have : k < 1 := hj; omega
          | succ j => exact ⟨k / 10, j, tdiv_nat k, by rw [Nat.pow_succ] at hj; omega, by show (chr (k : Int) ++ s).size + j ≤ 16; rw [size_app]; have : (chr (k : Int)).size = 1 := rfl; omega⟩)
      (a0 := ((m : Int), mtL)) ⟨m, 16, rfl, by omega, by show (0 : Nat) + 16 ≤ 16; omega⟩ hit
    have hb := body140 (w0 := w0) (m : Int) (0, mkB (lpL 20 m (bl mtL)))
    rw [show ((m : Int) == 0) = false by rw [beq_eq_false_iff_ne]; omega, decide_eq_false (show ¬ (m : Int) < 0 by omega)] at hb
    have e : itoB (m : Int) = mkB (lpL 20 m (bl mtL)) := by
      unfold itoB
      rw [← digs_lp 19 m (bl mtL) hm (by omega)]
      rfl
    rw [e]
    exact fnD_lp (cfg_ok w0) h0 (cs := []) trivial (g := 140) (fd := fnOf Tryz.f140) rfl hb hld
def c140 : Ct := ct 140 [.c ik] fun a => .br (in64 a.1) (.leaf (St_ (itoB a.1))) .bad
theorem gd140 (h0 : Lib0 w0) : Gd (cfg w0) c140 := gd_sig fun a d hd => by
  obtain ⟨n, u⟩ := a
  obtain ⟨hg, hd⟩ := br_run hd
  cases hd
  exact fn140 h0 n hg
end
end Go.Proofs.YtifnpljmjhnbaaaGreatDoor
