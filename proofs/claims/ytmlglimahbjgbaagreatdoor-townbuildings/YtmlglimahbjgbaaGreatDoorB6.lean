/-
  A part of the proof of the statement that the claim names: see the last file.
-/
import Derived.Test.YtmlglimahbjgbaaGreatDoorB5
namespace Go.Proofs.YtmlglimahbjgbaaGreatDoor
open Go Go.Am Go.Town
set_option maxRecDepth 100000
variable {w0 : World}
noncomputable section


theorem five {bs : List Bd} (h : Nat.ble bs.length 5 = true) (hne : bs ≠ []) : (∃ a, bs = [a]) ∨ (∃ a b, bs = [a, b]) ∨ (∃ a b c, bs = [a, b, c]) ∨ (∃ a b c d, bs = [a, b, c, d]) ∨ ∃ a b c d e, bs = [a, b, c, d, e] := by
  have h := Nat.le_of_ble_eq_true h
  match bs, hne, h with
  | [a], _, _ => exact .inl ⟨a, rfl⟩
  | [a, b], _, _ => exact .inr (.inl ⟨a, b, rfl⟩)
  | [a, b, c], _, _ => exact .inr (.inr (.inl ⟨a, b, c, rfl⟩))
  | [a, b, c, d], _, _ => exact .inr (.inr (.inr (.inl ⟨a, b, c, d, rfl⟩)))
  | [a, b, c, d, e], _, _ => exact .inr (.inr (.inr (.inr ⟨a, b, c, d, e, rfl⟩)))
  | _ :: _ :: _ :: _ :: _ :: _ :: _, _, h => simp at h

def g5 (bs : List Bd) : Bool := Nat.ble bs.length 5 && bs.all smallB
def g4 (bs : List Bd) : Bool := Nat.ble bs.length 4 && bs.all smallB
theorem g4_5 {bs : List Bd} (h : g4 bs = true) : g5 bs = true := by
  unfold g4 at h
  unfold g5
  simp only [Bool.and_eq_true, Nat.ble_eq] at h ⊢
  exact ⟨by omega, h.2⟩

theorem gd_run (h0 : Lib0 w0) {cs : List Ct} (hcs : Gds (cfg w0) cs) {g : Nat} {fd : AFn} (hfd : fnTr.get g = some fd) {F : List Bd → FT D} {T : List Bd → Option D}
    (hF : ∀ bs d, (F bs).run = some d → Nat.ble bs.length 5 = true ∧ T bs = some d)
    (rn : bodyK ((cfg w0).at cs) 60 fd [nilD] = T []) (re : bodyK ((cfg w0).at cs) 60 fd [.emp 4] = T [])
    (r1 : ∀ a, bodyK ((cfg w0).at cs) 60 fd [slD [a]] = T [a]) (r2 : ∀ a b, bodyK ((cfg w0).at cs) 60 fd [slD [a, b]] = T [a, b]) (r3 : ∀ a b c, bodyK ((cfg w0).at cs) 60 fd [slD [a, b, c]] = T [a, b, c])
    (r4 : ∀ a b c d, bodyK ((cfg w0).at cs) 60 fd [slD [a, b, c, d]] = T [a, b, c, d]) (r5 : ∀ a b c d e, bodyK ((cfg w0).at cs) 60 fd [slD [a, b, c, d, e]] = T [a, b, c, d, e]) : Gd (cfg w0) (bsC g F) := by
  have go := fun {ds : List D} {d : D} (h : bodyK ((cfg w0).at cs) 60 fd ds = some d) => fnD_k (cfg_ok w0) h0 hcs (g := g) hfd h
  refine gd_bs (fun d hd => go (rn.trans (hF _ _ hd).2)) (fun d hd => go (re.trans (hF _ _ hd).2)) fun bs hne d hd => ?_
  obtain ⟨h5, hT⟩ := hF _ _ hd
  rcases five h5 hne with ⟨a, rfl⟩ | ⟨a, b, rfl⟩ | ⟨a, b, c, rfl⟩ | ⟨a, b, c, e, rfl⟩ | ⟨a, b, c, e, f, rfl⟩
  · exact go ((r1 a).trans hT)
  · exact go ((r2 a b).trans hT)
  · exact go ((r3 a b c).trans hT)
  · exact go ((r4 a b c e).trans hT)
  · exact go ((r5 a b c e f).trans hT)

theorem T61_eq : ∀ bs : List Bd, T61 bs = some (Bo (bs.all okS))
  | [] => rfl
  | b :: bs => by
    unfold T61
    rw [T61_eq bs, List.all_cons]
    unfold okS
    cases decide ((b.cs.length : Int) ≤ 9) <;> cases decide ((b.nm.size : Int) ≤ 40) <;> rfl

def c61 : Ct := bsC 61 fun bs => .br (Nat.ble bs.length 5) (.leaf (Bo (bs.all okS))) .bad
theorem gd61 (h0 : Lib0 w0) : Gd (cfg w0) c61 := gd_run h0 (cs := []) trivial (fd := fnOf Tryz.f61) rfl (T := T61)
  (fun bs d hd => by obtain ⟨hg, hd⟩ := br_run hd; cases hd; exact ⟨hg, T61_eq bs⟩)
  run61_n run61_e run61_1 run61_2 run61_3 run61_4 run61_5

theorem roomP_ok {b : Bd} (h : smallB b = true) : roomP b.cs = true := by
  unfold smallB at h
  unfold roomP
  simp only [Bool.and_eq_true, Nat.ble_eq, List.nil_append] at h ⊢
  omega

theorem G64_eq (k : Option D) : ∀ {bs : List Bd}, bs.all smallB = true → G64 k bs = k
  | [], _ => rfl
  | b :: bs, h => by
    rw [List.all_cons, Bool.and_eq_true] at h
    unfold G64
    rw [roomP_ok h.1, G64_eq k h.2]; rfl

def c64 : Ct := bsC 64 fun bs => .br (g5 bs) (.leaf (outB bs)) .bad
theorem gd64 (h0 : Lib0 w0) : Gd (cfg w0) c64 := gd_run h0 (cs := []) trivial (fd := fnOf Tryz.f64) rfl (T := T64)
  (fun bs d hd => by
    obtain ⟨hg, hd⟩ := br_run hd
    cases hd
    unfold g5 at hg
    rw [Bool.and_eq_true] at hg
    exact ⟨hg.1, G64_eq _ hg.2⟩)
  run64_n run64_e run64_1 run64_2 run64_3 run64_4 run64_5


def seenB (seen : List Bd) (b : Bd) : Bool := seen.any fun s => s.nm.toList == b.nm.toList
def chkFromB : List Bd → List Bd → Int
  | _, [] => 0
  | seen, b :: bs => bif chkB b != 0 then chkB b else bif seenB seen b then 9 else chkFromB (seen ++ [b]) bs
def chkBs (bs : List Bd) : Int := bif Nat.ble 5 bs.length then 5 else chkFromB [] bs

theorem dup69_eq (k : Option D) (b : Bd) : ∀ seen : List Bd, dup69 k b seen = bif seenB seen b then some (I 9) else k
  | [] => rfl
  | s :: ss => by
    unfold dup69 seenB
    rw [dup69_eq k b ss, List.any_cons]
    cases (s.nm.toList == b.nm.toList) <;> rfl

theorem G69_eq : ∀ {bs : List Bd} (seen : List Bd), bs.all smallB = true → G69 seen bs = some (I (chkFromB seen bs))
  | [], _, _ => rfl
  | b :: bs, seen, h => by
    rw [List.all_cons, Bool.and_eq_true] at h
    unfold G69 chkFromB
    rw [h.1, dup69_eq, G69_eq _ h.2]
    cases (chkB b != 0) <;> cases seenB seen b <;> rfl

def chkBsC (g : Nat) : Ct := bsC g fun bs => .br (g5 bs) (.leaf (I (chkBs bs))) .bad
theorem chk_of {T : List Bd → Option D} {G : List Bd → Option D} (hT : ∀ bs, T bs = bif Nat.ble 5 bs.length then some (I 5) else G bs) (hG : ∀ bs : List Bd, bs.all smallB = true → G bs = some (I (chkFromB [] bs))) {bs : List Bd} (h : bs.all smallB = true) : T bs = some (I (chkBs bs)) := by
  rw [hT, hG bs h]
  unfold chkBs
  cases Nat.ble 5 bs.length <;> rfl

theorem gd69 (h0 : Lib0 w0) : Gd (cfg w0) (chkBsC 69) := gd_run h0 (cs := cs69) ⟨gd70 h0, trivial⟩ (fd := fnOf Tryz.f69) rfl (T := T69)
  (fun bs d hd => by
    obtain ⟨hg, hd⟩ := br_run hd
    cases hd
    unfold g5 at hg
    rw [Bool.and_eq_true] at hg
    exact ⟨hg.1, chk_of (fun _ => rfl) (fun bs h => G69_eq [] h) hg.2⟩)
  run69_n run69_e run69_1 run69_2 run69_3 run69_4 run69_5

theorem dup75_eq (k : Int → Option D) (b : Bd) : ∀ (seen : List Bd) (i : Int), 0 ≤ i → ∃ j : Int, dup75 k b i seen = k j ∧ decide (j ≥ 0) = seenB seen b
  | [], i, _ => ⟨-1, rfl, rfl⟩
  | s :: ss, i, h => by
    unfold dup75 seenB
    rw [List.any_cons]
    cases (s.nm.toList == b.nm.toList) with
    | true => exact ⟨i, rfl, by simpa using h⟩
    | false =>
      obtain ⟨j, h1, h2⟩ := dup75_eq k b ss (i + 1) (by omega)
      exact ⟨j, h1, h2⟩

theorem G75_eq : ∀ {bs : List Bd} (seen : List Bd), bs.all smallB = true → G75 seen bs = some (I (chkFromB seen bs))
  | [], _, _ => rfl
  | b :: bs, seen, h => by
    rw [List.all_cons, Bool.and_eq_true] at h
    unfold G75 chkFromB
    obtain ⟨j, h1, h2⟩ := dup75_eq (fun i => bif smallB b then bif er75 b i != 0 then some (I (er75 b i)) else G75 (seen ++ [b]) bs else none) b seen 0 (by omega)
    rw [h1, h.1, G75_eq _ h.2]
    have he : er75 b j = bif chkB b != 0 then chkB b else bif seenB seen b then 9 else 0 := by
      unfold er75
      rw [h2]
      generalize chkB b = c
      cases hc : (c != 0) with
      | true => simp [firstZ, hc]
      | false => cases seenB seen b <;> simp [firstZ, hc, whenZ]
    rw [he]
    cases hc : (chkB b != 0) with
    | true => simp only [cond_true, hc]
    | false => cases seenB seen b <;> rfl

theorem cs75_gd (h0 : Lib0 w0) : Gds (cfg w0) cs75 := ⟨gd137 h0, gd_of (when_good h0), gd98 h0, trivial⟩
theorem gd75 (h0 : Lib0 w0) : Gd (cfg w0) (chkBsC 75) := gd_run h0 (cs75_gd h0) (fd := fnOf Tryz.f75) rfl (T := T75)
  (fun bs d hd => by
    obtain ⟨hg, hd⟩ := br_run hd
    cases hd
    unfold g5 at hg
    rw [Bool.and_eq_true] at hg
    exact ⟨hg.1, chk_of (fun _ => rfl) (fun bs h => G75_eq [] h) hg.2⟩)
  run75_n run75_e run75_1 run75_2 run75_3 run75_4 run75_5


theorem T135_eq (all : List Bd) : ∀ {bs : List Bd}, bs.all smallB = true → T135 all bs = some (outV (all.map edges))
  | [], _ => rfl
  | b :: bs, h => by
    rw [List.all_cons, Bool.and_eq_true] at h
    unfold T135
    rw [h.1, T135_eq all h.2]; rfl

def is136 (d : D) : Bool :=
  match d with
  | .fn 136 [] [] => true
  | _ => false
theorem is136_eq {d : D} (h : is136 d = true) : d = fn136D := by
  unfold is136 at h
  split at h
  · rfl
  · cases h

def c135 : Ct := ct 135 [.x, .x] fun a => match asBs a.1, is136 a.2.1 with
  | some bs, true => .br (g4 bs) (.leaf (outV (bs.map edges))) .bad
  | _, _ => .bad
theorem gd135 (h0 : Lib0 w0) : Gd (cfg w0) c135 := gd_sig fun a d hd => by
  obtain ⟨x, f, u⟩ := a
  simp only at hd
  split at hd
  · rename_i bs hb hf
    cases is136_eq hf
    obtain ⟨hg, hd⟩ := br_run hd
    cases hd
    unfold g4 at hg
    rw [Bool.and_eq_true, Nat.ble_eq] at hg
    have hT := T135_eq bs hg.2
    have go := fun {ds : List D} {d : D} (h : bodyK ((cfg w0).at cs135) 60 (fnOf Tryz.f135) ds = some d) => fnD_k (cfg_ok w0) h0 (cs := cs135) ⟨gd136 h0, trivial⟩ (g := 135) (fd := fnOf Tryz.f135) rfl h
    rcases asBs_eq hb with ⟨rfl, rfl | rfl⟩ | ⟨hne, rfl⟩
    · exact go (run135_n.trans hT)
    · exact go (run135_e.trans hT)
    · rcases five (Nat.ble_eq_true_of_le (show bs.length ≤ 5 by omega)) hne with ⟨a, rfl⟩ | ⟨a, b, rfl⟩ | ⟨a, b, c, rfl⟩ | ⟨a, b, c, e, rfl⟩ | ⟨a, b, c, e, f, rfl⟩
      · exact go ((run135_1 a).trans hT)
      · exact go ((run135_2 a b).trans hT)
      · exact go ((run135_3 a b c).trans hT)
      · exact go ((run135_4 a b c e).trans hT)
      · simp at hg
  · cases hd


def tot (ls : List (List (Tup wallK))) : Nat := ls.flatten.length
theorem tot_cons (l : List (Tup wallK)) (ls : List (List (Tup wallK))) : tot (l :: ls) = l.length + tot ls := by unfold tot; simp

theorem pan_eq (k : Int → Option D) : ∀ (ls : List (List (Tup wallK))) (a : Nat), a + tot ls ≤ 1000000 → pan k (a : Int) ls = k ((a + tot ls : Nat) : Int)
  | [], a, _ => by unfold pan tot; simp
  | l :: ls, a, h => by
    rw [tot_cons] at h
    unfold pan
    have hw : W ((a : Int) + (l.length : Int)) = ((a + l.length : Nat) : Int) := by
      show IntKind.i64.wrap _ = _
      rw [IntWalk.i64_in _ ⟨by omega, by omega⟩]; simp
    rw [hw, decide_eq_false (by omega : ¬ ((a + l.length : Nat) : Int) < 0)]
    simp only [cond_false]
    rw [pan_eq k ls (a + l.length) (by omega), tot_cons, Nat.add_assoc]

theorem GG_eq : ∀ (ls : List (List (Tup wallK))) (m pre : List (Tup wallK)) (p : Nat), pre.length = p → m.take p = pre → p + tot ls ≤ m.length → GG m p ls = some (.vec wallK (pre ++ ls.flatten))
  | [], m, pre, p, _, h2, _ => by unfold GG; rw [List.drop_zero, h2]; simp
  | l :: ls, m, pre, p, h1, h2, h3 => by
    rw [tot_cons] at h3
    unfold GG
    rw [Nat.ble_eq_true_of_le (by omega : 0 + p + l.length ≤ m.length)]
    simp only [cond_true]
    have hlen := setAt_len (l := m) (xs := l) (o := 0 + p) (by omega)
    rw [GG_eq ls (setAt m (0 + p) l) (pre ++ l) (p + l.length) (by simp [h1]) ?_ (by omega)]
    · simp
    · unfold setAt
      rw [Nat.zero_add, h2, ← List.append_assoc, List.take_append_of_le_length (by simp [h1]), List.take_of_length_le (by simp [h1])]

theorem T134_eq {ls : List (List (Tup wallK))} (h1 : 0 < tot ls) (h2 : tot ls ≤ 100000) : T134 ls = some (.vec wallK ls.flatten) := by
  unfold T134
  have hp := pan_eq (fun S => bif decide (S < 0) then none else bif decide (W (S - z0) > 0) then bif gz (W (S - z0)) then GG (List.replicate (W (S - z0)).toNat (dfl wallK)) 0 ls else none else EE0 ls) ls 0 (by omega)
  rw [show ((0 : Nat) : Int) = 0 from rfl] at hp
  rw [hp, Nat.zero_add]
  have hz : z0 = 0 := by decide
  have hw : W ((tot ls : Int) - z0) = (tot ls : Int) := by
    rw [hz, Int.sub_zero]
    exact IntWalk.i64_in _ ⟨by omega, by omega⟩
  have hg : gz (tot ls : Int) = true := by
    unfold gz
    simp only [Bool.and_eq_true, decide_eq_true_eq, Nat.ble_eq, Int.toNat_natCast]
    omega
  simp only [hw, hg]
  rw [decide_eq_false (by omega : ¬ (tot ls : Int) < 0), decide_eq_true (by omega : (tot ls : Int) > 0), Int.toNat_natCast]
  simp only [cond_false, cond_true]
  have := GG_eq ls (List.replicate (tot ls) (dfl wallK)) [] 0 rfl rfl (by simp)
  simpa using this

def asVsL : List D → Option (List (List (Tup wallK)))
  | [] => some []
  | .vec ks l :: r => match recast ks wallK l, asVsL r with
    | some l, some ls => some (l :: ls)
    | _, _ => none
  | _ => none
theorem asVsL_eq : ∀ {ds : List D} {ls : List (List (Tup wallK))}, asVsL ds = some ls → ds = flatV ls
  | [], ls, h => by cases h; rfl
  | d :: ds, ls, h => by
    unfold asVsL at h
    split at h
    · rename_i e; cases e
    · rename_i ks l r heq
      cases heq
      split at h
      · rename_i l' ls' hr hr'
        cases h
        obtain ⟨e, rfl⟩ := recast_eq hr
        subst e
        rw [asVsL_eq hr']
        rfl
      · cases h
    · cases h

def asVs (d : D) : Option (List (List (Tup wallK))) :=
  match d with
  | .val (.slice none 0 0) => some []
  | .sl n sz cs => match Nat.beq sz 1, asVsL cs with
    | true, some ls => match Nat.beq ls.length n && Nat.blt 0 n with
      | true => some ls
      | false => none
    | _, _ => none
  | _ => none
theorem asVs_eq {d : D} {ls : List (List (Tup wallK))} (h : asVs d = some ls) : (ls = [] ∧ d = nilD) ∨ (ls ≠ [] ∧ d = vsD ls) := by
  unfold asVs at h
  split at h
  · cases h; exact .inl ⟨rfl, rfl⟩
  · rename_i n sz cs
    split at h
    · rename_i bs' hb hc
      split at h
      · rename_i hn
        simp only [Bool.and_eq_true, Nat.beq_eq, Nat.blt_eq] at hn hb
        cases h
        obtain ⟨rfl, hp⟩ := hn
        refine .inr ⟨fun e => by subst e; simp at hp, ?_⟩
        rw [asVsL_eq hc, hb]
        rfl
      · cases h
    · cases h
  · cases h

def lastNE : List (List (Tup wallK)) → Bool
  | [] => false
  | [l] => !l.isEmpty
  | _ :: ls => lastNE ls
def gV (ls : List (List (Tup wallK))) : Bool := Nat.ble ls.length 4 && (Nat.ble (tot ls) 100000 && lastNE ls)
def F134 (ls : List (List (Tup wallK))) : FT D :=
  match ls with
  | [] => .leaf (.vec wallK [])
  | l :: ls => .br (gV (l :: ls)) (.leaf (.vec wallK (l :: ls).flatten)) .bad
def c134 : Ct := ct 134 [.x] fun a => match asVs a.1 with
  | some ls => F134 ls
  | none => .bad

theorem gd134 (h0 : Lib0 w0) : Gd (cfg w0) c134 := gd_sig fun a d hd => by
  obtain ⟨x, u⟩ := a
  simp only at hd
  have go := fun {ds : List D} {d : D} (h : bodyK (((cfg w0).onI [175]).at []) 60 (fnOf Tryz.f134) ds = some d) => (show FnD (cfg w0) 134 ds d from fnD_k (C := (cfg w0).onI [175]) (Cfg.onI_ok (cfg_ok w0) [175]) (specs_onI h0 [175]) (cs := []) trivial (g := 134) (fd := fnOf Tryz.f134) rfl h)
  cases hb : asVs x with
  | none => rw [hb] at hd; cases hd
  | some ls =>
    rw [hb] at hd
    rcases asVs_eq hb with ⟨rfl, rfl⟩ | ⟨hne, rfl⟩
    · cases hd
      exact FnD.nil_one (by decide) (by decide) (go run134_n)
    · cases ls with
      | nil => exact absurd rfl hne
      | cons l ls =>
        obtain ⟨hg, hd⟩ := br_run (show (FT.br (gV (l :: ls)) (.leaf (D.vec wallK (l :: ls).flatten)) .bad).run = some d from hd)
        cases hd
        unfold gV at hg
        simp only [Bool.and_eq_true, Nat.ble_eq] at hg
        obtain ⟨h4, ht, hl⟩ := hg
        have T := fun {ls : List (List (Tup wallK))} (h1 : 0 < tot ls) (h2 : tot ls ≤ 100000) => T134_eq h1 h2
        match ls, h4, ht, hl with
        | [], _, ht, hl =>
          cases l with
          | nil => cases hl
          | cons x m => exact go ((run134_1 m x).trans (T (by unfold tot; simp) ht))
        | [l2], _, ht, hl =>
          cases l2 with
          | nil => cases hl
          | cons x m => exact go ((run134_2 l m x).trans (T (by unfold tot; simp; omega) ht))
        | [l2, l3], _, ht, hl =>
          cases l3 with
          | nil => cases hl
          | cons x m => exact go ((run134_3 l l2 m x).trans (T (by unfold tot; simp; omega) ht))
        | [l2, l3, l4], _, ht, hl =>
          cases l4 with
          | nil => cases hl
          | cons x m => exact go ((run134_4 l l2 l3 m x).trans (T (by unfold tot; simp; omega) ht))
        | _ :: _ :: _ :: _ :: _, h, _, _ => simp at h


def cs63 : List Ct := [chkBsC 75, c135, c134]
theorem cs63_gd (h0 : Lib0 w0) : Gds (cfg w0) cs63 := ⟨gd75 h0, gd135 h0, gd134 h0, trivial⟩
def wallsL (bs : List Bd) : List (Tup wallK) := (bs.map edges).flatten
def T63 (bs : List Bd) : Option D :=
  bif g5 bs then bif chkBs bs != 0 then some (.tup [nilD, I (chkBs bs)]) else bif g4 bs then
    match bs with
    | [] => some (.tup [.vec wallK [], I 0])
    | b :: bs => bif gV ((b :: bs).map edges) then some (.tup [.vec wallK (wallsL (b :: bs)), I 0]) else none
  else none else none
theorem run63_n  : bodyK ((cfg w0).at cs63) 60 (fnOf Tryz.f63) [nilD] = T63 [] := by kernel_rfl
theorem run63_e  : bodyK ((cfg w0).at cs63) 60 (fnOf Tryz.f63) [(.emp 4)] = T63 [] := by kernel_rfl
theorem run63_1 (b1 : Bd) : bodyK ((cfg w0).at cs63) 60 (fnOf Tryz.f63) [(slD [b1])] = T63 [b1] := by kernel_rfl
theorem run63_2 (b1 b2 : Bd) : bodyK ((cfg w0).at cs63) 60 (fnOf Tryz.f63) [(slD [b1, b2])] = T63 [b1, b2] := by kernel_rfl
theorem run63_3 (b1 b2 b3 : Bd) : bodyK ((cfg w0).at cs63) 60 (fnOf Tryz.f63) [(slD [b1, b2, b3])] = T63 [b1, b2, b3] := by kernel_rfl
theorem run63_4 (b1 b2 b3 b4 : Bd) : bodyK ((cfg w0).at cs63) 60 (fnOf Tryz.f63) [(slD [b1, b2, b3, b4])] = T63 [b1, b2, b3, b4] := by kernel_rfl
theorem run63_5 (b1 b2 b3 b4 b5 : Bd) : bodyK ((cfg w0).at cs63) 60 (fnOf Tryz.f63) [(slD [b1, b2, b3, b4, b5])] = T63 [b1, b2, b3, b4, b5] := by kernel_rfl
end
end Go.Proofs.YtmlglimahbjgbaaGreatDoor

namespace Go.Proofs.YtmlglimahbjgbaaGreatDoor
open Go Go.Am Go.Town
set_option maxRecDepth 100000
variable {w0 : World}
noncomputable section

theorem gd_run' (h0 : Lib0 w0) {cs : List Ct} (hcs : Gds (cfg w0) cs) {g : Nat} {fd : AFn} (hfd : fnTr.get g = some fd) {F : List Bd → FT D} {T : List Bd → Option D}
    (hF : ∀ bs d, (F bs).run = some d → Nat.ble bs.length 5 = true ∧ ∃ d', T bs = some d' ∧ ∀ ds, FnD (cfg w0) g ds d' → FnD (cfg w0) g ds d)
    (rn : bodyK ((cfg w0).at cs) 60 fd [nilD] = T []) (re : bodyK ((cfg w0).at cs) 60 fd [.emp 4] = T [])
    (r1 : ∀ a, bodyK ((cfg w0).at cs) 60 fd [slD [a]] = T [a]) (r2 : ∀ a b, bodyK ((cfg w0).at cs) 60 fd [slD [a, b]] = T [a, b]) (r3 : ∀ a b c, bodyK ((cfg w0).at cs) 60 fd [slD [a, b, c]] = T [a, b, c])
    (r4 : ∀ a b c d, bodyK ((cfg w0).at cs) 60 fd [slD [a, b, c, d]] = T [a, b, c, d]) (r5 : ∀ a b c d e, bodyK ((cfg w0).at cs) 60 fd [slD [a, b, c, d, e]] = T [a, b, c, d, e]) : Gd (cfg w0) (bsC g F) := by
  have go := fun {ds : List D} {d : D} (h : bodyK ((cfg w0).at cs) 60 fd ds = some d) => fnD_k (cfg_ok w0) h0 hcs (g := g) hfd h
  refine gd_bs (fun d hd => ?_) (fun d hd => ?_) fun bs hne d hd => ?_
  · obtain ⟨_, d', hT, hc⟩ := hF _ _ hd; exact hc _ (go (rn.trans hT))
  · obtain ⟨_, d', hT, hc⟩ := hF _ _ hd; exact hc _ (go (re.trans hT))
  obtain ⟨h5, d', hT, hc⟩ := hF _ _ hd
  rcases five h5 hne with ⟨a, rfl⟩ | ⟨a, b, rfl⟩ | ⟨a, b, c, rfl⟩ | ⟨a, b, c, e, rfl⟩ | ⟨a, b, c, e, f, rfl⟩
  · exact hc _ (go ((r1 a).trans hT))
  · exact hc _ (go ((r2 a b).trans hT))
  · exact hc _ (go ((r3 a b c).trans hT))
  · exact hc _ (go ((r4 a b c e).trans hT))
  · exact hc _ (go ((r5 a b c e f).trans hT))

theorem chkB_nil {b : Bd} (h : chkB b = 0) : 3 ≤ b.cs.length ∧ b.cs.length ≤ 8 := by
  unfold chkB at h
  cases he : (e1B b != 0) with
  | true => rw [he] at h; simp only [cond_true] at h; rw [h] at he; cases he
  | false =>
    have hz : e1B b = 0 := by simpa using he
    unfold e1B at hz
    rw [firstZ_nil] at hz
    have h1 := hz (whenZ (decide ((b.cs.length : Int) < 3)) 16) (by simp)
    have h2 := hz (whenZ (decide ((b.cs.length : Int) > 8)) 5) (by simp)
    constructor
    · apply Classical.byContradiction
      intro hn
      rw [decide_eq_true (by omega : (b.cs.length : Int) < 3)] at h1
      cases h1
    · apply Classical.byContradiction
      intro hn
      rw [decide_eq_true (by omega : (b.cs.length : Int) > 8)] at h2
      cases h2

theorem chkFromB_nil : ∀ {bs seen : List Bd}, chkFromB seen bs = 0 → ∀ b ∈ bs, chkB b = 0
  | [], _, _, b, hb => by cases hb
  | c :: cs, seen, h, b, hb => by
    unfold chkFromB at h
    cases hc : (chkB c != 0) with
    | true => rw [hc] at h; simp only [cond_true] at h; rw [h] at hc; cases hc
    | false =>
      rw [hc] at h
      simp only [cond_false] at h
      cases hs : seenB seen c with
      | true => rw [hs] at h; cases h
      | false =>
        rw [hs] at h
        rcases List.mem_cons.1 hb with rfl | hb
        · simpa using hc
        · exact chkFromB_nil h b hb

theorem chkBs_nil {bs : List Bd} (h : chkBs bs = 0) : bs.length ≤ 4 ∧ ∀ b ∈ bs, chkB b = 0 := by
  unfold chkBs at h
  cases hb : Nat.ble 5 bs.length with
  | true => rw [hb] at h; cases h
  | false =>
    rw [hb] at h
    refine ⟨?_, chkFromB_nil h⟩
    apply Classical.byContradiction
    intro hn
    rw [Nat.ble_eq_true_of_le (by omega)] at hb
    cases hb

theorem tot_le : ∀ {bs : List Bd}, (∀ b ∈ bs, chkB b = 0) → tot (bs.map edges) ≤ 8 * bs.length
  | [], _ => by simp [tot]
  | b :: bs, h => by
    rw [List.map_cons, tot_cons, edges_len, List.length_cons]
    have h1 := (chkB_nil (h b (by simp))).2
    have h2 := tot_le (bs := bs) fun c hc => h c (by simp [hc])
    omega

theorem last_ok : ∀ {bs : List Bd}, bs ≠ [] → (∀ b ∈ bs, chkB b = 0) → lastNE (bs.map edges) = true
  | [], h, _ => absurd rfl h
  | [b], _, h => by
    have h1 := (chkB_nil (h b (by simp))).1
    have h2 := edges_len b
    simp only [List.map_cons, List.map_nil, lastNE]
    cases he : edges b with
    | nil => rw [he] at h2; simp at h2; omega
    | cons x xs => rfl
  | b :: c :: cs, _, h => by
    have := last_ok (bs := c :: cs) (by simp) fun d hd => h d (by simp at hd ⊢; exact .inr hd)
    simpa only [List.map_cons, lastNE] using this

theorem gV_ok {bs : List Bd} (hne : bs ≠ []) (h : chkBs bs = 0) : gV (bs.map edges) = true := by
  obtain ⟨h1, h2⟩ := chkBs_nil h
  unfold gV
  rw [last_ok hne h2]
  simp only [Bool.and_eq_true, Nat.ble_eq, List.length_map, and_true]
  have := tot_le h2
  omega

theorem g5_4 {bs : List Bd} (h : g5 bs = true) (hc : chkBs bs = 0) : g4 bs = true := by
  unfold g5 at h
  unfold g4
  rw [Bool.and_eq_true] at h ⊢
  exact ⟨Nat.ble_eq_true_of_le (chkBs_nil hc).1, h.2⟩

def F63 (bs : List Bd) : FT D := .br (g5 bs) (.br (chkBs bs != 0) (.leaf (.tup [.vec wallK [], I (chkBs bs)])) (.leaf (.tup [.vec wallK (wallsL bs), I 0]))) .bad
def c63 : Ct := bsC 63 F63
theorem gd63 (h0 : Lib0 w0) : Gd (cfg w0) c63 := gd_run' h0 (cs63_gd h0) (fd := fnOf Tryz.f63) rfl (T := T63)
  (fun bs d hd => by
    obtain ⟨hg, hd⟩ := br_run hd
    refine ⟨by unfold g5 at hg; rw [Bool.and_eq_true] at hg; exact hg.1, ?_⟩
    simp only [FT.run] at hd
    unfold T63
    rw [hg]
    cases hc : (chkBs bs != 0) with
    | true =>
      rw [hc] at hd
      cases hd
      exact ⟨_, rfl, fun ds h => FnD.nil_vec (vs := [.int .i64 (chkBs bs)]) rfl (by decide) h⟩
    | false =>
      rw [hc] at hd
      cases hd
      have hz : chkBs bs = 0 := by simpa using hc
      simp only [cond_true, cond_false]
      rw [g5_4 hg hz]
      cases bs with
      | nil => exact ⟨_, rfl, fun _ h => h⟩
      | cons b bs =>
        have hv := gV_ok (bs := b :: bs) (by simp) hz
        exact ⟨.tup [.vec wallK (wallsL (b :: bs)), I 0], (by
          show (bif gV ((b :: bs).map edges) then some _ else none) = _
          rw [hv]; rfl), fun _ h => h⟩)
  run63_n run63_e run63_1 run63_2 run63_3 run63_4 run63_5


def cs72 : List Ct := [c92]
theorem cs72_gd (h0 : Lib0 w0) : Gds (cfg w0) cs72 := ⟨gd92 h0, trivial⟩
def rel72 : List (Nat × Cv) := [(0, .id), (4, .id), (5, .id), (3, .ov wallK)]
def st72 (bs : List Bd) (i k : Int) (o : List (Tup wallK)) : List D := [slD bs, I i, I k, .ovec wallK o]
noncomputable def ld72 : Ld := ⟨2, (fnOf Tryz.f72).ntmps, rel72, fun ds => match ds with
  | [d, .val (.int .i64 i), .val (.int .i64 _), .ovec ks o] => match asBs d, recast ks wallK o with
    | some bs, some o => match bs[i.toNat]? with
      | some b => .br (g4 bs && Nat.ble o.length 100000) (.leaf (.normal, st72 bs i b.cs.length (o ++ edges b))) .bad
      | none => .bad
    | _, _ => .bad
  | _ => .bad⟩

noncomputable def rnd72 (bs : List Bd) (i k : Int) (o : List (Tup wallK)) := rndD ((cfg w0).at cs72) 40 [] 40 (fnOf Tryz.f72).ntmps rel72 (lpB 2 (fnOf Tryz.f72).body) (st72 bs i k o)
def tree72 (bs : List Bd) (i : Int) (b : Bd) (k : Int) (o : List (Tup wallK)) : Option (Obs × X × List D) :=
  bif decide (k < b.cs.length) then
    bif smallB b && inC b k then
      bif (Nat.ble ((o ++ [edgeT b k.toNat]).length * 64) 1000000000000 && Nat.ble (o ++ [edgeT b k.toNat]).length 1000000000000) then some ([], .normal, st72 bs i (W (k + 1)) (o ++ [edgeT b k.toNat])) else none
    else none
  else some ([], .exit 2, st72 bs i k o)
noncomputable def G72 (all : List Bd) : Nat → List (Tup wallK) → Obs → List Bd → Option (Obs × D)
  | _, o, ob, [] => some (ob, .vec wallK o)
  | i, o, ob, b :: bs => bif g4 all && Nat.ble o.length 100000 then G72 all (i + 1) (o ++ edges b) ((ld72, .loop (lpB 2 (fnOf Tryz.f72).body), st72 all i 0 o) :: ob) bs else none
noncomputable def T72 (bs : List Bd) : Option (Obs × D) := match bs with
  | [] => some ([], nilD)
  | b :: bs => G72 (b :: bs) 0 [] [] (b :: bs)
theorem round72_1_0 (b1 : Bd) (k : Int) (o : List (Tup wallK)) : rnd72 (w0 := w0) [b1] 0 k o = tree72 [b1] 0 b1 k o := by kernel_rfl
theorem round72_2_0 (b1 b2 : Bd) (k : Int) (o : List (Tup wallK)) : rnd72 (w0 := w0) [b1, b2] 0 k o = tree72 [b1, b2] 0 b1 k o := by kernel_rfl
theorem round72_2_1 (b1 b2 : Bd) (k : Int) (o : List (Tup wallK)) : rnd72 (w0 := w0) [b1, b2] 1 k o = tree72 [b1, b2] 1 b2 k o := by kernel_rfl
theorem round72_3_0 (b1 b2 b3 : Bd) (k : Int) (o : List (Tup wallK)) : rnd72 (w0 := w0) [b1, b2, b3] 0 k o = tree72 [b1, b2, b3] 0 b1 k o := by kernel_rfl
theorem round72_3_1 (b1 b2 b3 : Bd) (k : Int) (o : List (Tup wallK)) : rnd72 (w0 := w0) [b1, b2, b3] 1 k o = tree72 [b1, b2, b3] 1 b2 k o := by kernel_rfl
theorem round72_3_2 (b1 b2 b3 : Bd) (k : Int) (o : List (Tup wallK)) : rnd72 (w0 := w0) [b1, b2, b3] 2 k o = tree72 [b1, b2, b3] 2 b3 k o := by kernel_rfl
theorem round72_4_0 (b1 b2 b3 b4 : Bd) (k : Int) (o : List (Tup wallK)) : rnd72 (w0 := w0) [b1, b2, b3, b4] 0 k o = tree72 [b1, b2, b3, b4] 0 b1 k o := by kernel_rfl
theorem round72_4_1 (b1 b2 b3 b4 : Bd) (k : Int) (o : List (Tup wallK)) : rnd72 (w0 := w0) [b1, b2, b3, b4] 1 k o = tree72 [b1, b2, b3, b4] 1 b2 k o := by kernel_rfl
theorem round72_4_2 (b1 b2 b3 b4 : Bd) (k : Int) (o : List (Tup wallK)) : rnd72 (w0 := w0) [b1, b2, b3, b4] 2 k o = tree72 [b1, b2, b3, b4] 2 b3 k o := by kernel_rfl
theorem round72_4_3 (b1 b2 b3 b4 : Bd) (k : Int) (o : List (Tup wallK)) : rnd72 (w0 := w0) [b1, b2, b3, b4] 3 k o = tree72 [b1, b2, b3, b4] 3 b4 k o := by kernel_rfl
theorem run72_n  : bodyT ((cfg w0).at cs72) 40 [ld72] 60 (fnOf Tryz.f72) [nilD] = T72 [] := by kernel_rfl
theorem run72_e  : bodyT ((cfg w0).at cs72) 40 [ld72] 60 (fnOf Tryz.f72) [(.emp 4)] = T72 [] := by kernel_rfl
theorem run72_1 (b1 : Bd) : bodyT ((cfg w0).at cs72) 40 [ld72] 60 (fnOf Tryz.f72) [(slD [b1])] = T72 [b1] := by kernel_rfl
theorem run72_2 (b1 b2 : Bd) : bodyT ((cfg w0).at cs72) 40 [ld72] 60 (fnOf Tryz.f72) [(slD [b1, b2])] = T72 [b1, b2] := by kernel_rfl
theorem run72_3 (b1 b2 b3 : Bd) : bodyT ((cfg w0).at cs72) 40 [ld72] 60 (fnOf Tryz.f72) [(slD [b1, b2, b3])] = T72 [b1, b2, b3] := by kernel_rfl
theorem run72_4 (b1 b2 b3 b4 : Bd) : bodyT ((cfg w0).at cs72) 40 [ld72] 60 (fnOf Tryz.f72) [(slD [b1, b2, b3, b4])] = T72 [b1, b2, b3, b4] := by kernel_rfl

theorem br_runX {α : Type} {b : Bool} {x : FT α} {d : α} (h : (FT.br b x .bad).run = some d) : b = true ∧ x.run = some d := by
  cases b with
  | true => exact ⟨rfl, h⟩
  | false => cases h
theorem recast_pt (l : List (Tup ptK)) : recast ptK ptK l = some l := rfl
theorem recast_w (l : List (Tup wallK)) : recast wallK wallK l = some l := rfl

theorem asBsL_flat : ∀ bs : List Bd, asBsL (flatB bs) = some bs
  | [] => rfl
  | b :: bs => by
    show (match recast ptK ptK b.cs, asBsL (flatB bs) with
      | some cs, some bs => some (Bd.mk b.nm cs b.h b.e :: bs)
      | _, _ => none) = _
    rw [recast_pt, asBsL_flat bs]

theorem asBs_sl {bs : List Bd} (h : bs ≠ []) : asBs (slD bs) = some bs := by
  show (match Nat.beq 4 4, asBsL (flatB bs) with
    | true, some bs' => (match Nat.beq bs'.length bs.length && Nat.blt 0 bs.length with
      | true => some bs'
      | false => none)
    | _, _ => none) = _
  rw [asBsL_flat]
  have : (Nat.beq bs.length bs.length && Nat.blt 0 bs.length) = true := by
    simp only [Bool.and_eq_true, Nat.beq_eq, Nat.blt_eq, true_and]
    cases bs with
    | nil => exact absurd rfl h
    | cons b bs => simp
  simp only [this]

theorem ldP72 (h0 : Lib0 w0) {bs : List Bd} {i : Nat} {b : Bd} (hs : smallB b = true) (hr : ∀ k o, rnd72 (w0 := w0) bs i k o = tree72 bs i b k o) (o : List (Tup wallK)) (ho : o.length ≤ 100000) :
    LdT ((cfg w0).at cs72) (ldP 2 (fnOf Tryz.f72).ntmps rel72 .normal (st72 bs i b.cs.length (o ++ edges b))) (.loop (lpB 2 (fnOf Tryz.f72).body)) (st72 bs i 0 o) := by
  have hs' := hs
  simp only [smallB, Bool.and_eq_true, Nat.ble_eq] at hs'
  have hrun : rgRun 2 (fun j out => (X.normal, out ++ [edgeT b j])) b.cs.length 0 o = (.exit 2, (((0 + b.cs.length : Nat) : Int), o ++ edges b)) := by
    rw [rgRun_fold 2 (h := fun j out => out ++ [edgeT b j]) _ _ _ (fun _ _ _ _ => rfl), foldl_snoc (edgeT b)]; rfl
  have key := ldT_rg (at_ok (cfg_ok w0) cs72) (at_sp h0 (cs72_gd h0)) (N := (fnOf Tryz.f72).ntmps) (rel := rel72) (B := lpB 2 (fnOf Tryz.f72).body) (id := 2) (k := b.cs.length) (by omega) (fun p => st72 bs i p.1 p.2) (fun j out => (X.normal, out ++ [edgeT b j])) (fun j a => a.length = o.length + j)
    (fun j a hj hi => .leaf (by
      have hi : a.length = o.length + j := hi
      refine (hr j a).trans ?_
      unfold tree72
      rw [hs, inC_nat hj, lt_t hj, Int.toNat_natCast, room (by omega) (by omega)]
      rfl)) (fun j a a' _ hi h => by cases h; simp [hi]; omega)
    (fun a _ => .leaf ((hr _ a).trans (by unfold tree72; rw [ge_f]; rfl))) (a0 := o) rfl hrun
  rw [Nat.zero_add] at key
  exact key

theorem ld72_ok (h0 : Lib0 w0) {bs : List Bd} (hg : g4 bs = true) {i : Nat} {b : Bd} (hb : bs[i]? = some b) (hr : ∀ k o, rnd72 (w0 := w0) bs i k o = tree72 bs i b k o) (o : List (Tup wallK)) (ho : o.length ≤ 100000) :
    LdT ((cfg w0).at cs72) ld72 (.loop (lpB 2 (fnOf Tryz.f72).body)) (st72 bs i 0 o) := by
  have hne : bs ≠ [] := fun e => by subst e; cases hb
  have hs : smallB b = true := by
    unfold g4 at hg
    rw [Bool.and_eq_true, List.all_eq_true] at hg
    exact hg.2 b (List.mem_of_getElem? hb)
  have hF : ld72.F (st72 bs i 0 o) = .br (g4 bs && Nat.ble o.length 100000) (.leaf (.normal, st72 bs i b.cs.length (o ++ edges b))) .bad := by
    show (match asBs (slD bs), recast wallK wallK o with
      | some bs', some o' => (match bs'[(i : Int).toNat]? with
        | some b => FT.br (g4 bs' && Nat.ble o'.length 100000) (.leaf (X.normal, st72 bs' i b.cs.length (o' ++ edges b))) .bad
        | none => .bad)
      | _, _ => .bad) = _
    rw [asBs_sl hne, recast_w, Int.toNat_natCast]
    simp only [hb]
  intro x ds' hrun
  rw [hF] at hrun
  obtain ⟨_, hrun⟩ := br_runX hrun
  cases hrun
  exact ldP72 h0 hs hr o ho .normal _ rfl

theorem G72_eq (h0 : Lib0 w0) {all : List Bd} (hg : g4 all = true) (hr : ∀ (i : Nat) b, all[i]? = some b → ∀ k o, rnd72 (w0 := w0) all i k o = tree72 all i b k o) : ∀ (bs : List Bd) (i : Nat) (o : List (Tup wallK)) (ob : Obs), all.drop i = bs → o.length + 1000 * bs.length ≤ 100000 → Owed ((cfg w0).at cs72) ob →
    ∃ obs, G72 all i o ob bs = some (obs, .vec wallK (o ++ wallsL bs)) ∧ Owed ((cfg w0).at cs72) obs
  | [], i, o, ob, _, _, hO => ⟨ob, by unfold G72 wallsL; simp, hO⟩
  | b :: bs, i, o, ob, hd, hl, hO => by
    have hb : all[i]? = some b := by
      have := congrArg (fun l => l[0]?) hd
      simpa only [List.getElem?_drop, Nat.add_zero, List.getElem?_cons_zero] using this
    have hd2 : all.drop (i + 1) = bs := by
      have := congrArg (fun l => l.drop 1) hd
      simpa only [List.drop_drop, List.drop_one, List.tail_cons] using this
    have hs : smallB b = true := by
      unfold g4 at hg
      rw [Bool.and_eq_true, List.all_eq_true] at hg
      exact hg.2 b (List.mem_of_getElem? hb)
    simp only [smallB, Bool.and_eq_true, Nat.ble_eq] at hs
    rw [List.length_cons] at hl
    obtain ⟨obs, h1, h2⟩ := G72_eq h0 hg hr bs (i + 1) (o ++ edges b) ((ld72, .loop (lpB 2 (fnOf Tryz.f72).body), st72 all i 0 o) :: ob) hd2 (by rw [List.length_append, edges_len]; omega) ⟨ld72_ok h0 hg hb (hr i b hb) o (by omega), hO⟩
    refine ⟨obs, ?_, h2⟩
    unfold G72
    rw [hg, Nat.ble_eq_true_of_le (by omega)]
    simp only [Bool.and_true, cond_true]
    rw [h1]
    unfold wallsL
    simp

theorem fn72 (h0 : Lib0 w0) {all : List Bd} (hne : all ≠ []) (hg : g4 all = true) (hr : ∀ (i : Nat) b, all[i]? = some b → ∀ k o, rnd72 (w0 := w0) all i k o = tree72 all i b k o) (hrun : bodyT ((cfg w0).at cs72) 40 [ld72] 60 (fnOf Tryz.f72) [slD all] = T72 all) : FnD (cfg w0) 72 [slD all] (.vec wallK (wallsL all)) := by
  have hg' := hg
  unfold g4 at hg'
  rw [Bool.and_eq_true, Nat.ble_eq] at hg'
  obtain ⟨obs, h1, h2⟩ := G72_eq h0 hg hr all 0 [] [] rfl (by simp; omega) trivial
  have hT : T72 all = some (obs, .vec wallK (wallsL all)) := by
    cases all with
    | nil => exact absurd rfl hne
    | cons b bs => exact h1
  exact fnD_t (cfg_ok w0) h0 (cs72_gd h0) (fd := fnOf Tryz.f72) rfl (hrun.trans hT) h2

def c72 : Ct := bsC 72 fun bs => .br (g4 bs) (.leaf (.vec wallK (wallsL bs))) .bad
theorem gd72 (h0 : Lib0 w0) : Gd (cfg w0) c72 := gd_bs
  (fun d hd => by cases hd; exact FnD.nil_one (by decide) (by decide) (fnD_t (cfg_ok w0) h0 (cs72_gd h0) (g := 72) (fd := fnOf Tryz.f72) rfl (o := []) run72_n trivial))
  (fun d hd => by cases hd; exact FnD.nil_one (by decide) (by decide) (fnD_t (cfg_ok w0) h0 (cs72_gd h0) (g := 72) (fd := fnOf Tryz.f72) rfl (o := []) run72_e trivial))
  fun bs hne d hd => by
    obtain ⟨hg, hd⟩ := br_run hd
    cases hd
    have h4 : bs.length ≤ 4 := by unfold g4 at hg; rw [Bool.and_eq_true, Nat.ble_eq] at hg; exact hg.1
    rcases five (Nat.ble_eq_true_of_le (show bs.length ≤ 5 by omega)) hne with ⟨a, rfl⟩ | ⟨a, b, rfl⟩ | ⟨a, b, c, rfl⟩ | ⟨a, b, c, e, rfl⟩ | ⟨a, b, c, e, f, rfl⟩
    · exact fn72 h0 hne hg (fun i x hx => by
        match i, hx with
        | 0, hx => cases hx; exact round72_1_0 _) (run72_1 a)
    · exact fn72 h0 hne hg (fun i x hx => by
        match i, hx with
        | 0, hx => cases hx; exact round72_2_0 _ _
        | 1, hx => cases hx; exact round72_2_1 _ _) (run72_2 a b)
    · exact fn72 h0 hne hg (fun i x hx => by
        match i, hx with
        | 0, hx => cases hx; exact round72_3_0 _ _ _
        | 1, hx => cases hx; exact round72_3_1 _ _ _
        | 2, hx => cases hx; exact round72_3_2 _ _ _) (run72_3 a b c)
    · exact fn72 h0 hne hg (fun i x hx => by
        match i, hx with
        | 0, hx => cases hx; exact round72_4_0 _ _ _ _
        | 1, hx => cases hx; exact round72_4_1 _ _ _ _
        | 2, hx => cases hx; exact round72_4_2 _ _ _ _
        | 3, hx => cases hx; exact round72_4_3 _ _ _ _) (run72_4 a b c e)
    · simp at h4
end
end Go.Proofs.YtmlglimahbjgbaaGreatDoor
