/-
  A part of the proof of the statement that the claim names: see the last file.
-/
import Derived.Test.YtifnpljmjhnbaaaGreatDoorR1
import Derived.Test.YtifnpljmjhnbaaaGreatDoorAm5
namespace Go.Proofs.YtifnpljmjhnbaaaGreatDoor
open Go Go.Am
set_option maxRecDepth 100000
variable {w0 : World}
noncomputable section



def fnd (p : Nat → Bool) : Nat → Nat → Option Nat
  | 0, _ => none
  | f + 1, i => bif p i then some i else fnd p f (i + 1)

theorem rgRun_fnd {id : Nat} {p : Nat → Bool} : ∀ (f i : Nat) (a : Int), rgRun id (fun j (a : Int) => bif p j then (X.ret, (j : Int)) else (.normal, a)) f i a = match fnd p f i with
    | some q => (.ret, ((q : Int), (q : Int)))
    | none => (.exit id, (((i + f : Nat) : Int), a))
  | 0, i, a => rfl
  | f + 1, i, a => by
    unfold rgRun fnd
    cases hp : p i with
    | true => rfl
    | false =>
      simp only [cond_false]
      rw [rgRun_fnd f (i + 1) a, show i + 1 + f = i + (f + 1) by omega]

theorem fnd_none {p : Nat → Bool} : ∀ {f i : Nat}, fnd p f i = none → ∀ j, i ≤ j → j < i + f → p j = false
  | 0, i, _, j, h1, h2 => by omega
  | f + 1, i, h, j, h1, h2 => by
    unfold fnd at h
    cases hp : p i with
    | true => rw [hp] at h; cases h
    | false =>
      rw [hp] at h
      rcases Nat.eq_or_lt_of_le h1 with rfl | h3
      · exact hp
      · exact fnd_none (f := f) (i := i + 1) h j h3 (by omega)

theorem fnd_some {p : Nat → Bool} : ∀ {f i q : Nat}, fnd p f i = some q → i ≤ q ∧ q < i + f ∧ p q = true ∧ ∀ j, i ≤ j → j < q → p j = false
  | 0, i, q, h => by cases h
  | f + 1, i, q, h => by
    unfold fnd at h
    cases hp : p i with
    | true => rw [hp] at h; cases h; exact ⟨Nat.le_refl _, by omega, hp, fun j h1 h2 => by omega⟩
    | false =>
      rw [hp] at h
      obtain ⟨a, b, c, d⟩ := fnd_some (f := f) (i := i + 1) h
      refine ⟨by omega, by omega, c, fun j h1 h2 => ?_⟩
      rcases Nat.eq_or_lt_of_le h1 with rfl | h3
      · exact hp
      · exact d j h3 h2

theorem W_nat {n : Nat} (h : n ≤ 1000000) : W ((n : Int) + 1) = ((n + 1 : Nat) : Int) := by
  rw [show W ((n : Int) + 1) = (n : Int) + 1 from W_id (by omega) (by omega)]
  omega
def misB (x : Tup intK) : Bool := i1 x == -1
abbrev f145 : D := .fn 145 [] []
def rel164 : List (Nat × Cv) := [(0, .id), (1, .id), (7, .id), (8, .id), (4, .id)]
def st164 (l : List (Tup intK)) (a : Int × Int) : List D := [.vec intK l, f145, I l.length, I a.1, I a.2]
theorem round164 (l : List (Tup intK)) (j r : Int) : rndD ((cfg w0).at []) 40 [] 40 (fnOf Tryz.f164).ntmps rel164 (lpB 0 (fnOf Tryz.f164).body) (st164 l (j, r)) =
    bif decide (j < l.length) then bif inO l j then
        bif misB (nth l (j.toNat + 0)) then some ([], .ret, st164 l (j, j)) else some ([], .normal, st164 l (W (j + 1), r))
      else none
    else some ([], .exit 0, st164 l (j, r)) := by kernel_rfl
theorem body164 (l : List (Tup intK)) (x : X) (p : Int × Int) (hx : x = .ret ∨ x = .normal) : bodyT ((cfg w0).at []) 40 [ldP 0 (fnOf Tryz.f164).ntmps rel164 x (st164 l p)] 40 (fnOf Tryz.f164) [.vec intK l, f145] =
    some ([(ldP 0 (fnOf Tryz.f164).ntmps rel164 x (st164 l p), .loop (lpB 0 (fnOf Tryz.f164).body), st164 l (0, 0))], onX x (I p.2) (I (-1))) := by
  rcases hx with rfl | rfl <;> kernel_rfl
def ixM (l : List (Tup intK)) : Int := match fnd (fun j => misB (nth l j)) l.length 0 with
  | some q => q
  | none => -1
theorem fn164 (h0 : Lib0 w0) (l : List (Tup intK)) (hl : l.length ≤ 100000) : FnD (cfg w0) 164 [.vec intK l, f145] (I (ixM l)) := by
  refine fn_rg h0 (cs := []) trivial (fd := fnOf Tryz.f164) rfl rel164 l.length (by omega) (st164 l) (fun j a => bif misB (nth l j) then (X.ret, (j : Int)) else (.normal, a)) (fun _ _ => True) (a0 := 0) trivial
    (fun j a hj _ => .leaf (by
      rw [round164, inO_nat hj, lt_t hj, Int.toNat_natCast, Nat.add_zero]
      cases misB (nth l j) <;> rfl)) (fun _ _ _ _ _ _ => trivial)
    (fun a _ => .leaf (by rw [round164, ge_f]; rfl)) fun x p hx => ?_
  rw [rgRun_fnd (p := fun j => misB (nth l j))] at hx
  unfold ixM
  cases hf : fnd (fun j => misB (nth l j)) l.length 0 with
  | none => rw [hf] at hx; cases hx; exact body164 l _ _ (.inr rfl)
  | some q => rw [hf] at hx; cases hx; exact body164 l _ _ (.inl rfl)
def c164 : Ct := ct 164 [.v intK, .x] fun a => match isFn 145 a.2.1 with
  | true => .br (sm a.1) (.leaf (I (ixM a.1))) .bad
  | false => .bad
theorem gd164 (h0 : Lib0 w0) : Gd (cfg w0) c164 := gd_sig fun a d hd => by
  obtain ⟨l, f, u⟩ := a
  simp only at hd
  cases hb : isFn 145 f with
  | false => rw [hb] at hd; cases hd
  | true =>
    rw [hb] at hd
    obtain ⟨hg, hd⟩ := br_run hd
    cases hd
    cases isFn_eq hb
    exact fn164 h0 l (sm_le hg)


def cs144 : List Ct := [c164]
theorem cs144_gd (h0 : Lib0 w0) : Gds (cfg w0) cs144 := ⟨gd164 h0, trivial⟩
def rel144 : List (Nat × Cv) := [(0, .id), (1, .id), (6, .id), (5, .id)]
def st144 (a : Int × (Int × List (Tup intK))) : List D := [.ovec intK a.2.2, f145, I a.1, I a.2.1]

theorem round144 (j i : Int) (l : List (Tup intK)) : rndD ((cfg w0).at cs144) 40 [] 40 (fnOf Tryz.f144).ntmps rel144 (lpB 0 (fnOf Tryz.f144).body) (st144 (j, (i, l))) =
    bif decide (j < l.length) then
      bif (Nat.beq 1 1 && (decide (0 ≤ j) && decide (j < l.length))) then
        bif !misB (nth l (j.toNat + 0)) then
          bif (Nat.beq 1 1 && (decide (0 ≤ i) && decide (i < l.length))) then some ([], .normal, st144 (W (j + 1), (W (i + 1), l.set (i.toNat + 0) (nth l (j.toNat + 0))))) else none
        else some ([], .normal, st144 (W (j + 1), (i, l)))
      else none
    else some ([], .exit 0, st144 (j, (i, l))) := by kernel_rfl

def ld144 (p : Int × (Int × List (Tup intK))) : Ld := ldP 0 (fnOf Tryz.f144).ntmps rel144 .normal (st144 p)
def fin144 (l' : List (Tup intK)) (i : Nat) : List (Tup intK) := ((setAt l' (0 + i) (List.replicate (l'.length - i) (dfl intK))).drop 0).take i
def cut1 (i n : Int) : Bool := decide (0 ≤ i) && (decide (i ≤ n) && decide (n ≤ n))
def cut2 (i n : Int) : Bool := decide ((0 : Int) ≤ 0) && (decide (0 ≤ i) && decide (i ≤ n))

theorem body144a (l : List (Tup intK)) (j : Int) (k : Nat) (l' : List (Tup intK)) : bodyT ((cfg w0).at cs144) 40 [ld144 (j, (((k + 1 : Nat) : Int), l'))] 40 (fnOf Tryz.f144) [.ovec intK l, f145] =
    bif Nat.ble l.length 100000 then
      bif ixM l == -1 then some ([], .vec intK l)
      else bif cut1 ((k + 1 : Nat) : Int) l'.length then bif cut2 ((k + 1 : Nat) : Int) l'.length then
        some ([(ld144 (j, (((k + 1 : Nat) : Int), l')), .loop (lpB 0 (fnOf Tryz.f144).body), st144 (W (ixM l + 1), (ixM l, l)))], .vec intK (fin144 l' (k + 1))) else none else none
    else none := by kernel_rfl

theorem body144b (l : List (Tup intK)) (j : Int) (y : Tup intK) (l' : List (Tup intK)) : bodyT ((cfg w0).at cs144) 40 [ld144 (j, (0, y :: l'))] 40 (fnOf Tryz.f144) [.ovec intK l, f145] =
    bif Nat.ble l.length 100000 then
      bif ixM l == -1 then some ([], .vec intK l)
      else bif cut1 0 (y :: l').length then
        some ([(ld144 (j, (0, y :: l')), .loop (lpB 0 (fnOf Tryz.f144).body), st144 (W (ixM l + 1), (ixM l, l)))], .emp 1) else none
    else none := by kernel_rfl

theorem rgRun_inv {α : Type} {id : Nat} {step : Nat → α → X × α} {inv : Nat → α → Prop} : ∀ (f i : Nat) (a : α), inv i a → (∀ j b, i ≤ j → j < i + f → inv j b → ∃ b', step j b = (.normal, b') ∧ inv (j + 1) b') → ∃ b, rgRun id step f i a = (.exit id, (((i + f : Nat) : Int), b)) ∧ inv (i + f) b
  | 0, i, a, h, _ => ⟨a, rfl, h⟩
  | f + 1, i, a, h, hs => by
    obtain ⟨b, h1, h2⟩ := hs i a (Nat.le_refl _) (by omega) h
    obtain ⟨c, h3, h4⟩ := rgRun_inv (id := id) f (i + 1) b h2 (fun j b hj hj2 hb => hs j b (by omega) (by omega) hb)
    refine ⟨c, ?_, by rw [show i + (f + 1) = i + 1 + f by omega]; exact h4⟩
    unfold rgRun
    rw [h1]
    simp only
    rw [h3, show i + 1 + f = i + (f + 1) by omega]

def keepM (l : List (Tup intK)) : List (Tup intK) := l.filter (fun w => !misB w)
def step144 (j : Nat) (a : Int × List (Tup intK)) : X × (Int × List (Tup intK)) :=
  (.normal, bif !misB (nth a.2 j) then (W (a.1 + 1), a.2.set a.1.toNat (nth a.2 j)) else a)
def inv144 (l : List (Tup intK)) (j : Nat) (a : Int × List (Tup intK)) : Prop :=
  ∃ i : Nat, a.1 = (i : Int) ∧ i < j ∧ a.2.length = l.length ∧ a.2.take i = keepM (l.take j) ∧ a.2.drop j = l.drop j

theorem nth_eq {l : List (Tup intK)} {j : Nat} (h : j < l.length) : nth l j = l[j] := by simp [nth, h]

theorem keep_snoc {l : List (Tup intK)} {j : Nat} (h : j < l.length) : keepM (l.take (j + 1)) = keepM (l.take j) ++ (bif !misB (nth l j) then [nth l j] else []) := by
  unfold keepM
  rw [List.take_add_one, List.filter_append]
  congr 1
  rw [List.getElem?_eq_getElem h, nth_eq h]
  simp only [Option.toList_some, List.filter_cons, List.filter_nil]
  cases misB l[j] <;> rfl

theorem inv144_step {l : List (Tup intK)} (hl : l.length ≤ 100000) {j : Nat} (hj : j < l.length) {a : Int × List (Tup intK)} (h : inv144 l j a) : ∃ b, step144 j a = (.normal, b) ∧ inv144 l (j + 1) b := by
  obtain ⟨i, h1, h2, h3, h4, h5⟩ := h
  obtain ⟨a1, m⟩ := a
  simp only at h1 h3 h4 h5
  subst h1
  have hm : nth m j = nth l j := by
    have := congrArg (fun t => t[0]?) h5
    simp only [List.getElem?_drop, Nat.add_zero] at this
    rw [List.getElem?_eq_getElem (by omega), List.getElem?_eq_getElem hj] at this
    rw [nth_eq (by omega), nth_eq hj]
    exact Option.some.inj this
  have hd : m.drop (j + 1) = l.drop (j + 1) := by
    have := congrArg (fun t => t.drop 1) h5
    simpa only [List.drop_drop] using this
  refine ⟨_, rfl, ?_⟩
  simp only
  rw [hm]
  cases hb : (!misB (nth l j)) with
  | false =>
    simp only [cond_false]
    exact ⟨i, rfl, by omega, h3, by rw [keep_snoc hj, hb, h4]; simp, hd⟩
  | true =>
    simp only [cond_true]
    refine ⟨i + 1, W_nat (by omega), by omega, by simp [h3], ?_, ?_⟩
    · rw [keep_snoc hj, hb, ← h4]
      simp only [Int.toNat_natCast, cond_true]
      rw [List.take_add_one, List.take_set_of_le (Nat.le_refl _)]
      congr 1
      rw [List.getElem?_set_self (by omega)]
      rfl
    · simp only [Int.toNat_natCast]
      rw [List.drop_set_of_lt (by omega)]
      exact hd

theorem rd144 {l : List (Tup intK)} (j : Nat) (a : Int × List (Tup intK)) (hj : j < l.length) (h : inv144 l j a) :
    RdOK ((cfg w0).at cs144) (fnOf Tryz.f144).ntmps rel144 (lpB 0 (fnOf Tryz.f144).body) (st144 ((j : Int), a)) (step144 j a).1 (st144 (nx j (step144 j a))) := by
  obtain ⟨i, h1, h2, h3, h4, h5⟩ := h
  obtain ⟨a1, m⟩ := a
  simp only at h1 h3
  subst h1
  have hjm : j < m.length := by omega
  exact .leaf (by
    rw [round144, inb 1 hjm, lt_t hjm, Int.toNat_natCast, Int.toNat_natCast, Nat.add_zero, Nat.add_zero, inb 1 (show i < m.length by omega)]
    unfold step144
    simp only [cond_true]
    cases hb : (!misB (nth m j)) with
    | false => rfl
    | true => rfl)

theorem take_fin {l' : List (Tup intK)} {i : Nat} (h : i ≤ l'.length) : fin144 l' i = l'.take i := by
  unfold fin144 setAt
  rw [List.drop_zero, Nat.zero_add, List.take_append_of_le_length (by simp; omega), List.take_take, Nat.min_self]

theorem idx_none {l : List (Tup intK)} (h : (ixM l == -1) = true) : keepM l = l := by
  unfold ixM at h
  cases hf : fnd (fun j => misB (nth l j)) l.length 0 with
  | some q => rw [hf] at h; simp only [beq_iff_eq] at h; omega
  | none =>
    have := fnd_none hf
    unfold keepM
    rw [List.filter_eq_self]
    intro w hw
    obtain ⟨j, hj, rfl⟩ := List.getElem_of_mem hw
    have h1 : misB (nth l j) = false := this j (by omega) (by omega)
    rw [nth_eq hj] at h1
    rw [h1]; rfl

def del144 (l : List (Tup intK)) : FT D :=
  .br (Nat.ble l.length 100000) (.br (ixM l == -1) (.leaf (.vec intK l)) (.br (keepM l).isEmpty (.leaf (.emp 1)) (.leaf (.vec intK (keepM l))))) .bad

theorem fn144 (h0 : Lib0 w0) (l : List (Tup intK)) {d : D} (hd : (del144 l).run = some d) : FnM (cfg w0) 144 [.ovec intK l, f145] d := by
  unfold del144 at hd
  obtain ⟨hg, hd⟩ := br_run hd
  have hl := Nat.le_of_ble_eq_true hg
  have mv := fun {L : List Ld} {o : Obs} {d : D} (hb : bodyT ((cfg w0).at cs144) 40 L 40 (fnOf Tryz.f144) [.ovec intK l, f145] = some (o, d)) (hO : Owed ((cfg w0).at cs144) o) =>
    FnM.sy (bodyT_move (C := (cfg w0).at cs144) (at_ok (cfg_ok w0) cs144) (at_sp h0 (cs144_gd h0)) (g := 144) (fd := fnOf Tryz.f144) rfl hb hO)
  cases hi : (ixM l == -1) with
  | true =>
    rw [hi] at hd
    cases hd
    exact mv ((body144a l 0 0 []).trans (by rw [hg, hi]; rfl)) (by exact trivial)
  | false =>
    rw [hi] at hd
    replace hd : (FT.br (keepM l).isEmpty (.leaf (.emp 1)) (.leaf (D.vec intK (keepM l)))).run = some d := hd
    unfold ixM at hi
    cases hf : fnd (fun j => misB (nth l j)) l.length 0 with
    | none => rw [hf] at hi; cases hi
    | some q =>
      have hidx : ixM l = (q : Int) := by unfold ixM; rw [hf]
      obtain ⟨_, q1, q2, q3⟩ := fnd_some hf
      rw [Nat.zero_add] at q1
      have hi' : ((q : Int) == -1) = false := by rw [hf] at hi; exact hi
      have hk0 : l.take q = keepM (l.take (q + 1)) := by
        have e1 : keepM (l.take q) = l.take q := by
          unfold keepM
          rw [List.filter_eq_self]
          intro w hw
          obtain ⟨j, hj, rfl⟩ := List.mem_take_iff_getElem.1 hw
          have h1 : misB (nth l j) = false := q3 j (by omega) (by omega)
          rw [nth_eq (by omega)] at h1
          rw [h1]; rfl
        have q2' : misB (nth l q) = true := q2
        rw [keep_snoc q1, q2', e1]; simp
      have hinv0 : inv144 l (q + 1) ((q : Int), l) := ⟨q, rfl, by omega, rfl, hk0, rfl⟩
      obtain ⟨b, hrun, hinv⟩ := rgRun_inv (id := 0) (step := step144) (inv := inv144 l) (l.length - (q + 1)) (q + 1) ((q : Int), l) hinv0 (fun j b _ hj hb => inv144_step hl (by omega) hb)
      have hld := ldT_rgs (at_ok (cfg_ok w0) cs144) (at_sp h0 (cs144_gd h0)) (N := (fnOf Tryz.f144).ntmps) (rel := rel144) (B := lpB 0 (fnOf Tryz.f144).body) (id := 0) (k := l.length) (by omega) (st144) (step144) (inv144 l)
        (fun j a hj ha => rd144 j a hj ha) (fun j a a' hj ha h => by
          obtain ⟨b, h1, h2⟩ := inv144_step hl hj ha
          rw [h1] at h; cases h; exact h2)
        (fun a ⟨i, _, _, h3, _⟩ => .leaf (by
          obtain ⟨a1, m⟩ := a
          simp only at h3
          rw [round144, ← h3, ge_f]; rfl)) (i0 := q + 1) (by omega) hinv0 hrun
      rw [show q + 1 + (l.length - (q + 1)) = l.length by omega] at hinv hld
      obtain ⟨i, h1, h2, h3, h4, _⟩ := hinv
      obtain ⟨b1, m⟩ := b
      simp only at h1 h3 h4
      subst h1
      rw [List.take_length] at h4
      have hpre : st144 (W (ixM l + 1), (ixM l, l)) = st144 (((q + 1 : Nat) : Int), ((q : Int), l)) := by rw [hidx, W_nat (by omega)]
      cases i with
      | zero =>
        have he : (keepM l).isEmpty = true := by rw [← h4]; rfl
        rw [he] at hd
        cases hd
        cases m with
        | nil => simp at h3; omega
        | cons y ys =>
          have hc : cut1 0 (y :: ys).length = true := by unfold cut1; simp only [Bool.and_eq_true, decide_eq_true_eq]; omega
          exact mv ((body144b l (l.length : Int) y ys).trans (by rw [hg, hidx, hi', hc]; rfl)) (by
            refine ⟨?_, trivial⟩
            rw [← hidx, hpre]
            exact hld)
      | succ k =>
        have hne : (keepM l).isEmpty = false := by
          rw [← h4]
          cases m with
          | nil => simp at h3; omega
          | cons y ys => rfl
        rw [hne] at hd
        cases hd
        have hc : cut1 ((k + 1 : Nat) : Int) m.length = true := by unfold cut1; simp only [Bool.and_eq_true, decide_eq_true_eq]; omega
        have hc2 : cut2 ((k + 1 : Nat) : Int) m.length = true := by unfold cut2; simp only [Bool.and_eq_true, decide_eq_true_eq]; omega
        rw [← h4, ← take_fin (by omega)]
        exact mv ((body144a l (l.length : Int) k m).trans (by rw [hg, hidx, hi', hc, hc2]; rfl)) (by
          refine ⟨?_, trivial⟩
          rw [← hidx, hpre]
          exact hld)
end
end Go.Proofs.YtifnpljmjhnbaaaGreatDoor

namespace Go.Proofs.YtifnpljmjhnbaaaGreatDoor
open Go Go.Am
set_option maxRecDepth 100000
variable {w0 : World}
noncomputable section


def F144 (ds : List D) : FT D :=
  match ds with
  | [.ovec ks l, f] => match recast ks intK l, isFn 145 f with
    | some l, true => del144 l
    | _, _ => .bad
  | _ => .bad
theorem F144_ok (h0 : Lib0 w0) (ds : List D) (d : D) (h : (F144 ds).run = some d) : FnM (cfg w0) 144 ds d := by
  unfold F144 at h
  split at h
  · split at h
    · rename_i hr hx
      obtain ⟨e, rfl⟩ := recast_eq hr
      subst e
      cases isFn_eq hx
      exact fn144 h0 _ h
    · cases h
  · cases h
def hs144 : List (Nat × (List Value → Heap → FT (Value × Heap))) := [(144, mvF F144)]
theorem hs144_gd (h0 : Lib0 w0) : GdsH (cfg w0) hs144 := ⟨fun _ _ _ _ hv => callM_sound (F := F144) (fun ds d hd => F144_ok h0 ds d hd) hv, trivial⟩
def cfgD (w0 : World) : Cfg := (cfg w0).onH hs144
theorem cfgD_ok (w0 : World) : CfgOk (cfgD w0) := Cfg.onH_ok (cfg_ok w0) hs144
theorem cfgD_sp (h0 : Lib0 w0) : SpecOK (cfgD w0) := specs_onH h0 (hs144_gd h0)

def cpy (l : List (Tup intK)) : List (Tup intK) := setAt (List.replicate ((l.length : Int).toNat) (dfl intK)) 0 (List.take (Nat.min l.length ((l.length : Int).toNat)) l)
theorem cpy_eq (l : List (Tup intK)) : cpy l = l := by
  unfold cpy setAt
  simp only [Int.toNat_natCast, Nat.zero_add, List.take_zero, List.nil_append]
  have : Nat.min l.length l.length = l.length := Nat.min_self _
  rw [this, List.take_length, List.drop_eq_nil_of_le (by simp), List.append_nil]
def mk98 (n : Int) : Bool := decide (0 ≤ n) && (decide (n = n) && (decide (n ≤ 10000000) && (Nat.ble (n.toNat * 1) 10000000 && Nat.ble (n.toNat * 8) 1000000000000)))
theorem run98 (l : List (Tup intK)) : bodyK ((cfgD w0).at []) 40 (fnOf Tryz.f98) [.vec intK l] =
    bif mk98 l.length then bif Nat.ble (cpy l).length 100000 then
      bif ixM (cpy l) == -1 then some (.vec intK (cpy l))
      else bif (keepM (cpy l)).isEmpty then some (.emp 1) else some (.vec intK (keepM (cpy l)))
    else none else none := by kernel_rfl
def kpB (l : List (Tup intK)) : Bool := (keepM l).isEmpty
def c98 : Ct := ct 98 [.v intK] fun a => .br (sm a.1 && !kpB a.1) (.leaf (.vec intK (keepM a.1))) .bad
def c98e : Ct := ct 98 [.v intK] fun a => .br (sm a.1 && (kpB a.1 && !(a.1 : List (Tup intK)).isEmpty)) (.leaf (.emp 1)) .bad
theorem fn98 (h0 : Lib0 w0) (l : List (Tup intK)) (hg : sm l = true) : (kpB l = false → FnD (cfg w0) 98 [.vec intK l] (.vec intK (keepM l))) ∧ (kpB l = true → l.isEmpty = false → FnD (cfg w0) 98 [.vec intK l] (.emp 1)) := by
  have go : ∀ d, _ = some d → FnD (cfg w0) 98 [.vec intK l] d := fun d h => (show FnD (cfg w0) 98 [.vec intK l] d from fnD_k (C := cfgD w0) (cfgD_ok w0) (cfgD_sp h0) (cs := []) trivial (fd := fnOf Tryz.f98) rfl ((run98 l).trans h))
  have hl := sm_le hg
  have hm : mk98 (l.length : Int) = true := by
    unfold mk98
    simp only [Bool.and_eq_true, decide_eq_true_eq, Nat.ble_eq, Int.toNat_natCast]
    exact ⟨by omega, trivial, by omega, by omega, by omega⟩
  rw [hm, cpy_eq, show Nat.ble l.length 100000 = true from hg] at go
  cases hx : (ixM l == -1) with
  | true =>
    rw [hx] at go
    have hk := idx_none hx
    refine ⟨fun _ => by rw [hk]; exact go _ rfl, fun h1 h2 => ?_⟩
    unfold kpB at h1
    rw [hk, h2] at h1
    cases h1
  | false =>
    rw [hx] at go
    refine ⟨fun h => ?_, fun h _ => ?_⟩
    · unfold kpB at h
      rw [h] at go
      exact go _ rfl
    · unfold kpB at h
      rw [h] at go
      exact go _ rfl
theorem gd98 (h0 : Lib0 w0) : Gd (cfg w0) c98 := gd_sig fun a d hd => by
  obtain ⟨l, u⟩ := a
  obtain ⟨hg, hd⟩ := br_run hd
  cases hd
  have hg : (sm l && !kpB l) = true := hg
  rw [Bool.and_eq_true] at hg
  exact (fn98 h0 l hg.1).1 (by simpa using hg.2)
theorem gd98e (h0 : Lib0 w0) : Gd (cfg w0) c98e := gd_sig fun a d hd => by
  obtain ⟨l, u⟩ := a
  obtain ⟨hg, hd⟩ := br_run hd
  cases hd
  have hg : (sm l && (kpB l && !(l : List (Tup intK)).isEmpty)) = true := hg
  rw [Bool.and_eq_true, Bool.and_eq_true] at hg
  exact (fn98 h0 l hg.1).2 hg.2.1 (by simpa using hg.2.2)


abbrev T4 := Int × Int × Int × Int
def t4D (x : T4) : D := .tup [I x.1, I x.2.1, I x.2.2.1, I x.2.2.2]
def rel28 : List (Nat × Cv) := [(0, .id), (7, .sv intK), (19, .sv intK), (20, .id), (21, .id), (8, .id), (9, .id)]
def st28 (r l : List (Tup intK)) (a : Int × Int × Int) : List D := [.vec intK r, .vec intK l, .vec intK l, I l.length, I a.1, I a.2.1, I a.2.2]
def cs28 : List Ct := [c34, c98]
theorem round28 (r l : List (Tup intK)) (j s m : Int) : rndD ((cfg w0).at cs28) 40 [] 40 (fnOf Tryz.f28).ntmps rel28 (lpB 0 (fnOf Tryz.f28).body) (st28 r l (j, s, m)) =
    bif decide (j < l.length) then bif inO l j then
      some ([], .normal, st28 r l (W (j + 1), IntKind.i64.wrap (s + i1 (nth l j.toNat)), mx m (i1 (nth l j.toNat))))
    else none else some ([], .exit 0, st28 r l (j, s, m)) := by kernel_rfl
theorem body28 (r : List (Tup intK)) (p : Int × Int × Int) : bodyT ((cfg w0).at cs28) 40 [ldP 0 (fnOf Tryz.f28).ntmps rel28 .normal (st28 r (keepM r) p)] 40 (fnOf Tryz.f28) [.vec intK r] =
    bif sm r then bif chkR r != 0 then some ([], .tup [I 0, I 0, I 0, I (chkR r)]) else
      bif (sm r && !kpB r) then
        bif decide (p.2.1 > maxE) then some ([(ldP 0 (fnOf Tryz.f28).ntmps rel28 .normal (st28 r (keepM r) p), .loop (lpB 0 (fnOf Tryz.f28).body), st28 r (keepM r) (0, 0, 0))], .tup [I 0, I 0, I 0, I 4])
        else some ([(ldP 0 (fnOf Tryz.f28).ntmps rel28 .normal (st28 r (keepM r) p), .loop (lpB 0 (fnOf Tryz.f28).body), st28 r (keepM r) (0, 0, 0))], .tup [I p.2.1, I p.2.2, I (IntKind.i64.wrap ((r.length : Int) - (keepM r).length)), I 0])
      else none
    else none := by kernel_rfl
theorem body28e (r : List (Tup intK)) : bodyK ((cfg w0).at [c34, c98e]) 40 (fnOf Tryz.f28) [.vec intK r] =
    bif sm r then bif chkR r != 0 then some (.tup [I 0, I 0, I 0, I (chkR r)]) else
      bif (sm r && (kpB r && !r.isEmpty)) then some (.tup [I 0, I 0, I (IntKind.i64.wrap ((r.length : Int) - 0)), I 0]) else none
    else none := by kernel_rfl

def addS (a : Int × Int) (x : Tup intK) : Int × Int := (IntKind.i64.wrap (a.1 + i1 x), mx a.2 (i1 x))
def sumK (r : List (Tup intK)) : Int × Int := (keepM r).foldl addS (0, 0)
def tot28 (r : List (Tup intK)) : T4 := bif chkR r != 0 then (0, 0, 0, chkR r) else bif decide ((sumK r).1 > maxE) then (0, 0, 0, 4) else ((sumK r).1, (sumK r).2, IntKind.i64.wrap ((r.length : Int) - (keepM r).length), 0)
theorem keepM_le (r : List (Tup intK)) : (keepM r).length ≤ r.length := List.length_filter_le ..
theorem fn28 (h0 : Lib0 w0) (r : List (Tup intK)) (hg : sm r = true) : FnD (cfg w0) 28 [.vec intK r] (t4D (tot28 r)) := by
  have hl := sm_le hg
  have hk := keepM_le r
  unfold tot28
  cases hc : (chkR r != 0) with
  | true =>
    exact fnD_k (cfg_ok w0) h0 (cs := [c34, c98e]) ⟨gd34 h0, gd98e h0, trivial⟩ (fd := fnOf Tryz.f28) rfl ((body28e r).trans (by rw [hg, hc]; rfl))
  | false =>
    have hne : r.isEmpty = false := by
      cases r with
      | nil => cases hc
      | cons => rfl
    cases he : kpB r with
    | true =>
      have hkn : keepM r = [] := by unfold kpB at he; simpa using he
      have e1 : sumK r = (0, 0) := by unfold sumK; rw [hkn]; rfl
      rw [e1, hkn]
      exact fnD_k (cfg_ok w0) h0 (cs := [c34, c98e]) ⟨gd34 h0, gd98e h0, trivial⟩ (fd := fnOf Tryz.f28) rfl ((body28e r).trans (by rw [hg, hc, he, hne]; rfl))
    | false =>
      have hb := fun p : Int × Int × Int => body28 (w0 := w0) r p
      rw [hg, hc, he] at hb
      refine fn_ls h0 (cs := cs28) ⟨gd34 h0, gd98 h0, trivial⟩ (fd := fnOf Tryz.f28) rfl rel28 (keepM r) (by omega) (st28 r (keepM r)) (fun w a => (X.normal, addS a w)) (fun _ _ => True) (a0 := (0, 0)) trivial
        (fun j a hj _ => .leaf (by
          rw [round28, inO_nat hj, lt_t hj, Int.toNat_natCast]
          rfl)) (fun _ _ _ _ _ _ => trivial)
        (fun a _ => .leaf (by rw [round28, ge_f]; rfl)) fun x p hx => ?_
      rw [lsRun_fold (h := fun w b => addS b w) 0 (keepM r) 0 (0, 0) (fun _ _ _ => rfl)] at hx
      cases hx
      refine (hb _).trans ?_
      show (bif decide ((sumK r).1 > maxE) then _ else _) = some (_, t4D (bif decide ((sumK r).1 > maxE) then _ else _))
      cases decide ((sumK r).1 > maxE) <;> rfl
def c28 : Ct := ct 28 [.v intK] fun a => .br (sm a.1) (.leaf (t4D (tot28 a.1))) .bad
theorem gd28 (h0 : Lib0 w0) : Gd (cfg w0) c28 := gd_sig fun a d hd => by
  obtain ⟨hg, hd⟩ := br_run hd
  cases hd
  exact fn28 h0 a.1 hg


abbrev A4 := Int × Int × Int × Int
def rel103 : List (Nat × Cv) := [(0, .id), (2, .id), (6, .id), (7, .id), (8, .id)]
def st103 (l : List (Tup intK)) (f t : Int) (a : Int × A4) : List D := [.vec intK l, I t, .obox [I 0, I 0, I 0, I 0, I 0, I 0], .obox [I f, I t, I a.2.1, I a.2.2.1, I a.2.2.2.1, I a.2.2.2.2], I a.1]
def stepH (x j : Int) (a : A4) : A4 := bif x == -1 then (a.1, a.2.1, a.2.2.1, IntKind.i64.wrap (a.2.2.2 + 1)) else bif decide (x > a.2.1) then (IntKind.i64.wrap (a.1 + x), x, j, a.2.2.2) else (IntKind.i64.wrap (a.1 + x), a.2.1, a.2.2.1, a.2.2.2)
theorem round103 (l : List (Tup intK)) (f t j a b c e : Int) : rndD ((cfg w0).at []) 40 [] 40 (fnOf Tryz.f103).ntmps rel103 (lpB 0 (fnOf Tryz.f103).body) (st103 l f t (j, a, b, c, e)) =
    bif decide (j < t) then bif inO l j then
      bif i1 (nth l j.toNat) == -1 then some ([], .normal, st103 l f t (W (j + 1), a, b, c, IntKind.i64.wrap (e + 1))) else
      bif inO l j then bif inO l j then
        bif decide (i1 (nth l j.toNat) > b) then bif inO l j then some ([], .normal, st103 l f t (W (j + 1), IntKind.i64.wrap (a + i1 (nth l j.toNat)), i1 (nth l j.toNat), j, e)) else none
        else some ([], .normal, st103 l f t (W (j + 1), IntKind.i64.wrap (a + i1 (nth l j.toNat)), b, c, e))
      else none else none
    else none else some ([], .exit 0, st103 l f t (j, a, b, c, e)) := by kernel_rfl
theorem body103 (l : List (Tup intK)) (f t : Int) (p : Int × A4) : bodyT ((cfg w0).at []) 40 [ldP 0 (fnOf Tryz.f103).ntmps rel103 .normal (st103 l f t p)] 40 (fnOf Tryz.f103) [.vec intK l, I f, I t] =
    some ([(ldP 0 (fnOf Tryz.f103).ntmps rel103 .normal (st103 l f t p), .loop (lpB 0 (fnOf Tryz.f103).body), st103 l f t (f, 0, 0, f, 0))], .agg [I f, I t, I p.2.1, I p.2.2.1, I p.2.2.2.1, I p.2.2.2.2]) := by kernel_rfl
def hrd (l : List (Tup intK)) (f t : Nat) : A4 := (List.range' f (t - f)).foldl (fun a (j : Nat) => stepH (i1 (nth l j)) j a) (0, 0, (f : Int), 0)
def evA (f t : Int) (x : A4) : List D := [I f, I t, I x.1, I x.2.1, I x.2.2.1, I x.2.2.2]
theorem fn103 (h0 : Lib0 w0) (l : List (Tup intK)) (f t : Nat) (h1 : f ≤ t) (h2 : t ≤ l.length) (hl : l.length ≤ 100000) : FnD (cfg w0) 103 [.vec intK l, I f, I t] (.agg (evA f t (hrd l f t))) := by
  have hrun : rgRun 0 (fun (j : Nat) a => (X.normal, stepH (i1 (nth l j)) j a)) (t - f) f (0, 0, (f : Int), 0) = (.exit 0, (((f + (t - f) : Nat) : Int), hrd l f t)) := rgRun_fold 0 (h := fun (j : Nat) a => stepH (i1 (nth l j)) j a) _ _ _ (fun _ _ _ _ => rfl)
  have hld := ldT_rgs (at_ok (cfg_ok w0) []) (at_sp h0 (cs := []) trivial) (N := (fnOf Tryz.f103).ntmps) (rel := rel103) (B := lpB 0 (fnOf Tryz.f103).body) (id := 0) (k := t) (by omega) (st103 l f t) (fun (j : Nat) a => (X.normal, stepH (i1 (nth l j)) j a)) (fun _ _ => True)
    (fun j a hj _ => .leaf (by
      obtain ⟨a, b, c, e⟩ := a
      rw [round103, inO_nat (show j < l.length by omega), lt_t hj, Int.toNat_natCast]
      unfold stepH
      cases (i1 (nth l j) == -1)
      · cases decide (i1 (nth l j) > b) <;> rfl
      · rfl)) (fun _ _ _ _ _ _ => trivial)
    (fun a _ => .leaf (by obtain ⟨a, b, c, e⟩ := a; rw [round103, ge_f]; rfl)) (i0 := f) h1 (a0 := (0, 0, (f : Int), 0)) trivial hrun
  exact fnD_lp (cfg_ok w0) h0 (cs := []) trivial (fd := fnOf Tryz.f103) rfl (body103 l f t _) hld
def inH (f t n : Int) : Bool := decide (0 ≤ f) && (decide (f ≤ t) && decide (t ≤ n))
def c103 : Ct := ct 103 [.v intK, .c ik, .c ik] fun a => .br (sm a.1 && inH a.2.1 a.2.2.1 (a.1 : List (Tup intK)).length) (.leaf (.agg (evA a.2.1 a.2.2.1 (hrd a.1 (Int.toNat a.2.1) (Int.toNat a.2.2.1))))) .bad
theorem gd103 (h0 : Lib0 w0) : Gd (cfg w0) c103 := gd_sig fun a d hd => by
  obtain ⟨l, f, t, u⟩ := a
  obtain ⟨hg, hd⟩ := br_run hd
  cases hd
  have hg : (sm l && inH f t (l : List (Tup intK)).length) = true := hg
  simp only [inH, Bool.and_eq_true, decide_eq_true_eq] at hg
  obtain ⟨hg, a1, a2, a3⟩ := hg
  have hl := sm_le hg
  obtain ⟨f', rfl⟩ := Int.eq_ofNat_of_zero_le a1
  obtain ⟨t', rfl⟩ := Int.eq_ofNat_of_zero_le (show (0 : Int) ≤ t by exact Int.le_trans a1 a2)
  exact fn103 h0 l f' t' (by omega) (by omega) hl
def totR (l : List (Tup intK)) : T4 := bif decide ((hrd l 0 l.length).1 > maxE) then (0, 0, 0, 4) else ((hrd l 0 l.length).1, (hrd l 0 l.length).2.1, (hrd l 0 l.length).2.2.2, 0)
theorem run33 (l : List (Tup intK)) : bodyK ((cfg w0).at [c103]) 40 (fnOf Tryz.f33) [.vec intK l] = bif (sm l && inH 0 l.length l.length) then
    bif decide ((hrd l 0 l.length).1 > maxE) then some (.tup [I 0, I 0, I 0, I 4]) else some (.tup [I (hrd l 0 l.length).1, I (hrd l 0 l.length).2.1, I (hrd l 0 l.length).2.2.2, I 0]) else none := by kernel_rfl
def c33 : Ct := ct 33 [.v intK] fun a => .br (sm a.1) (.leaf (t4D (totR a.1))) .bad
theorem gd33 (h0 : Lib0 w0) : Gd (cfg w0) c33 := gd_k h0 (cs := [c103]) ⟨gd103 h0, trivial⟩ (fd := fnOf Tryz.f33) rfl (n := 40) fun a d hd => by
  obtain ⟨l, u⟩ := a
  obtain ⟨hg, hd⟩ := br_run hd
  cases hd
  refine (run33 l).trans ?_
  have hg : sm l = true := hg
  rw [hg, show inH 0 (l : List (Tup intK)).length (l : List (Tup intK)).length = true by simp [inH]]
  show (bif decide ((hrd l 0 (l : List (Tup intK)).length).1 > maxE) then _ else _) = some (t4D (totR l))
  unfold totR
  cases decide ((hrd l 0 (l : List (Tup intK)).length).1 > maxE) <;> rfl
end
end Go.Proofs.YtifnpljmjhnbaaaGreatDoor
