/-
 A part of the proof of the statement that the claim names: see the last file.
-/
import Derived.Test.YtmlglimahbjgbaaGreatDoorW2
namespace Go.Proofs.YtmlglimahbjgbaaGreatDoor
open Go Go.Am Go.Town
set_option maxRecDepth 100000
variable {w0 : World}
noncomputable section
abbrev bxK : List Kd := [ik, ik, ik, ik]
def mxI (a b : Int) : Int := if b > a then b else a
def mnI (a b : Int) : Int := if b < a then b else a
def outR (ax ay bx by' fx fy tx ty : Int) : Bool := decide (mxI ax bx < fx) || (decide (mnI ax bx > tx) || (decide (mxI ay by' < fy) || decide (mnI ay by' > ty)))
def outW (x : Tup bxK) (w : Tup wallK) : Bool := outR w.2.1 w.2.2.1 w.2.2.2.1 w.2.2.2.2.1 x.1 x.2.1 x.2.2.1 x.2.2.2.1
def bxs (x : Tup bxK) : List D := [I x.1, I x.2.1, I x.2.2.1, I x.2.2.2.1]
def o1 (ax bx fx : Int) : Bool := decide ((if bx > ax then bx else ax) < fx)
def o2 (ax bx tx : Int) : Bool := decide ((if bx < ax then bx else ax) > tx)
theorem run143 (w : Tup wallK) (x : Tup bxK) : bodyK ((cfg w0).at []) 40 (fnOf Tryz.f143) [wA w, .box (bxs x)] =
  bif o1 w.2.1 w.2.2.2.1 x.1 then some (Bo true) else bif o2 w.2.1 w.2.2.2.1 x.2.2.1 then some (Bo true) else bif o1 w.2.2.1 w.2.2.2.2.1 x.2.1 then some (Bo true) else
   some (Bo (o2 w.2.2.1 w.2.2.2.2.1 x.2.2.2.1)) := by kernel_rfl
theorem fn143 (h0 : Lib0 w0) (w : Tup wallK) (x : Tup bxK) : FnD (cfg w0) 143 [wA w, .box (bxs x)] (Bo (outW x w)) :=
 fnD_k (cfg_ok w0) h0 (cs := []) trivial (fd := fnOf Tryz.f143) rfl (n := 40) ((run143 w x).trans (by
  have e : outW x w = (o1 w.2.1 w.2.2.2.1 x.1 || (o2 w.2.1 w.2.2.2.1 x.2.2.1 || (o1 w.2.2.1 w.2.2.2.2.1 x.2.1 || o2 w.2.2.1 w.2.2.2.2.1 x.2.2.2.1))) := rfl
  rw [e]
  cases o1 w.2.1 w.2.2.2.1 x.1 <;> cases o2 w.2.1 w.2.2.2.1 x.2.2.1 <;> cases o1 w.2.2.1 w.2.2.2.2.1 x.2.1 <;> rfl))
def c143 : Ct := ct 143 [.b wallK, .r bxK] fun a => .leaf (Bo (outW a.2.1 a.1))
theorem gd143 (h0 : Lib0 w0) : Gd (cfg w0) c143 := gd_sig fun a d hd => by cases hd; exact fn143 h0 a.1 a.2.1
def fnd (p : Nat → Bool) : Nat → Nat → Option Nat
 | 0, _ => none
 | f + 1, i => bif p i then some i else fnd p f (i + 1)
theorem rgRun_fnd {id : Nat} {p : Nat → Bool} : ∀ (f i : Nat) (a : Int), rgRun id (fun j (a : Int) => bif p j then (X.ret, (j : Int)) else (.normal, a)) f i a = match fnd p f i with
  | some q => (.ret, ((q : Int), (q : Int)))
  | none => (.exit id, (((i + f : Nat) : Int), a))
 | 0, i, a => rfl
 | f + 1, i, a => by
   unfold rgRun fnd
   cases hp : p i with
   | true => rfl
   | false =>
     simp only [cond_false]
     rw [rgRun_fnd f (i + 1) a, show i + 1 + f = i + (f + 1) by omega]
theorem fnd_none {p : Nat → Bool} : ∀ {f i : Nat}, fnd p f i = none → ∀ j, i ≤ j → j < i + f → p j = false
 | 0, i, _, j, h1, h2 => by omega
 | f + 1, i, h, j, h1, h2 => by
   unfold fnd at h
   cases hp : p i with
   | true => rw [hp] at h; cases h
   | false =>
     rw [hp] at h
     rcases Nat.eq_or_lt_of_le h1 with rfl | h3
     ·exact hp
     ·exact fnd_none (f := f) (i := i + 1) h j h3 (by omega)
theorem fnd_some {p : Nat → Bool} : ∀ {f i q : Nat}, fnd p f i = some q → i ≤ q ∧ q < i + f ∧ p q = true ∧ ∀ j, i ≤ j → j < q → p j = false
 | 0, i, q, h => by cases h
 | f + 1, i, q, h => by
   unfold fnd at h
   cases hp : p i with
   | true => rw [hp] at h; cases h; exact ⟨Nat.le_refl _, by omega, hp, fun j h1 h2 => by omega⟩
   | false =>
     rw [hp] at h
     obtain ⟨a, b, c, d⟩ := fnd_some (f := f) (i := i + 1) h
     refine ⟨by omega, by omega, c, fun j h1 h2 => ?_⟩
     rcases Nat.eq_or_lt_of_le h1 with rfl | h3
     ·exact hp
     ·exact d j h3 h2
def fn143D (x : Tup bxK) : D := .fn 143 [] [.box (bxs x)]
def rel180 : List (Nat × Cv) := [(0, .id), (1, .id), (7, .id), (8, .id), (4, .id)]
def st180 (l : List (Tup wallK)) (x : Tup bxK) (a : Int × Int) : List D := [.vec wallK l, fn143D x, I l.length, I a.1, I a.2]
def cs180 : List Ct := [c143]
theorem round180 (l : List (Tup wallK)) (x : Tup bxK) (j r : Int) : rndD ((cfg w0).at cs180) 40 [] 40 (fnOf Tryz.f180).ntmps rel180 (lpB 0 (fnOf Tryz.f180).body) (st180 l x (j, r)) =
  bif decide (j < l.length) then
   bif (Nat.beq 7 7 && (decide (0 ≤ j) && decide (j < l.length))) then
    bif outW x (nth l (j.toNat + 0)) then some ([], .ret, st180 l x (j, j)) else some ([], .normal, st180 l x (W (j + 1), r))
   else none
  else some ([], .exit 0, st180 l x (j, r)) := by kernel_rfl
theorem body180 (l : List (Tup wallK)) (b : Tup bxK) (x : X) (p : Int × Int) (hx : x = .ret ∨ x = .normal) : bodyT ((cfg w0).at cs180) 40 [ldP 0 (fnOf Tryz.f180).ntmps rel180 x (st180 l b p)] 40 (fnOf Tryz.f180) [.vec wallK l, fn143D b] =
  some ([(ldP 0 (fnOf Tryz.f180).ntmps rel180 x (st180 l b p), .loop (lpB 0 (fnOf Tryz.f180).body), st180 l b (0, 0))], onX x (I p.2) (I (-1))) := by
 rcases hx with rfl | rfl <;> kernel_rfl
def idx180 (l : List (Tup wallK)) (x : Tup bxK) : Int := match fnd (fun j => outW x (nth l j)) l.length 0 with
 | some q => q
 | none => -1
theorem fn180 (h0 : Lib0 w0) (l : List (Tup wallK)) (b : Tup bxK) (hl : l.length ≤ 100000) : FnD (cfg w0) 180 [.vec wallK l, fn143D b] (I (idx180 l b)) := by
 refine fn_rg h0 (cs := cs180) ⟨gd143 h0, trivial⟩ (fd := fnOf Tryz.f180) rfl rel180 l.length (by omega) (st180 l b) (fun j a => bif outW b (nth l j) then (X.ret, (j : Int)) else (.normal, a)) (fun _ _ => True) (a0 := 0) trivial
  (fun j a hj _ => .leaf (by
   rw [round180, inb 7 hj, lt_t hj, Int.toNat_natCast, Nat.add_zero]
   cases outW b (nth l j) <;> rfl)) (fun _ _ _ _ _ _ => trivial)
  (fun a _ => .leaf (by rw [round180, ge_f]; rfl)) fun x p hx => ?_
 rw [rgRun_fnd (p := fun j => outW b (nth l j))] at hx
 unfold idx180
 cases hf : fnd (fun j => outW b (nth l j)) l.length 0 with
 | none => rw [hf] at hx; cases hx; exact body180 l b _ _ (.inr rfl)
 | some q => rw [hf] at hx; cases hx; exact body180 l b _ _ (.inl rfl)
def as143 (d : D) : Option (Tup bxK) :=
 match d with
 | .fn 143 [] [.box [.val (.int .i64 a), .val (.int .i64 b), .val (.int .i64 c), .val (.int .i64 e)]] => some (a, b, c, e, ())
 | _ => none
theorem as143_eq {d : D} {x : Tup bxK} (h : as143 d = some x) : d = fn143D x := by
 unfold as143 at h
 split at h
 ·cases h; rfl
 ·cases h
def c180 : Ct := ct 180 [.v wallK, .x] fun a => match as143 a.2.1 with
 | some x => .br (Nat.ble (a.1 : List (Tup wallK)).length 100000) (.leaf (I (idx180 a.1 x))) .bad
 | none => .bad
theorem gd180 (h0 : Lib0 w0) : Gd (cfg w0) c180 := gd_sig fun a d hd => by
 obtain ⟨l, f, u⟩ := a
 simp only at hd
 cases hb : as143 f with
 | none => rw [hb] at hd; cases hd
 | some p =>
   rw [hb] at hd
   obtain ⟨hg, hd⟩ := br_run hd
   cases hd
   cases as143_eq hb
   exact fn180 h0 l p (Nat.le_of_ble_eq_true hg)
def fn143O (x : Tup bxK) : D := .fn 143 [] [.obox (bxs x)]
def cs142 : List Ct := [c180, c143]
theorem cs142_gd (h0 : Lib0 w0) : Gds (cfg w0) cs142 := ⟨gd180 h0, gd143 h0, trivial⟩
def rel142 : List (Nat × Cv) := [(0, .id), (1, .id), (6, .id), (5, .id)]
def st142 (x : Tup bxK) (a : Int × (Int × List (Tup wallK))) : List D := [.ovec wallK a.2.2, fn143O x, I a.1, I a.2.1]
theorem round142 (x : Tup bxK) (j i : Int) (l : List (Tup wallK)) : rndD ((cfg w0).at cs142) 40 [] 40 (fnOf Tryz.f142).ntmps rel142 (lpB 0 (fnOf Tryz.f142).body) (st142 x (j, (i, l))) =
  bif decide (j < l.length) then
   bif (Nat.beq 7 7 && (decide (0 ≤ j) && decide (j < l.length))) then
    bif !outW x (nth l (j.toNat + 0)) then
     bif (Nat.beq 7 7 && (decide (0 ≤ i) && decide (i < l.length))) then some ([], .normal, st142 x (W (j + 1), (W (i + 1), l.set (i.toNat + 0) (nth l (j.toNat + 0))))) else none
    else some ([], .normal, st142 x (W (j + 1), (i, l)))
   else none
  else some ([], .exit 0, st142 x (j, (i, l))) := by kernel_rfl
def ld142 (x : Tup bxK) (p : Int × (Int × List (Tup wallK))) : Ld := ldP 0 (fnOf Tryz.f142).ntmps rel142 .normal (st142 x p)
def fin142 (l' : List (Tup wallK)) (i : Nat) : List (Tup wallK) := ((setAt l' (0 + i) (List.replicate (l'.length - i) (dfl wallK))).drop 0).take i
def cut1 (i n : Int) : Bool := decide (0 ≤ i) && (decide (i ≤ n) && decide (n ≤ n))
def cut2 (i n : Int) : Bool := decide ((0 : Int) ≤ 0) && (decide (0 ≤ i) && decide (i ≤ n))
theorem body142a (x : Tup bxK) (l : List (Tup wallK)) (j : Int) (k : Nat) (l' : List (Tup wallK)) : bodyT ((cfg w0).at cs142) 40 [ld142 x (j, (((k + 1 : Nat) : Int), l'))] 40 (fnOf Tryz.f142) [.ovec wallK l, fn143O x] =
  bif Nat.ble l.length 100000 then
   bif idx180 l x == -1 then some ([], .vec wallK l)
   else bif cut1 ((k + 1 : Nat) : Int) l'.length then bif cut2 ((k + 1 : Nat) : Int) l'.length then
    some ([(ld142 x (j, (((k + 1 : Nat) : Int), l')), .loop (lpB 0 (fnOf Tryz.f142).body), st142 x (W (idx180 l x + 1), (idx180 l x, l)))], .vec wallK (fin142 l' (k + 1))) else none else none
  else none := by kernel_rfl
theorem body142b (x : Tup bxK) (l : List (Tup wallK)) (j : Int) (y : Tup wallK) (l' : List (Tup wallK)) : bodyT ((cfg w0).at cs142) 40 [ld142 x (j, (0, y :: l'))] 40 (fnOf Tryz.f142) [.ovec wallK l, fn143O x] =
  bif Nat.ble l.length 100000 then
   bif idx180 l x == -1 then some ([], .vec wallK l)
   else bif cut1 0 (y :: l').length then
    some ([(ld142 x (j, (0, y :: l')), .loop (lpB 0 (fnOf Tryz.f142).body), st142 x (W (idx180 l x + 1), (idx180 l x, l)))], .emp 7) else none
  else none := by kernel_rfl
theorem rgRun_inv {α : Type} {id : Nat} {step : Nat → α → X × α} {inv : Nat → α → Prop} : ∀ (f i : Nat) (a : α), inv i a → (∀ j b, i ≤ j → j < i + f → inv j b → ∃ b', step j b = (.normal, b') ∧ inv (j + 1) b') → ∃ b, rgRun id step f i a = (.exit id, (((i + f : Nat) : Int), b)) ∧ inv (i + f) b
 | 0, i, a, h, _ => ⟨a, rfl, h⟩
 | f + 1, i, a, h, hs => by
   obtain ⟨b, h1, h2⟩ := hs i a (Nat.le_refl _) (by omega) h
   obtain ⟨c, h3, h4⟩ := rgRun_inv (id := id) f (i + 1) b h2 (fun j b hj hj2 hb => hs j b (by omega) (by omega) hb)
   refine ⟨c, ?_, by rw [show i + (f + 1) = i + 1 + f by omega]; exact h4⟩
   unfold rgRun
   rw [h1]
   simp only
   rw [h3, show i + 1 + f = i + (f + 1) by omega]
def keepW (x : Tup bxK) (l : List (Tup wallK)) : List (Tup wallK) := l.filter (fun w => !outW x w)
def step142 (x : Tup bxK) (j : Nat) (a : Int × List (Tup wallK)) : X × (Int × List (Tup wallK)) :=
 (.normal, bif !outW x (nth a.2 j) then (W (a.1 + 1), a.2.set a.1.toNat (nth a.2 j)) else a)
def inv142 (x : Tup bxK) (l : List (Tup wallK)) (j : Nat) (a : Int × List (Tup wallK)) : Prop :=
 ∃ i : Nat, a.1 = (i : Int) ∧ i < j ∧ a.2.length = l.length ∧ a.2.take i = keepW x (l.take j) ∧ a.2.drop j = l.drop j
theorem nth_eq {l : List (Tup wallK)} {j : Nat} (h : j < l.length) : nth l j = l[j] := by simp [nth, h]
theorem keep_snoc {x : Tup bxK} {l : List (Tup wallK)} {j : Nat} (h : j < l.length) : keepW x (l.take (j + 1)) = keepW x (l.take j) ++ (bif !outW x (nth l j) then [nth l j] else []) := by
 unfold keepW
 rw [List.take_add_one, List.filter_append]
 congr 1
 rw [List.getElem?_eq_getElem h, nth_eq h]
 simp only [Option.toList_some, List.filter_cons, List.filter_nil]
 cases outW x l[j] <;> rfl
theorem inv142_step {x : Tup bxK} {l : List (Tup wallK)} (hl : l.length ≤ 100000) {j : Nat} (hj : j < l.length) {a : Int × List (Tup wallK)} (h : inv142 x l j a) : ∃ b, step142 x j a = (.normal, b) ∧ inv142 x l (j + 1) b := by
 obtain ⟨i, h1, h2, h3, h4, h5⟩ := h
 obtain ⟨a1, m⟩ := a
 simp only at h1 h3 h4 h5
 subst h1
 have hm : nth m j = nth l j := by
  have := congrArg (fun t => t[0]?) h5
  simp only [List.getElem?_drop, Nat.add_zero] at this
  rw [List.getElem?_eq_getElem (by omega), List.getElem?_eq_getElem hj] at this
  rw [nth_eq (by omega), nth_eq hj]
  exact Option.some.inj this
 have hd : m.drop (j + 1) = l.drop (j + 1) := by
  have := congrArg (fun t => t.drop 1) h5
  simpa only [List.drop_drop] using this
 refine ⟨_, rfl, ?_⟩
 simp only
 rw [hm]
 cases hb : (!outW x (nth l j)) with
 | false =>
   simp only [cond_false]
   exact ⟨i, rfl, by omega, h3, by rw [keep_snoc hj, hb, h4]; simp, hd⟩
 | true =>
   simp only [cond_true]
   refine ⟨i + 1, W_nat (by omega), by omega, by simp [h3], ?_, ?_⟩
   ·rw [keep_snoc hj, hb, ← h4]
    simp only [Int.toNat_natCast, cond_true]
    rw [List.take_add_one, List.take_set_of_le (Nat.le_refl _)]
    congr 1
    rw [List.getElem?_set_self (by omega)]
    rfl
   ·simp only [Int.toNat_natCast]
    rw [List.drop_set_of_lt (by omega)]
    exact hd
theorem rd142 (x : Tup bxK) {l : List (Tup wallK)} (j : Nat) (a : Int × List (Tup wallK)) (hj : j < l.length) (h : inv142 x l j a) :
  RdOK ((cfg w0).at cs142) (fnOf Tryz.f142).ntmps rel142 (lpB 0 (fnOf Tryz.f142).body) (st142 x ((j : Int), a)) (step142 x j a).1 (st142 x (nx j (step142 x j a))) := by
 obtain ⟨i, h1, h2, h3, h4, h5⟩ := h
 obtain ⟨a1, m⟩ := a
 simp only at h1 h3
 subst h1
 have hjm : j < m.length := by omega
 exact .leaf (by
  rw [round142, inb 7 hjm, lt_t hjm, Int.toNat_natCast, Int.toNat_natCast, Nat.add_zero, Nat.add_zero, inb 7 (show i < m.length by omega)]
  unfold step142
  simp only [cond_true]
  cases hb : (!outW x (nth m j)) with
  | false => rfl
  | true => rfl)
theorem take_fin {l' : List (Tup wallK)} {i : Nat} (h : i ≤ l'.length) : fin142 l' i = l'.take i := by
 unfold fin142 setAt
 rw [List.drop_zero, Nat.zero_add, List.take_append_of_le_length (by simp; omega), List.take_take, Nat.min_self]
theorem idx_none {l : List (Tup wallK)} {x : Tup bxK} (h : (idx180 l x == -1) = true) : keepW x l = l := by
 unfold idx180 at h
 cases hf : fnd (fun j => outW x (nth l j)) l.length 0 with
 | some q => rw [hf] at h; simp only [beq_iff_eq] at h; omega
 | none =>
   have := fnd_none hf
   unfold keepW
   rw [List.filter_eq_self]
   intro w hw
   obtain ⟨j, hj, rfl⟩ := List.getElem_of_mem hw
   have h1 : outW x (nth l j) = false := this j (by omega) (by omega)
   rw [nth_eq hj] at h1
   rw [h1]; rfl
def del142 (l : List (Tup wallK)) (x : Tup bxK) : FT D :=
 .br (Nat.ble l.length 100000) (.br (idx180 l x == -1) (.leaf (.vec wallK l)) (.br (keepW x l).isEmpty (.leaf (.emp 7)) (.leaf (.vec wallK (keepW x l))))) .bad
theorem fn142 (h0 : Lib0 w0) (l : List (Tup wallK)) (x : Tup bxK) {d : D} (hd : (del142 l x).run = some d) : FnM (cfg w0) 142 [.ovec wallK l, fn143O x] d := by
 unfold del142 at hd
 obtain ⟨hg, hd⟩ := br_run hd
 have hl := Nat.le_of_ble_eq_true hg
 have mv := fun {L : List Ld} {o : Obs} {d : D} (hb : bodyT ((cfg w0).at cs142) 40 L 40 (fnOf Tryz.f142) [.ovec wallK l, fn143O x] = some (o, d)) (hO : Owed ((cfg w0).at cs142) o) =>
  FnM.sy (bodyT_move (C := (cfg w0).at cs142) (at_ok (cfg_ok w0) cs142) (at_sp h0 (cs142_gd h0)) (g := 142) (fd := fnOf Tryz.f142) rfl hb hO)
 cases hi : (idx180 l x == -1) with
 | true =>
   rw [hi] at hd
   cases hd
   exact mv ((body142a x l 0 0 []).trans (by rw [hg, hi]; rfl)) (by exact trivial)
 | false =>
   rw [hi] at hd
   replace hd : (FT.br (keepW x l).isEmpty (.leaf (.emp 7)) (.leaf (D.vec wallK (keepW x l)))).run = some d := hd
   unfold idx180 at hi
   cases hf : fnd (fun j => outW x (nth l j)) l.length 0 with
   | none => rw [hf] at hi; cases hi
   | some q =>
     have hidx : idx180 l x = (q : Int) := by unfold idx180; rw [hf]
     obtain ⟨_, q1, q2, q3⟩ := fnd_some hf
     rw [Nat.zero_add] at q1
     have hi' : ((q : Int) == -1) = false := by rw [hf] at hi; exact hi
     have hk0 : l.take q = keepW x (l.take (q + 1)) := by
      have e1 : keepW x (l.take q) = l.take q := by
       unfold keepW
       rw [List.filter_eq_self]
       intro w hw
       obtain ⟨j, hj, rfl⟩ := List.mem_take_iff_getElem.1 hw
       have h1 : outW x (nth l j) = false := q3 j (by omega) (by omega)
       rw [nth_eq (by omega)] at h1
       rw [h1]; rfl
      have q2' : outW x (nth l q) = true := q2
      rw [keep_snoc q1, q2', e1]; simp
     have hinv0 : inv142 x l (q + 1) ((q : Int), l) := ⟨q, rfl, by omega, rfl, hk0, rfl⟩
     obtain ⟨b, hrun, hinv⟩ := rgRun_inv (id := 0) (step := step142 x) (inv := inv142 x l) (l.length - (q + 1)) (q + 1) ((q : Int), l) hinv0 (fun j b _ hj hb => inv142_step hl (by omega) hb)
     have hld := ldT_rgs (at_ok (cfg_ok w0) cs142) (at_sp h0 (cs142_gd h0)) (N := (fnOf Tryz.f142).ntmps) (rel := rel142) (B := lpB 0 (fnOf Tryz.f142).body) (id := 0) (k := l.length) (by omega) (st142 x) (step142 x) (inv142 x l)
      (fun j a hj ha => rd142 x j a hj ha) (fun j a a' hj ha h => by
       obtain ⟨b, h1, h2⟩ := inv142_step hl hj ha
       rw [h1] at h; cases h; exact h2)
      (fun a ⟨i, _, _, h3, _⟩ => .leaf (by
       obtain ⟨a1, m⟩ := a
       simp only at h3
       rw [round142, ← h3, ge_f]; rfl)) (i0 := q + 1) (by omega) hinv0 hrun
     rw [show q + 1 + (l.length - (q + 1)) = l.length by omega] at hinv hld
     obtain ⟨i, h1, h2, h3, h4, _⟩ := hinv
     obtain ⟨b1, m⟩ := b
     simp only at h1 h3 h4
     subst h1
     rw [List.take_length] at h4
     have hpre : st142 x (W (idx180 l x + 1), (idx180 l x, l)) = st142 x (((q + 1 : Nat) : Int), ((q : Int), l)) := by rw [hidx, W_nat (by omega)]
     cases i with
     | zero =>
       have he : (keepW x l).isEmpty = true := by rw [← h4]; rfl
       rw [he] at hd
       cases hd
       cases m with
       | nil => simp at h3; omega
       | cons y ys =>
         have hc : cut1 0 (y :: ys).length = true := by unfold cut1; simp only [Bool.and_eq_true, decide_eq_true_eq]; omega
         exact mv ((body142b x l (l.length : Int) y ys).trans (by rw [hg, hidx, hi', hc]; rfl)) (by
          refine ⟨?_, trivial⟩
          rw [← hidx, hpre]
          exact hld)
     | succ k =>
       have hne : (keepW x l).isEmpty = false := by
        rw [← h4]
        cases m with
        | nil => simp at h3; omega
        | cons y ys => rfl
       rw [hne] at hd
       cases hd
       have hc : cut1 ((k + 1 : Nat) : Int) m.length = true := by unfold cut1; simp only [Bool.and_eq_true, decide_eq_true_eq]; omega
       have hc2 : cut2 ((k + 1 : Nat) : Int) m.length = true := by unfold cut2; simp only [Bool.and_eq_true, decide_eq_true_eq]; omega
       rw [← h4, ← take_fin (by omega)]
       exact mv ((body142a x l (l.length : Int) k m).trans (by rw [hg, hidx, hi', hc, hc2]; rfl)) (by
        refine ⟨?_, trivial⟩
        rw [← hidx, hpre]
        exact hld)
end
end Go.Proofs.YtmlglimahbjgbaaGreatDoor
namespace Go.Proofs.YtmlglimahbjgbaaGreatDoor
open Go Go.Am Go.Town
set_option maxRecDepth 100000
variable {w0 : World}
noncomputable section
def as143O (d : D) : Option (Tup bxK) :=
 match d with
 | .fn 143 [] [.obox [.val (.int .i64 a), .val (.int .i64 b), .val (.int .i64 c), .val (.int .i64 e)]] => some (a, b, c, e, ())
 | _ => none
theorem as143O_eq {d : D} {x : Tup bxK} (h : as143O d = some x) : d = fn143O x := by
 unfold as143O at h
 split at h
 ·cases h; rfl
 ·cases h
def F142 (ds : List D) : FT D :=
 match ds with
 | [.ovec ks l, f] => match recast ks wallK l, as143O f with
   | some l, some x => del142 l x
   | _, _ => .bad
 | _ => .bad
theorem F142_ok (h0 : Lib0 w0) (ds : List D) (d : D) (h : (F142 ds).run = some d) : FnM (cfg w0) 142 ds d := by
 unfold F142 at h
 split at h
 ·split at h
  ·rename_i hr hx
   obtain ⟨e, rfl⟩ := recast_eq hr
   subst e
   cases as143O_eq hx
   exact fn142 h0 _ _ h
  ·cases h
 ·cases h
def hs142 : List (Nat × (List Value → Heap → FT (Value × Heap))) := [(142, mvF F142)]
theorem hs142_gd (h0 : Lib0 w0) : GdsH (cfg w0) hs142 := ⟨fun _ _ _ _ hv => callM_sound (F := F142) (fun ds d hd => F142_ok h0 ds d hd) hv, trivial⟩
def cfgD (w0 : World) : Cfg := (cfg w0).onH hs142
theorem cfgD_ok (w0 : World) : CfgOk (cfgD w0) := Cfg.onH_ok (cfg_ok w0) hs142
theorem cfgD_sp (h0 : Lib0 w0) : SpecOK (cfgD w0) := specs_onH h0 (hs142_gd h0)
def bxA (x : Tup bxK) : D := .agg (bxs x)
def cs68 : List Ct := [checkC 38, ⟨100, tG checkPointF⟩, firstC 98, ⟨119, tG whenF⟩]
theorem cs68_gd (h0 : Lib0 w0) : Gds (cfgD w0) cs68 := Gds.onH (C := cfg w0) ⟨gd38 h0, gd_of (checkPoint_good h0), gd98 h0, gd_of (when_good h0), trivial⟩
def cpy (l : List (Tup wallK)) : List (Tup wallK) := setAt (List.replicate ((l.length : Int).toNat) (dfl wallK)) 0 (List.take (Nat.min l.length ((l.length : Int).toNat)) l)
theorem cpy_eq (l : List (Tup wallK)) : cpy l = l := by
 unfold cpy setAt
 simp only [Int.toNat_natCast, Nat.zero_add, List.take_zero, List.nil_append]
 have : Nat.min l.length l.length = l.length := Nat.min_self _
 rw [this, List.take_length, List.drop_eq_nil_of_le (by simp), List.append_nil]
def e68b (l : List (Tup wallK)) (x : Tup bxK) (t : Bool) : Int := firstZ [chkAllW l, chkPoint x.1 x.2.1, chkPoint x.2.2.1 x.2.2.2.1, whenZ t 11]
def gtI (a b : Int) : Bool := decide (a > b)
def e68 (l : List (Tup wallK)) (x : Tup bxK) : Int := e68b l x (gtI x.1 x.2.2.1 || gtI x.2.1 x.2.2.2.1)
def mk68 (n : Int) : Bool := decide (0 ≤ n) && (decide (n = n) && (decide (n ≤ 10000000) && (Nat.ble (n.toNat * 7) 10000000 && Nat.ble (n.toNat * 64) 1000000000000)))
def tail68 (l : List (Tup wallK)) (x : Tup bxK) : Option D :=
 bif mk68 l.length then bif Nat.ble (cpy l).length 100000 then
  bif idx180 (cpy l) x == -1 then some (.tup [.vec wallK (cpy l), I 0])
  else bif (keepW x (cpy l)).isEmpty then some (.tup [.emp 7, I 0]) else some (.tup [.vec wallK (keepW x (cpy l)), I 0])
 else none else none
def mid68 (l : List (Tup wallK)) (x : Tup bxK) (t : Bool) : Option D := bif e68b l x t != 0 then some (.tup [.val (.slice none 0 0), I (e68b l x t)]) else tail68 l x
theorem run68 (l : List (Tup wallK)) (x : Tup bxK) : bodyK ((cfgD w0).at cs68) 40 (fnOf Tryz.f68) [.vec wallK l, bxA x] =
  bif gtI x.1 x.2.2.1 then mid68 l x true else mid68 l x (gtI x.2.1 x.2.2.2.1) := by kernel_rfl
def F68 (l : List (Tup wallK)) (x : Tup bxK) : FT D :=
 .br (e68 l x != 0) (.leaf (.tup [.vec wallK [], I (e68 l x)])) (.br (idx180 l x == -1) (.leaf (.tup [.vec wallK l, I 0])) (.br (keepW x l).isEmpty (.leaf (.tup [.emp 7, I 0])) (.leaf (.tup [.vec wallK (keepW x l), I 0]))))
theorem fn68 (h0 : Lib0 w0) (l : List (Tup wallK)) (x : Tup bxK) {d : D} (hd : (F68 l x).run = some d) : FnD (cfg w0) 68 [.vec wallK l, bxA x] d := by
 have hrun : bodyK ((cfgD w0).at cs68) 40 (fnOf Tryz.f68) [.vec wallK l, bxA x] = mid68 l x (gtI x.1 x.2.2.1 || gtI x.2.1 x.2.2.2.1) := (run68 l x).trans (by cases gtI x.1 x.2.2.1 <;> rfl)
 have go := fun {d : D} (h : bodyK ((cfgD w0).at cs68) 40 (fnOf Tryz.f68) [.vec wallK l, bxA x] = some d) => (show FnD (cfg w0) 68 [.vec wallK l, bxA x] d from fnD_k (C := cfgD w0) (cfgD_ok w0) (cfgD_sp h0) (cs68_gd h0) (fd := fnOf Tryz.f68) rfl h)
 have hee : e68b l x (gtI x.1 x.2.2.1 || gtI x.2.1 x.2.2.2.1) = e68 l x := rfl
 unfold F68 at hd
 simp only [FT.run] at hd
 cases he : (e68 l x != 0) with
 | true =>
   rw [he] at hd
   cases hd
   refine FnD.nil_vec (vs := [.int .i64 (e68 l x)]) rfl (by decide) (go (hrun.trans ?_))
   unfold mid68
   rw [hee, he]; rfl
 | false =>
   rw [he] at hd
   simp only [cond_false] at hd
   refine go (hrun.trans ?_)
   have hz : e68 l x = 0 := by simpa using he
   have hl : l.length ≤ 32 := by
    unfold e68 e68b at hz
    rw [firstZ_nil] at hz
    exact (chkAll_nil (hz (chkAllW l) (by simp))).1
   unfold mid68 tail68
   have hm : mk68 (l.length : Int) = true := by
    unfold mk68
    simp only [Bool.and_eq_true, decide_eq_true_eq, Nat.ble_eq, Int.toNat_natCast]
    exact ⟨by omega, trivial, by omega, by omega, by omega⟩
   rw [hee, he, cpy_eq, hm, Nat.ble_eq_true_of_le (show l.length ≤ 100000 by omega)]
   simp only [cond_false, cond_true]
   cases h1 : (idx180 l x == -1) with
   | true => rw [h1] at hd; cases hd; rfl
   | false =>
     rw [h1] at hd
     simp only [cond_false] at hd ⊢
     cases h2 : (keepW x l).isEmpty <;> rw [h2] at hd <;> cases hd <;> rfl
end
end Go.Proofs.YtmlglimahbjgbaaGreatDoor
