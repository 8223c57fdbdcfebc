/-
  A part of the proof of the statement that the claim names: see the last file.
-/
import Derived.Test.YtifnpljmjhnbaaaGreatDoorL5
import Derived.Test.YtifnpljmjhnbaaaGreatDoorAm4
namespace Go.Proofs.YtifnpljmjhnbaaaGreatDoor
open Go Go.Am
set_option maxRecDepth 100000
noncomputable section


def SU (f : Nat → Int) : Nat → Int
  | 0 => 0
  | n + 1 => SU f n + f n
theorem SU_congr {f g : Nat → Int} : ∀ {n : Nat}, (∀ i, i < n → f i = g i) → SU f n = SU g n
  | 0, _ => rfl
  | n + 1, h => by
    show SU f n + f n = SU g n + g n
    rw [SU_congr fun i hi => h i (by omega), h n (by omega)]
theorem SU_le {f g : Nat → Int} : ∀ {n : Nat}, (∀ i, i < n → f i ≤ g i) → SU f n ≤ SU g n
  | 0, _ => Int.le_refl _
  | n + 1, h => by
    show SU f n + f n ≤ SU g n + g n
    have := SU_le (n := n) fun i hi => h i (by omega)
    have := h n (by omega)
    omega
theorem SU_add (f g : Nat → Int) : ∀ n : Nat, SU (fun i => f i + g i) n = SU f n + SU g n
  | 0 => rfl
  | n + 1 => by
    show SU (fun i => f i + g i) n + (f n + g n) = SU f n + f n + (SU g n + g n)
    rw [SU_add f g n]; omega
theorem SU_mul (c : Int) (f : Nat → Int) : ∀ n : Nat, SU (fun i => c * f i) n = c * SU f n
  | 0 => (Int.mul_zero c).symm
  | n + 1 => by
    show SU (fun i => c * f i) n + c * f n = c * (SU f n + f n)
    rw [SU_mul c f n, Int.mul_add]
theorem SU_swap (h : Nat → Nat → Int) (n : Nat) : ∀ m : Nat, SU (fun d => SU (fun i => h d i) n) m = SU (fun i => SU (fun d => h d i) m) n
  | 0 => by
    have : ∀ n : Nat, SU (fun _ => (0 : Int)) n = 0 := fun n => by
      induction n with
      | zero => rfl
      | succ n ih => show SU _ n + 0 = 0; rw [ih]; rfl
    exact (this n).symm
  | m + 1 => by
    show SU (fun d => SU (fun i => h d i) n) m + SU (fun i => h m i) n = SU (fun i => SU (fun d => h d i) m + h m i) n
    rw [SU_swap h n m, SU_add]
theorem SU_shift (f : Nat → Int) : ∀ n : Nat, SU f (n + 1) = f 0 + SU (fun i => f (i + 1)) n
  | 0 => by show (0 : Int) + f 0 = f 0 + 0; omega
  | n + 1 => by
    show SU f (n + 1) + f (n + 1) = f 0 + (SU (fun i => f (i + 1)) n + f (n + 1))
    rw [SU_shift f n]; omega
theorem SU_rot1 (f : Nat → Int) (n : Nat) : SU (fun i => f ((i + 1) % n)) n = SU f n := by
  cases n with
  | zero => rfl
  | succ m =>
    rw [SU_shift f m]
    show SU (fun i => f ((i + 1) % (m + 1))) m + f ((m + 1) % (m + 1)) = _
    rw [Nat.mod_self, SU_congr (g := fun i => f (i + 1)) fun i hi => by
      show f ((i + 1) % (m + 1)) = f (i + 1)
      rw [Nat.mod_eq_of_lt (by omega)]]
    omega
theorem SU_rot (f : Nat → Int) (n : Nat) : ∀ s : Nat, SU (fun i => f ((i + s) % n)) n = SU f n
  | 0 => SU_congr fun i hi => by show f ((i + 0) % n) = f i; rw [Nat.add_zero, Nat.mod_eq_of_lt hi]
  | s + 1 => by
    have h := SU_rot1 (fun j => f ((j + s) % n)) n
    rw [SU_rot f n s] at h
    rw [← h]
    exact SU_congr fun i _ => by
      show f ((i + (s + 1)) % n) = f (((i + 1) % n + s) % n)
      rw [Nat.mod_add_mod, show i + 1 + s = i + (s + 1) by omega]

def CU (X : Nat → Int) (n k : Nat) : Int := SU (fun i => X i * X ((i + k) % n)) n
theorem CU_mod (X : Nat → Int) (n k : Nat) : CU X n (k % n) = CU X n k := SU_congr fun i _ => by rw [Nat.add_mod_mod]
theorem CU_opp (X : Nat → Int) (n k m : Nat) (h : (k + m) % n = 0) : CU X n k = CU X n m := by
  have h1 := SU_rot (fun j => X j * X ((j + k) % n)) n m
  show SU (fun j => X j * X ((j + k) % n)) n = _
  rw [← h1]
  refine SU_congr fun i hi => ?_
  show X ((i + m) % n) * X (((i + m) % n + k) % n) = X i * X ((i + m) % n)
  have e : (i + (k + m)) % n = i := by rw [← Nat.add_mod_mod, h, Nat.add_zero, Nat.mod_eq_of_lt hi]
  rw [Nat.mod_add_mod, show i + m + k = i + (k + m) by omega, e, Int.mul_comm]
theorem two_mul_le (a b : Int) : 2 * (a * b) ≤ a * a + b * b := by
  have h : 0 ≤ (a - b) * (a - b) := by
    rcases Int.le_total 0 (a - b) with h | h
    · exact Int.mul_nonneg h h
    · have := Int.mul_nonneg (show 0 ≤ -(a - b) by omega) (show 0 ≤ -(a - b) by omega)
      rwa [Int.neg_mul_neg] at this
  have e : (a - b) * (a - b) = a * a + b * b - 2 * (a * b) := by grind
  omega
theorem CU_le (X : Nat → Int) (n k : Nat) : CU X n k ≤ CU X n 0 := by
  have h0 : CU X n 0 = SU (fun i => X i * X i) n := SU_congr fun i hi => by rw [Nat.add_zero, Nat.mod_eq_of_lt hi]
  have h1 := SU_rot (fun i => X i * X i) n k
  have h2 : SU (fun i => 2 * (X i * X ((i + k) % n))) n ≤ SU (fun i => X i * X i + X ((i + k) % n) * X ((i + k) % n)) n := SU_le fun i _ => two_mul_le _ _
  rw [SU_mul, SU_add, h1, ← h0] at h2
  have : 2 * CU X n k ≤ CU X n 0 + CU X n 0 := h2
  omega
theorem SU_bd {f : Nat → Int} {c : Int} : ∀ {n : Nat}, (∀ i, i < n → -c ≤ f i ∧ f i ≤ c) → -(n * c) ≤ SU f n ∧ SU f n ≤ n * c
  | 0, _ => by show -(((0 : Nat) : Int) * c) ≤ 0 ∧ (0 : Int) ≤ ((0 : Nat) : Int) * c; rw [show ((0 : Nat) : Int) = 0 from rfl, Int.zero_mul]; omega
  | n + 1, h => by
    obtain ⟨h1, h2⟩ := SU_bd (n := n) fun i hi => h i (by omega)
    obtain ⟨h3, h4⟩ := h n (by omega)
    have e : ((n + 1 : Nat) : Int) * c = n * c + c := by rw [show ((n + 1 : Nat) : Int) = n + 1 from rfl, Int.add_mul, Int.one_mul]
    rw [e]
    show -(n * c + c) ≤ SU f n + f n ∧ SU f n + f n ≤ n * c + c
    omega
theorem mul_bd {a b A B : Int} (ha : -A ≤ a ∧ a ≤ A) (hb : -B ≤ b ∧ b ≤ B) : -(A * B) ≤ a * b ∧ a * b ≤ A * B := by
  have hA : 0 ≤ A := by omega
  have hB : 0 ≤ B := by omega
  have h1 := Int.mul_nonneg (show 0 ≤ A - a by omega) (show 0 ≤ B - b by omega)
  have h2 := Int.mul_nonneg (show 0 ≤ A + a by omega) (show 0 ≤ B + b by omega)
  have h3 := Int.mul_nonneg (show 0 ≤ A - a by omega) (show 0 ≤ B + b by omega)
  have h4 := Int.mul_nonneg (show 0 ≤ A + a by omega) (show 0 ≤ B - b by omega)
  have e1 : (A - a) * (B - b) = A * B - A * b - a * B + a * b := by grind
  have e2 : (A + a) * (B + b) = A * B + A * b + a * B + a * b := by grind
  have e3 : (A - a) * (B + b) = A * B + A * b - a * B - a * b := by grind
  have e4 : (A + a) * (B - b) = A * B - A * b + a * B - a * b := by grind
  constructor <;> omega
def YU (X : Nat → Int) (n b j : Nat) : Int := X ((j + (n - b)) % n)
theorem cor_ab (X : Nat → Int) (n b d : Nat) : SU (fun i => X i * YU X n b ((i + d) % n)) n = CU X n (d + (n - b)) := SU_congr fun i _ => by
  unfold YU
  rw [Nat.mod_add_mod, Nat.add_assoc]
theorem cor_ba (X : Nat → Int) (n b d : Nat) (hb : b < n) : SU (fun i => YU X n b i * X ((i + d) % n)) n = CU X n (d + b) := by
  have h := SU_rot (fun i => YU X n b i * X ((i + d) % n)) n b
  rw [← h]
  refine SU_congr fun i hi => ?_
  show YU X n b ((i + b) % n) * X (((i + b) % n + d) % n) = X i * X ((i + (d + b)) % n)
  unfold YU
  rw [Nat.mod_add_mod, Nat.mod_add_mod, show i + b + (n - b) = i + n by omega, Nat.add_mod_right, Nat.mod_eq_of_lt hi, show i + b + d = i + (d + b) by omega]
theorem cor_sum (X : Nat → Int) (n b : Nat) : SU (fun d => SU (fun i => X i * YU X n b ((i + d) % n)) n) n = SU X n * SU X n := by
  rw [SU_swap]
  rw [SU_congr (g := fun i => SU X n * X i)]
  · rw [SU_mul]
  · intro i _
    rw [SU_mul]
    have h1 : SU (fun d => YU X n b ((i + d) % n)) n = SU (YU X n b) n := by
      rw [← SU_rot (YU X n b) n i]
      exact SU_congr fun d _ => by rw [Nat.add_comm]
    have h2 : SU (YU X n b) n = SU X n := SU_rot X n (n - b)
    rw [h1, h2, Int.mul_comm]
end
end Go.Proofs.YtifnpljmjhnbaaaGreatDoor

namespace Go.Proofs.YtifnpljmjhnbaaaGreatDoor
open Go Go.Am
set_option maxRecDepth 100000
noncomputable section


theorem tmod_abs (a : Int) {k : Int} (hk : 0 < k) : -k < a.tmod k ∧ a.tmod k < k := by
  rcases Int.le_total 0 a with h | h
  · rw [Int.tmod_eq_emod_of_nonneg h]
    have := Int.emod_nonneg a (show k ≠ 0 by omega)
    have := Int.emod_lt_of_pos a hk
    omega
  · have e : a.tmod k = -((-a).tmod k) := by rw [Int.neg_tmod, Int.neg_neg]
    rw [e, Int.tmod_eq_emod_of_nonneg (show 0 ≤ -a by omega)]
    have := Int.emod_nonneg (-a) (show k ≠ 0 by omega)
    have := Int.emod_lt_of_pos (-a) hk
    omega
def XL (l : SL) (i : Nat) : Int := smx (nth l i)
theorem XL_bd (l : SL) (i : Nat) : -2000 ≤ XL l i ∧ XL l i ≤ 2000 := by
  have := tmod_abs (IntKind.i64.wrap (x1 (nth l i))) (k := 2001) (by omega)
  show -2000 ≤ (IntKind.i64.wrap (x1 (nth l i))).tmod 2001 ∧ (IntKind.i64.wrap (x1 (nth l i))).tmod 2001 ≤ 2000
  omega
theorem nth_setF {p : FL} {i : Nat} (hi : i < p.length) (v j : Nat) : nth (setF p (i : Int) v) j = if j = i then fT v else nth p j := by
  show nth (List.set p i (fT v)) j = _
  unfold nth
  rw [List.getD_eq_getElem?_getD, List.getElem?_set]
  by_cases h : j = i
  · subst h
    rw [if_pos rfl, if_pos hi, if_pos rfl]
    rfl
  · rw [if_neg (fun e => h e.symm), if_neg h, List.getD_eq_getElem?_getD]
theorem setF_len (p : FL) (i : Int) (v : Nat) : (setF p i v).length = p.length := List.length_set ..
def stepA (l : SL) (b : Int) (i : Nat) (a : S3') : S3' := (setF a.1 (i : Int) (smp (XL l i)), setF a.2.1 (ix11 l b (i : Int)) (f1 (nth (setF a.1 (i : Int) (smp (XL l i))) ((i : Int).toNat + 0))), IntKind.i64.wrap (a.2.2 + XL l i))
def foldA (l : SL) (b : Int) (m : Nat) : S3' := (List.range' 0 m).foldl (fun a i => stepA l b i a) (zF0 l, zF0 l, 0)
theorem foldA_succ (l : SL) (b : Int) (m : Nat) : foldA l b (m + 1) = stepA l b m (foldA l b m) := by
  unfold foldA
  rw [List.range'_concat, List.foldl_append]
  simp only [List.foldl_cons, List.foldl_nil, Nat.zero_add, Nat.one_mul]
theorem ix11_eq {l : SL} {b i : Nat} (hb : b < l.length) (hl : l.length ≤ 8) (hi : i < l.length) : ix11 l (b : Int) (i : Int) = (((i + b) % l.length : Nat) : Int) := by
  unfold ix11
  rw [W_id (by omega) (by omega), Int.tmod_eq_emod_of_nonneg (by omega), Int.natCast_emod, Int.natCast_add]
theorem modN (a n : Nat) (h : 0 < n) : a % n < n := Nat.mod_lt _ h
theorem rot_inj {n b i j : Nat} (hb : b < n) (hi : i < n) (hj : j < n) (h : (i + b) % n = (j + b) % n) : i = j := by
  rcases Nat.lt_or_ge (i + b) n with h1 | h1 <;> rcases Nat.lt_or_ge (j + b) n with h2 | h2
  · rw [Nat.mod_eq_of_lt h1, Nat.mod_eq_of_lt h2] at h; omega
  · rw [Nat.mod_eq_of_lt h1, Nat.mod_eq_sub_mod h2, Nat.mod_eq_of_lt (show j + b - n < n by omega)] at h; omega
  · rw [Nat.mod_eq_of_lt h2, Nat.mod_eq_sub_mod h1, Nat.mod_eq_of_lt (show i + b - n < n by omega)] at h; omega
  · rw [Nat.mod_eq_sub_mod h1, Nat.mod_eq_sub_mod h2, Nat.mod_eq_of_lt (show i + b - n < n by omega), Nat.mod_eq_of_lt (show j + b - n < n by omega)] at h; omega
structure FA (l : SL) (b m : Nat) (a : S3') : Prop where
  l1 : a.1.length = l.length
  l2 : a.2.1.length = l.length
  e1 : ∀ j, j < m → nth a.1 j = fT (smp (XL l j))
  e2 : ∀ j, j < m → nth a.2.1 ((j + b) % l.length) = fT (smp (XL l j))
  s : a.2.2 = SU (XL l) m
theorem foldA_ok {l : SL} {b : Nat} (hb : b < l.length) (hl : l.length ≤ 8) : ∀ m, m ≤ l.length → FA l b m (foldA l b m)
  | 0, _ => ⟨by show (zF0 l).length = _; simp [zF0], by show (zF0 l).length = _; simp [zF0], fun j hj => by omega, fun j hj => by omega, rfl⟩
  | m + 1, hm => by
    have ih := foldA_ok hb hl m (by omega)
    rw [foldA_succ]
    generalize foldA l b m = a at *
    have hix := ix11_eq (i := m) hb hl (by omega)
    have hlt := modN (m + b) l.length (by omega)
    have hg : f1 (nth (setF a.1 (m : Int) (smp (XL l m))) (((m : Nat) : Int).toNat + 0)) = smp (XL l m) := by
      rw [Int.toNat_natCast, Nat.add_zero, nth_setF (by rw [ih.l1]; omega), if_pos rfl]
      rfl
    refine ⟨(setF_len ..).trans ih.l1, (setF_len ..).trans ih.l2, fun j hj => ?_, fun j hj => ?_, ?_⟩
    · show nth (setF a.1 (m : Int) (smp (XL l m))) j = _
      rw [nth_setF (by rw [ih.l1]; omega)]
      by_cases h : j = m
      · rw [if_pos h, h]
      · rw [if_neg h, ih.e1 j (by omega)]
    · show nth (setF a.2.1 (ix11 l (b : Int) (m : Int)) (f1 (nth (setF a.1 (m : Int) (smp (XL l m))) (((m : Nat) : Int).toNat + 0)))) _ = _
      rw [hg, hix, nth_setF (by rw [ih.l2]; exact hlt)]
      by_cases h : j = m
      · rw [if_pos (by rw [h]), h]
      · rw [if_neg (fun e => h (rot_inj hb (by omega) (by omega) e)), ih.e2 j (by omega)]
    · show IntKind.i64.wrap (a.2.2 + XL l m) = SU (XL l) m + XL l m
      rw [ih.s]
      have h1 := SU_bd (f := XL l) (c := 2000) (n := m) fun i _ => XL_bd l i
      have h2 := XL_bd l m
      exact W_id (by omega) (by omega)
structure Win (l : SL) (b : Nat) (p q : FL) : Prop where
  hb : b < l.length
  h2 : 2 ≤ l.length
  h8 : l.length ≤ 8
  l1 : p.length = l.length
  l2 : q.length = l.length
  e1 : ∀ j, j < l.length → nth p j = fT (smp (XL l j))
  e2 : ∀ j, j < l.length → nth q j = fT (smp (YU (XL l) l.length b j))
theorem YU_bd (l : SL) (n b j : Nat) : -2000 ≤ YU (XL l) n b j ∧ YU (XL l) n b j ≤ 2000 := XL_bd ..
theorem rot_back {n b j : Nat} (hb : b < n) (hj : j < n) : ((j + (n - b)) % n + b) % n = j := by
  rw [Nat.mod_add_mod, show j + (n - b) + b = j + n by omega, Nat.add_mod_right, Nat.mod_eq_of_lt hj]
theorem win_ok {l : SL} {b : Nat} (hb : b < l.length) (h2 : 2 ≤ l.length) (hl : l.length ≤ 8) : Win l b (foldA l b l.length).1 (foldA l b l.length).2.1 := by
  have h := foldA_ok hb hl l.length (Nat.le_refl _)
  refine ⟨hb, h2, hl, h.l1, h.l2, h.e1, fun j hj => ?_⟩
  have := h.e2 ((j + (l.length - b)) % l.length) (modN _ _ (by omega))
  rw [rot_back hb hj] at this
  exact this
theorem allOk_of {p : FL} (h : ∀ j, j < p.length → isS (f1 (nth p j)) = true) : allOk p = true := List.all_eq_true.2 fun x hx => by
  obtain ⟨j, hj, rfl⟩ := List.getElem_of_mem hx
  have := h j hj
  rwa [show nth p j = p[j] by simp [nth, hj]] at this
theorem nth_mapF {p : FL} {j : Nat} (hj : j < p.length) : nth (p.map lvE) j = t1 (lvl (f1 (nth p j))) := by
  have e : nth p j = p[j] := by simp [nth, hj]
  rw [e]
  simp only [nth, List.getD_eq_getElem?_getD, List.getElem?_map, List.getElem?_eq_getElem hj, Option.map_some, Option.getD_some]
  rfl
variable {l : SL} {b : Nat} {p q : FL}
theorem Win.okp (w : Win l b p q) : smF p = true ∧ smF q = true ∧ okW p q = true ∧ okW q p = true := by
  have h1 : allOk p = true := allOk_of fun j hj => by
    rw [w.e1 j (by rw [← w.l1]; exact hj)]
    exact (smp_ok (XL_bd l j).1 (XL_bd l j).2).2.1
  have h2 : allOk q = true := allOk_of fun j hj => by
    rw [w.e2 j (by rw [← w.l2]; exact hj)]
    exact (smp_ok (YU_bd ..).1 (YU_bd ..).2).2.1
  have h8 := w.h8
  have k1 : smF p = true := (Nat.ble_eq ..).mpr (by rw [w.l1]; omega)
  have k2 : smF q = true := (Nat.ble_eq ..).mpr (by rw [w.l2]; omega)
  exact ⟨k1, k2, by unfold okW; rw [h1, h2, k1, k2]; rfl, by unfold okW; rw [h1, h2, k1, k2]; rfl⟩
theorem Win.vp (w : Win l b p q) {j : Nat} (hj : j < l.length) : i1 (nth (p.map lvE) j) = XL l j := by
  rw [nth_mapF (by rw [w.l1]; exact hj), w.e1 j hj]
  exact (smp_ok (XL_bd l j).1 (XL_bd l j).2).2.2
theorem Win.vq (w : Win l b p q) {j : Nat} (hj : j < l.length) : i1 (nth (q.map lvE) j) = YU (XL l) l.length b j := by
  rw [nth_mapF (by rw [w.l2]; exact hj), w.e2 j hj]
  exact (smp_ok (YU_bd ..).1 (YU_bd ..).2).2.2
theorem chkW2_ok {p q : FL} {n : Nat} (h1 : p.length = n) (h2 : q.length = n) (h3 : 2 ≤ n) (h4 : n ≤ 16) : chkW2 p q = 0 := by
  unfold chkW2 chkW whenZ
  rw [h1, h2, decide_eq_false (show ¬ (n : Int) < 2 by omega), decide_eq_false (show ¬ (n : Int) > 16 by omega), show ((n : Int) != n) = false by simp]
  rfl
theorem corF_eq {x y : TLi} {n d : Nat} {A B : Nat → Int} (hy : y.length = n) (hn : n ≤ 16) (hd : d < n) (hA : ∀ i, i < n → i1 (nth x i) = A i) (hA2 : ∀ i, -2000 ≤ A i ∧ A i ≤ 2000)
    (hB : ∀ i, i < n → i1 (nth y i) = B i) (hB2 : ∀ i, -2000 ≤ B i ∧ B i ≤ 2000) : ∀ m, m ≤ n → corF x y d m 0 = SU (fun i => A i * B ((i + d) % n)) m
  | 0, _ => rfl
  | m + 1, hm => by
    have ih := corF_eq hy hn hd hA hA2 hB hB2 m (by omega)
    unfold corF at ih ⊢
    rw [List.range'_concat, List.foldl_append, ih]
    simp only [List.foldl_cons, List.foldl_nil, Nat.zero_add, Nat.one_mul]
    have h1 : ixY y (m : Int) (d : Int) = (((m + d) % n : Nat) : Int) := by
      unfold ixY
      rw [hy, W_id (by omega) (by omega), Int.tmod_eq_emod_of_nonneg (by omega), Int.natCast_emod, Int.natCast_add]
    have hb := mul_bd (hA2 m) (hB2 ((m + d) % n))
    have hs := SU_bd (f := fun i => A i * B ((i + d) % n)) (c := 4000000) (n := m) fun i _ => mul_bd (hA2 i) (hB2 ((i + d) % n))
    have h2 : trm x y (m : Int) (d : Int) = A m * B ((m + d) % n) := by
      unfold trm
      rw [h1, Int.toNat_natCast, Int.toNat_natCast, hA m (by omega), hB _ (modN _ _ (by omega)), W_id (by omega) (by omega)]
    rw [h2]
    show IntKind.i64.wrap (SU (fun i => A i * B ((i + d) % n)) m + A m * B ((m + d) % n)) = SU (fun i => A i * B ((i + d) % n)) m + A m * B ((m + d) % n)
    exact W_id (by omega) (by omega)
theorem nth_corL {x y : TLi} {d : Nat} (hd : d < x.length) : i1 (nth (corL x y) d) = corF x y d x.length 0 := by
  unfold corL nth
  rw [List.getD_eq_getElem?_getD, List.getElem?_map, List.getElem?_eq_getElem (by rw [List.length_range']; exact hd)]
  simp only [Option.map_some, Option.getD_some, List.getElem_range', Nat.zero_add, Nat.one_mul]
  rfl
theorem Win.cor (w : Win l b p q) : cor42 p q = (corL (p.map lvE) (q.map lvE), 0) ∧ cor42 q p = (corL (q.map lvE) (p.map lvE), 0) ∧ lag44 p q = lagL (corL (p.map lvE) (q.map lvE)) := by
  have h8 := w.h8
  have h1 := chkW2_ok w.l1 w.l2 w.h2 (by omega)
  have h2 := chkW2_ok w.l2 w.l1 w.h2 (by omega)
  exact ⟨by unfold cor42; rw [h1]; rfl, by unfold cor42; rw [h2]; rfl, by unfold lag44; rw [h1]; rfl⟩
theorem Win.c_len (w : Win l b p q) : (corL (p.map lvE) (q.map lvE)).length = l.length := by rw [corL_len, List.length_map, w.l1]
theorem Win.d_len (w : Win l b p q) : (corL (q.map lvE) (p.map lvE)).length = l.length := by rw [corL_len, List.length_map, w.l2]
theorem Win.c (w : Win l b p q) {k : Nat} (hk : k < l.length) : i1 (nth (corL (p.map lvE) (q.map lvE)) k) = CU (XL l) l.length (k + (l.length - b)) := by
  have h8 := w.h8
  rw [nth_corL (by rw [List.length_map, w.l1]; exact hk), List.length_map, w.l1]
  rw [corF_eq (n := l.length) (by rw [List.length_map, w.l2]) (by omega) hk (fun i hi => w.vp hi) (XL_bd l) (fun i hi => w.vq hi) (YU_bd l l.length b) l.length (Nat.le_refl _)]
  exact cor_ab ..
theorem Win.d (w : Win l b p q) {k : Nat} (hk : k < l.length) : i1 (nth (corL (q.map lvE) (p.map lvE)) k) = CU (XL l) l.length (k + b) := by
  have h8 := w.h8
  rw [nth_corL (by rw [List.length_map, w.l2]; exact hk), List.length_map, w.l2]
  rw [corF_eq (n := l.length) (by rw [List.length_map, w.l1]) (by omega) hk (fun i hi => w.vq hi) (YU_bd l l.length b) (fun i hi => w.vp hi) (XL_bd l) l.length (Nat.le_refl _)]
  exact cor_ba _ _ _ _ w.hb
theorem CU_bd (l : SL) (k : Nat) (h8 : l.length ≤ 8) : -32000000 ≤ CU (XL l) l.length k ∧ CU (XL l) l.length k ≤ 32000000 := by
  have h := SU_bd (f := fun i => XL l i * XL l ((i + k) % l.length)) (c := 4000000) (n := l.length) fun i _ => mul_bd (XL_bd l i) (XL_bd l ((i + k) % l.length))
  show -32000000 ≤ SU (fun i => XL l i * XL l ((i + k) % l.length)) l.length ∧ SU (fun i => XL l i * XL l ((i + k) % l.length)) l.length ≤ 32000000
  omega
theorem Win.by_ (w : Win l b p q) : i1 (nth (corL (p.map lvE) (q.map lvE)) b) = CU (XL l) l.length 0 := by
  have hb := w.hb
  rw [w.c hb, show b + (l.length - b) = l.length by omega, ← CU_mod, Nat.mod_self]
theorem Win.le (w : Win l b p q) {k : Nat} (hk : k < l.length) : i1 (nth (corL (p.map lvE) (q.map lvE)) k) ≤ i1 (nth (corL (p.map lvE) (q.map lvE)) b) := by
  rw [w.by_, w.c hk]
  exact CU_le ..
theorem Win.turn (w : Win l b p q) {k : Nat} (hk : k < l.length) : i1 (nth (corL (p.map lvE) (q.map lvE)) k) = i1 (nth (corL (q.map lvE) (p.map lvE)) ((l.length - k) % l.length)) := by
  have hb := w.hb
  rw [w.c hk, w.d (modN _ _ (by omega))]
  refine CU_opp _ _ _ _ ?_
  rw [← Nat.add_assoc, Nat.add_right_comm, Nat.add_mod_mod, show k + (l.length - b) + b + (l.length - k) = l.length + l.length by omega, Nat.add_mod_right, Nat.mod_self]
theorem Win.sum (w : Win l b p q) : SU (fun k => i1 (nth (corL (p.map lvE) (q.map lvE)) k)) l.length = SU (XL l) l.length * SU (XL l) l.length := by
  rw [← cor_sum (XL l) l.length b]
  refine SU_congr fun k hk => ?_
  rw [w.c hk]
  exact (cor_ab ..).symm
end
end Go.Proofs.YtifnpljmjhnbaaaGreatDoor

namespace Go.Proofs.YtifnpljmjhnbaaaGreatDoor
open Go Go.Am
set_option maxRecDepth 100000
variable {w0 : World}
noncomputable section


theorem foldM_ge (l : TLi) : ∀ (L : List Nat) (a : Nat), i1 (nth l a) ≤ i1 (nth l (L.foldl (fun a d => stM l d a) a)) ∧ ∀ d ∈ L, i1 (nth l d) ≤ i1 (nth l (L.foldl (fun a d => stM l d a) a))
  | [], a => ⟨Int.le_refl _, fun d hd => by cases hd⟩
  | x :: L, a => by
    obtain ⟨h1, h2⟩ := foldM_ge l L (stM l x a)
    rw [List.foldl_cons]
    have h3 : i1 (nth l a) ≤ i1 (nth l (stM l x a)) ∧ i1 (nth l x) ≤ i1 (nth l (stM l x a)) := by
      unfold stM
      by_cases h : i1 (nth l x) > i1 (nth l a)
      · rw [decide_eq_true h, cond_true]; omega
      · rw [decide_eq_false h, cond_false]; omega
    refine ⟨Int.le_trans h3.1 h1, fun d hd => ?_⟩
    rcases List.mem_cons.1 hd with rfl | hd
    · exact Int.le_trans h3.2 h1
    · exact h2 d hd
theorem atM_ge {l : TLi} {d : Nat} (hd : d < l.length) : i1 (nth l d) ≤ i1 (nth l (atM l)) := (foldM_ge l _ 0).2 d (List.mem_range'_1.2 ⟨Nat.zero_le _, by omega⟩)
theorem foldX_ge (l : TLi) : ∀ (L : List Nat) (m : Int), m ≤ L.foldl (fun m (i : Nat) => mxx (i1 (nth l i)) m) m ∧ (∀ i ∈ L, i1 (nth l i) ≤ L.foldl (fun m (i : Nat) => mxx (i1 (nth l i)) m) m) ∧ ∀ c : Int, m ≤ c → (∀ i ∈ L, i1 (nth l i) ≤ c) → L.foldl (fun m (i : Nat) => mxx (i1 (nth l i)) m) m ≤ c
  | [], m => ⟨Int.le_refl _, fun d hd => (by cases hd), fun c h _ => h⟩
  | x :: L, m => by
    obtain ⟨h1, h2, h3⟩ := foldX_ge l L (mxx (i1 (nth l x)) m)
    rw [List.foldl_cons]
    have h4 : m ≤ mxx (i1 (nth l x)) m ∧ i1 (nth l x) ≤ mxx (i1 (nth l x)) m := by unfold mxx; split <;> omega
    refine ⟨Int.le_trans h4.1 h1, fun d hd => ?_, fun c hc hL => h3 c ?_ fun i hi => hL i (by simp [hi])⟩
    · rcases List.mem_cons.1 hd with rfl | hd
      · exact Int.le_trans h4.2 h1
      · exact h2 d hd
    · have := hL x (by simp)
      unfold mxx; split <;> omega
theorem mxL_ge {l : TLi} {i : Nat} (hi : i < l.length) : i1 (nth l i) ≤ mxL l := by
  obtain ⟨h1, h2, _⟩ := foldX_ge l (List.range' 1 (l.length - 1)) (i1 (nth l 0))
  cases i with
  | zero => exact h1
  | succ i => exact h2 _ (List.mem_range'_1.2 ⟨by omega, by omega⟩)
theorem mxL_le {l : TLi} {c : Int} (hl : 0 < l.length) (h : ∀ i, i < l.length → i1 (nth l i) ≤ c) : mxL l ≤ c :=
  (foldX_ge l (List.range' 1 (l.length - 1)) (i1 (nth l 0))).2.2 c (h 0 hl) fun i hi => h i (by have := List.mem_range'_1.1 hi; omega)
theorem nth_oth {l : TLi} {a i : Nat} (ha : a < l.length) : nth (oth l a) i = if i < a then nth l i else nth l (i + 1) := by
  unfold oth nth
  rw [List.getD_eq_getElem?_getD, List.getElem?_append, List.length_take, Nat.min_eq_left (by omega)]
  by_cases h : i < a
  · rw [if_pos h, if_pos h, List.getElem?_take, if_pos h, List.getD_eq_getElem?_getD]
  · rw [if_neg h, if_neg h, List.getElem?_drop, List.getD_eq_getElem?_getD, show a + 1 + (i - a) = i + 1 by omega]
theorem oth_len {l : TLi} {a : Nat} (ha : a < l.length) : (oth l a).length = l.length - 1 := by
  unfold oth
  rw [List.length_append, List.length_take, List.length_drop]
  omega
theorem oth_le {l : TLi} {c : Int} (h2 : 2 ≤ l.length) (h : ∀ i, i < l.length → i1 (nth l i) ≤ c) : mxL (oth l (atM l)) ≤ c := by
  have ha := atM_lt (l := l) (by omega)
  refine mxL_le (by rw [oth_len ha]; omega) fun i hi => ?_
  rw [oth_len ha] at hi
  rw [nth_oth ha]
  split
  · exact h i (by omega)
  · exact h (i + 1) (by omega)
theorem oth_ge {l : TLi} {b : Nat} (h2 : 2 ≤ l.length) (hb : b < l.length) (hne : b ≠ atM l) : i1 (nth l b) ≤ mxL (oth l (atM l)) := by
  have ha := atM_lt (l := l) (by omega)
  rcases Nat.lt_or_gt_of_ne hne with h | h
  · have := mxL_ge (l := oth l (atM l)) (i := b) (by rw [oth_len ha]; omega)
    rwa [nth_oth ha, if_pos h] at this
  · have := mxL_ge (l := oth l (atM l)) (i := b - 1) (by rw [oth_len ha]; omega)
    rwa [nth_oth ha, if_neg (by omega), show b - 1 + 1 = b by omega] at this


theorem cs11_gd (h0 : Lib0 w0) : Gds (cfg w0) cs11 := ⟨gd77, gd43 h0, gd42 h0, gd44 h0, gd45 h0, gd23 h0, trivial⟩
variable {l : SL} {n : Tup bK3} {b : Nat}
theorem la11 (h0 : Lib0 w0) (hb : by11 l n = (b : Int)) (hb2 : b < l.length) (h8 : l.length ≤ 8) :
    LdT ((cfg w0).at cs11) (ld11a l n (((0 + l.length : Nat) : Int), foldA l b l.length)) (.loop (lpB 0 (fnOf Tryz.f11).body)) (st11a l n (by11 l n) (0, zF0 l, zF0 l, 0)) := by
  have hx : rgRun 0 (fun (i : Nat) (a : S3') => (X.normal, stepA l (b : Int) i a)) l.length 0 (zF0 l, zF0 l, 0) = (.exit 0, (((0 + l.length : Nat) : Int), foldA l b l.length)) :=
    rgRun_fold (h := fun (i : Nat) a => stepA l (b : Int) i a) 0 l.length 0 _ (fun _ _ _ _ => rfl)
  unfold ld11a
  rw [hb]
  exact ldT_rg (at_ok (cfg_ok w0) cs11) (at_sp h0 (cs11_gd h0)) (N := N11) (rel := rel11a) (B := lpB 0 (fnOf Tryz.f11).body) (id := 0) (k := l.length) (by omega) (st11a l n (b : Int)) _ (fun _ a => a.1.length = l.length ∧ a.2.1.length = l.length)
    (fun i a hi ⟨ha1, ha2⟩ => .leaf (by
      obtain ⟨p, q, s⟩ := a
      have ha1 : p.length = l.length := ha1
      have ha2 : q.length = l.length := ha2
      have hs : smpB (smx (nth l i)) = true := (smp_ok (XL_bd l i).1 (XL_bd l i).2).1
      have hix : inF q (ix11 l (b : Int) (i : Int)) = true := by
        rw [ix11_eq hb2 h8 hi]
        exact inF_nat (by rw [ha2]; exact modN _ _ (by omega))
      rw [round11a, lt_t hi, inS1_nat hi, Int.toNat_natCast, hs, inF_nat (show i < p.length by omega), decide_eq_false (show ¬ (l.length : Int) = 0 by omega), hix]
      rfl)) (fun i a a' _ ⟨ha1, ha2⟩ h => by cases h; exact ⟨(setF_len ..).trans ha1, (setF_len ..).trans ha2⟩)
    (fun a _ => .leaf (by obtain ⟨p, q, s⟩ := a; rw [round11a, ge_f]; rfl)) (a0 := (zF0 l, zF0 l, 0)) ⟨by simp [zF0], by simp [zF0]⟩ hx
theorem lb11 (h0 : Lib0 w0) {c d : TLi} (s : Int) (lag : L4) (hb2 : b < l.length) (h8 : l.length ≤ 8) (hc : c.length = l.length) (hd : d.length = l.length) (hm : ∀ k, k < l.length → i1 (nth c k) ≤ i1 (nth c b)) (ht : ∀ k, k < l.length → i1 (nth c k) = i1 (nth d ((l.length - k) % l.length)))
    (hbd : ∀ k, k < l.length → -32000000 ≤ i1 (nth c k) ∧ i1 (nth c k) ≤ 32000000) :
    LdT ((cfg w0).at cs11) (ld11b l n (b : Int) s c d lag (((0 + c.length : Nat) : Int), SU (fun k => i1 (nth c k)) l.length)) (.loop (lpB 2 (fnOf Tryz.f11).body)) (st11b l n (b : Int) s c d lag (0, 0)) := by
  have hx : rgRun 2 (fun (k : Nat) (a : Int) => (X.normal, IntKind.i64.wrap (a + i1 (nth c k)))) c.length 0 0 = (.exit 2, (((0 + c.length : Nat) : Int), SU (fun k => i1 (nth c k)) l.length)) := by
    rw [rgRun_fold (h := fun (k : Nat) a => IntKind.i64.wrap (a + i1 (nth c k))) 2 c.length 0 _ (fun _ _ _ _ => rfl)]
    have key : ∀ m, m ≤ l.length → (List.range' 0 m).foldl (fun a (k : Nat) => IntKind.i64.wrap (a + i1 (nth c k))) 0 = SU (fun k => i1 (nth c k)) m := fun m => by
      induction m with
      | zero => intro _; rfl
      | succ m ih =>
        intro hm
        rw [List.range'_concat, List.foldl_append, ih (by omega)]
        simp only [List.foldl_cons, List.foldl_nil, Nat.zero_add, Nat.one_mul]
        have h1 := hbd m (by omega)
        have h2 : -(m * 32000000 : Int) ≤ SU (fun k => i1 (nth c k)) m ∧ SU (fun k => i1 (nth c k)) m ≤ m * 32000000 := SU_bd fun i hi => hbd i (by omega)
        exact W_id (by omega) (by omega)
    rw [hc, key _ (Nat.le_refl _)]
  exact ldT_rg (at_ok (cfg_ok w0) cs11) (at_sp h0 (cs11_gd h0)) (N := N11) (rel := rel11b) (B := lpB 2 (fnOf Tryz.f11).body) (id := 2) (k := c.length) (by omega) (st11b l n (b : Int) s c d lag) _ (fun _ _ => True)
    (fun k a hk _ => .leaf (by
      rw [hc] at hk
      have hix : ixD l (k : Int) = (((l.length - k) % l.length : Nat) : Int) := by
        unfold ixD
        rw [W_id (by omega) (by omega), Int.tmod_eq_emod_of_nonneg (by omega), Int.natCast_emod, Int.natCast_sub (by omega)]
      rw [round11b, lt_t (show k < c.length by omega), inO_nat (show k < c.length by omega), inO_nat (show b < c.length by omega), Int.toNat_natCast, Int.toNat_natCast, decide_eq_false (show ¬ i1 (nth c k) > i1 (nth c b) by have := hm k hk; omega),
        decide_eq_false (show ¬ (l.length : Int) = 0 by omega), hix, inO_nat (show (l.length - k) % l.length < d.length by rw [hd]; exact modN _ _ (by omega)), Int.toNat_natCast, ← ht k hk, show (i1 (nth c k) != i1 (nth c k)) = false by simp]
      rfl)) (fun _ _ _ _ _ _ => trivial)
    (fun a _ => .leaf (by rw [round11b, ge_f]; rfl)) (a0 := 0) trivial hx
theorem br11_ok {x y : Int} (hx1 : -8 ≤ x) (hx2 : x ≤ 8) (hy1 : -8 ≤ y) (hy2 : y ≤ 8) (o : Obs) : br11 x y o = some (o, Bo true) := by
  have h := brOk_all hx1 hx2 hy1 hy2
  have ex : tn x = -x := by unfold tn; rw [W_id (by omega) (by omega)]; omega
  have ey : tn y = -y := by unfold tn; rw [W_id (by omega) (by omega)]; omega
  unfold brOk at h
  unfold br11 bz11 bn11
  rw [ex, ey]
  generalize brP x y = P at *
  generalize brP (-x) (-y) = Q at *
  generalize brP (-y) x = R at *
  cases hz : (x == 0 && y == 0) with
  | true =>
    rw [hz, cond_true, Bool.and_eq_true, Bool.and_eq_true, beq_iff_eq, beq_iff_eq, beq_iff_eq] at h
    obtain ⟨a1, a2, a3⟩ := h
    rw [Bool.and_eq_true] at hz
    rw [hz.1, hz.2, a1, a2, a3]
    rfl
  | false =>
    rw [hz, cond_false] at h
    simp only [Bool.and_eq_true, beq_iff_eq, decide_eq_true_eq] at h
    obtain ⟨a1, a2, a3, a4, a5, a6, a7⟩ := h
    rw [a1, a2, a3, a6, a7, W_id (by omega) (by omega), W_id (by omega) (by omega), decide_eq_true (show P.1 ≥ 0 by omega), decide_eq_true a5]
    simp only [beq_self_eq_true]
    cases hx : (x == 0) <;> cases hy : (y == 0) <;> first | rfl | (rw [hx, hy] at hz; cases hz)
theorem l11_ok {c : TLi} (h2 : 2 ≤ l.length) (h8 : l.length ≤ 8) (hc : c.length = l.length) (hb : b < l.length) (hm : ∀ k, k < l.length → i1 (nth c k) ≤ i1 (nth c b)) (o : Obs) (k : Option (Obs × D)) : l11 l (b : Int) (lagL c) o k = k := by
  have ha := atM_lt (l := c) (by omega)
  have hlag : (lagL c).1 = (atM c : Int) ∧ 2 * (atM c : Int) ≤ l.length ∨ (lagL c).1 = (atM c : Int) - l.length ∧ 2 * (atM c : Int) > l.length := by
    unfold lagL
    simp only [hc]
    by_cases h : 2 * (atM c : Int) > l.length
    · rw [decide_eq_true h]; exact .inr ⟨rfl, h⟩
    · rw [decide_eq_false h]; exact .inl ⟨rfl, by omega⟩
  have e1 : decide (IntKind.i64.wrap (2 * (lagL c).1) > l.length) = false := decide_eq_false (by rw [W_id (by omega) (by omega)]; omega)
  have e2 : decide (IntKind.i64.wrap (2 * (lagL c).1) ≤ IntKind.i64.wrap (0 - (l.length : Int))) = false := decide_eq_false (by rw [W_id (by omega) (by omega), W_id (by omega) (by omega)]; omega)
  unfold l11
  rw [e1, e2]
  by_cases hlt : (lagL c).2.2.1 < (lagL c).2.1
  · have hlt' : mxL (oth c (atM c)) < i1 (nth c (atM c)) := hlt
    have heq : b = atM c := Classical.byContradiction fun hne => by
      have h1 := oth_ge (l := c) (by omega) (by omega) hne
      have h3 := hm (atM c) (by omega)
      omega
    have e3 : ((IntKind.i64.wrap ((lagL c).1 - (b : Int))).tmod l.length != 0) = false := by
      rw [heq, W_id (by omega) (by omega)]
      rcases hlag with ⟨h, _⟩ | ⟨h, _⟩
      · rw [h, Int.sub_self]; simp
      · rw [h, show (atM c : Int) - l.length - atM c = -(l.length : Int) by omega, Int.neg_tmod, Int.tmod_self]; rfl
    rw [decide_eq_true hlt, e3, decide_eq_false (show ¬ (l.length : Int) = 0 by omega)]
    rfl
  · rw [decide_eq_false hlt]
    rfl
def u11 (l : SL) (n : Tup bK3) (p q : FL) (S z b : Int) (cp cq : LIx) (lag : L4) (o1 o2 : Obs) : Option (Obs × D) :=
  bif decide ((l.length : Int) < 2) then some ([], Bo true) else bif decide ((l.length : Int) > 8) then some ([], Bo true) else bif decide ((l.length : Int) = 0) then none else
  g1' (mkF l.length) (g1' (mkF l.length) (g1' (smF p) (g1' (smF q) (g1' (okW p q) (g1' (smF q) (g1' (smF p) (g1' (okW q p) (g1' (smF p) (g1' (smF q) (g1' (okW p q)
  (f1' (cp.2 != 0) o1 (f1' (cq.2 != 0) o1 (f1' (lag.2.2.2 != 0) o1 (f1' ((cp.1.length : Int) != l.length) o1 (f1' ((cq.1.length : Int) != l.length) o1
  (f1' (z != IntKind.i64.wrap (S * S)) o2 (g1' (inO cp.1 b) (f1' (lag.2.1 != i1 (nth cp.1 b.toNat)) o2 (f1' (decide (lag.2.2.1 > lag.2.1)) o2
  (l11 l b lag o2 (br11 (X11 n) (Y11 n) o2)))))))))))))))))))))
theorem t11_u (l : SL) (n : Tup bK3) (x : Int × S3') (z : Int × Int) : t11 l n x z = u11 l n x.2.1 x.2.2.1 x.2.2.2 z.2 (by11 l n) (cor42 x.2.1 x.2.2.1) (cor42 x.2.2.1 x.2.1) (lag44 x.2.1 x.2.2.1) (oA11 l n x) (oB11 l n x z) := rfl
theorem u11_ok {p q : FL} {S : Int} (w : Win l b p q) (hS : S = SU (XL l) l.length) (hx : -8 ≤ X11 n ∧ X11 n ≤ 8) (hy : -8 ≤ Y11 n ∧ Y11 n ≤ 8) (o1 o2 : Obs) :
    u11 l n p q S (SU (fun k => i1 (nth (corL (p.map lvE) (q.map lvE)) k)) l.length) (b : Int) (corL (p.map lvE) (q.map lvE), 0) (corL (q.map lvE) (p.map lvE), 0) (lagL (corL (p.map lvE) (q.map lvE))) o1 o2 = some (o2, Bo true) := by
  have h2 := w.h2
  have h8 := w.h8
  have hb := w.hb
  obtain ⟨k1, k2, k3, k4⟩ := w.okp
  have hm := fun k hk => w.le (k := k) hk
  have hsum := w.sum
  have hcl := w.c_len
  have hdl := w.d_len
  have hmk : mkF l.length = true := by
    unfold mkF
    rw [decide_eq_true (show 0 ≤ (l.length : Int) by omega), decide_eq_true (show (l.length : Int) = l.length from rfl), decide_eq_true (show (l.length : Int) ≤ 10000000 by omega), Int.toNat_natCast, (Nat.ble_eq ..).mpr (show l.length * 1 ≤ 10000000 by omega), (Nat.ble_eq ..).mpr (show l.length * 4 ≤ 1000000000000 by omega)]
    rfl
  have hz : (SU (fun k => i1 (nth (corL (p.map lvE) (q.map lvE)) k)) l.length != IntKind.i64.wrap (S * S)) = false := by
    rw [hsum, hS]
    have h1 := SU_bd (f := XL l) (c := 2000) (n := l.length) fun i _ => XL_bd l i
    have h3 := mul_bd (a := SU (XL l) l.length) (b := SU (XL l) l.length) (A := 16000) (B := 16000) (by omega) (by omega)
    rw [W_id (by omega) (by omega)]
    simp
  generalize corL (p.map lvE) (q.map lvE) = c at *
  generalize corL (q.map lvE) (p.map lvE) = d at *
  have ha := atM_lt (l := c) (by omega)
  have hmax : i1 (nth c (atM c)) = i1 (nth c b) := by
    have e1 := hm (atM c) (by omega)
    have e2 := atM_ge (l := c) (d := b) (by omega)
    omega
  have e1 : ((lagL c).2.1 != i1 (nth c ((b : Nat) : Int).toNat)) = false := by
    rw [Int.toNat_natCast]
    show (i1 (nth c (atM c)) != _) = false
    rw [hmax]
    simp
  have e2 : decide ((lagL c).2.2.1 > (lagL c).2.1) = false := decide_eq_false (by
    have := oth_le (l := c) (c := i1 (nth c b)) (by omega) fun i hi => hm i (by omega)
    show ¬ mxL (oth c (atM c)) > i1 (nth c (atM c))
    omega)
  unfold u11
  simp only
  rw [decide_eq_false (show ¬ (l.length : Int) < 2 by omega), decide_eq_false (show ¬ (l.length : Int) > 8 by omega), decide_eq_false (show ¬ (l.length : Int) = 0 by omega), hmk, k1, k2, k3, k4, hcl, hdl, hz, inO_nat (show b < c.length by omega), e1, e2,
    l11_ok h2 h8 hcl hb hm, br11_ok hx.1 hx.2 hy.1 hy.2, show ((l.length : Int) != l.length) = false by simp, show ((0 : Int) != 0) = false from rfl, show ((lagL c).2.2.2 != 0) = false from rfl]
  rfl
theorem wf8 {n : Int} (h : WfE (.int .u8) n) : 0 ≤ n ∧ n ≤ 255 := by
  have h : (decide (IntKind.u8.min ≤ n) && decide (n ≤ IntKind.u8.max)) = true := h
  rw [Bool.and_eq_true, decide_eq_true_eq, decide_eq_true_eq] at h
  have e1 : IntKind.u8.min = 0 := by decide
  have e2 : IntKind.u8.max = 255 := by decide
  omega
theorem xy11 {x : Int} (h : 0 ≤ x ∧ x ≤ 255) : -8 ≤ IntKind.i64.wrap ((IntKind.i64.wrap x).tmod 17 - 8) ∧ IntKind.i64.wrap ((IntKind.i64.wrap x).tmod 17 - 8) ≤ 8 := by
  rw [W_id (n := x) (by omega) (by omega), Int.tmod_eq_emod_of_nonneg (by omega), W_id (by omega) (by omega)]
  omega
theorem by_ok {a : Int} {k : Nat} (h1 : 0 ≤ a) (h2 : a ≤ 255) (hk : 0 < k) : ∃ b : Nat, (IntKind.i64.wrap a).tmod k = (b : Int) ∧ b < k := by
  rw [W_id (by omega) (by omega), Int.tmod_eq_emod_of_nonneg h1]
  have k1 := Int.emod_nonneg a (show (k : Int) ≠ 0 by omega)
  have k2 := Int.emod_lt_of_pos a (show 0 < (k : Int) by omega)
  exact ⟨(a % (k : Int)).toNat, by omega, by omega⟩
theorem law11_fn (h0 : Lib0 w0) (l : SL) (n : Tup bK3) (hn : WfT bK3 n) : FnD (cfg w0) 11 [.vec sK l, .agg [U8 n.1, U8 n.2.1, U8 n.2.2.1]] (Bo true) := by
  obtain ⟨n0, n1, n2, _⟩ := hn
  by_cases h2 : 2 ≤ l.length
  · by_cases h8 : l.length ≤ 8
    · have b0 := wf8 n0
      have hby : ∃ b : Nat, by11 l n = (b : Int) ∧ b < l.length := by_ok b0.1 b0.2 (by omega)
      obtain ⟨b, hb, hb2⟩ := hby
      have w := win_ok hb2 h2 h8
      have hs := (foldA_ok hb2 h8 l.length (Nat.le_refl _)).s
      have la := la11 (n := n) h0 hb hb2 h8
      generalize hF : foldA l (b : Int) l.length = F at *
      obtain ⟨p, q, S⟩ := F
      have w : Win l b p q := w
      have hs : S = SU (XL l) l.length := hs
      obtain ⟨c1, c2, c3⟩ := w.cor
      have lb := lb11 (n := n) h0 S (lagL (corL (p.map lvE) (q.map lvE))) hb2 h8 w.c_len w.d_len (fun k hk => w.le hk) (fun k hk => w.turn hk) (fun k hk => by rw [w.c hk]; exact CU_bd l _ h8)
      have hbody := body11 (w0 := w0) l n (((0 + l.length : Nat) : Int), p, q, S) (((0 + (corL (p.map lvE) (q.map lvE)).length : Nat) : Int), SU (fun k => i1 (nth (corL (p.map lvE) (q.map lvE)) k)) l.length)
      rw [t11_u] at hbody
      simp only [c1, c2, c3, hb] at hbody
      rw [u11_ok w hs (xy11 (wf8 n1)) (xy11 (wf8 n2))] at hbody
      refine fnD_t (cfg_ok w0) h0 (cs11_gd h0) (fd := fnOf Tryz.f11) rfl hbody ?_
      unfold oB11 oA11
      simp only [c1, c2, c3, hb]
      rw [hb] at la
      exact ⟨lb, la, trivial⟩
    · have hb := body11 (w0 := w0) l n (0, [], [], 0) (0, 0)
      unfold t11 at hb
      rw [decide_eq_false (show ¬ (l.length : Int) < 2 by omega), decide_eq_true (show (l.length : Int) > 8 by omega)] at hb
      exact fnD_t (cfg_ok w0) h0 (cs11_gd h0) (fd := fnOf Tryz.f11) rfl hb trivial
  · have hb := body11 (w0 := w0) l n (0, [], [], 0) (0, 0)
    unfold t11 at hb
    rw [decide_eq_true (show (l.length : Int) < 2 by omega)] at hb
    exact fnD_t (cfg_ok w0) h0 (cs11_gd h0) (fd := fnOf Tryz.f11) rfl hb trivial
end
end Go.Proofs.YtifnpljmjhnbaaaGreatDoor
