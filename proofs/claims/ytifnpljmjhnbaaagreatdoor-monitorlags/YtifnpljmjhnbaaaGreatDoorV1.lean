/-
  A part of the proof of the statement that the claim names: see the last file.
-/
import Derived.Laws.FloatArith
import Derived.KernelRfl
import Derived.Test.YtifnpljmjhnbaaaGreatDoorL1
namespace Go.Proofs.YtifnpljmjhnbaaaGreatDoor
open Go Ieee
set_option maxRecDepth 100000


theorem cut_exact (way : Toward) (neg : Bool) {n drop : Nat} (hn : n ≠ 0) (hd : 2 ^ drop ∣ n) : way.cut neg n drop = n / 2 ^ drop := by
  have hle : 2 ^ drop ≤ n := Nat.le_of_dvd (Nat.pos_of_ne_zero hn) hd
  have hlog : drop ≤ n.log2 := (Nat.le_log2 hn).2 hle
  have hmin : min drop (n.log2 + 2) = drop := by omega
  have hg : 1 <<< drop = 2 ^ drop := by rw [Nat.shiftLeft_eq, Nat.one_mul]
  have hm : n % 2 ^ drop = 0 := Nat.mod_eq_zero_of_dvd hd
  have hp : 0 < 2 ^ drop := Nat.two_pow_pos drop
  unfold Toward.cut
  simp only [hmin, hg, hm]
  have hz : (2 ^ drop == 2 * 0) = false := by rw [beq_eq_false_iff_ne]; omega
  cases way with
  | even => simp only [hz, Nat.mul_zero, Nat.not_lt_zero, decide_false, Bool.false_and, Bool.or_self, Bool.toNat_false, Nat.add_zero]
  | down => simp
  | up => simp
  | zero => simp
theorem toNat_le (b : Bool) : b.toNat ≤ 1 := by cases b <;> decide
theorem cut_le (way : Toward) (neg : Bool) (n drop : Nat) : way.cut neg n drop ≤ n / 2 ^ drop + 1 := by
  unfold Toward.cut
  have hg : ∀ k, 1 <<< k = 2 ^ k := fun k => by rw [Nat.shiftLeft_eq, Nat.one_mul]
  simp only [hg]
  have hlow : n / 2 ^ min drop (n.log2 + 2) ≤ n / 2 ^ drop := by
    by_cases h : drop ≤ n.log2 + 2
    · rw [show min drop (n.log2 + 2) = drop by omega]
      exact Nat.le_refl _
    · rw [show min drop (n.log2 + 2) = n.log2 + 2 by omega, Nat.div_eq_of_lt]
      · exact Nat.zero_le _
      · exact Nat.lt_of_lt_of_le Nat.lt_log2_self (Nat.pow_le_pow_right (by omega) (by omega))
  have := toNat_le (match way with
      | .even => decide (2 ^ min drop (n.log2 + 2) < 2 * (n % 2 ^ min drop (n.log2 + 2))) || (2 ^ min drop (n.log2 + 2) == 2 * (n % 2 ^ min drop (n.log2 + 2)) && n / 2 ^ min drop (n.log2 + 2) % 2 == 1)
      | .down => neg && n % 2 ^ min drop (n.log2 + 2) != 0
      | .up => !neg && n % 2 ^ min drop (n.log2 + 2) != 0
      | .zero => false)
  exact Nat.add_le_add hlow this

theorem read_word (f : Format) (neg : Bool) {rung : Nat} (h : rung < f.infRung) :
    f.read (f.word neg rung) = if rung < f.binade then .number neg rung f.leastPlace else .number neg (f.binade + rung % f.binade) (f.leastPlace + (rung / f.binade - 1 : Nat)) := by
  have hS := f.infRung_lt
  have hr : rung < f.signWeight := by omega
  have h1 : f.word neg rung % f.signWeight = rung := by
    unfold Format.word
    cases neg
    · exact Nat.mod_eq_of_lt hr
    · show (f.signWeight + rung) % f.signWeight = rung
      rw [Nat.add_mod_left, Nat.mod_eq_of_lt hr]
  have h2 : (f.word neg rung / f.signWeight % 2 == 1) = neg := by
    unfold Format.word
    cases neg
    · show (rung / f.signWeight % 2 == 1) = false
      rw [Nat.div_eq_of_lt hr]
      rfl
    · show ((f.signWeight + rung) / f.signWeight % 2 == 1) = true
      rw [Nat.add_div_left _ (by omega), Nat.div_eq_of_lt hr]
      rfl
  unfold Format.read
  simp only [h1, h2, h, if_true]
theorem read_rung (f : Format) (neg : Bool) {E K : Nat} (hK : K < 2 * f.binade) (hE : 0 < E → f.binade ≤ K) (hr : E * f.binade + K < f.infRung) : f.read (f.word neg (E * f.binade + K)) = .number neg K (f.leastPlace + (E : Nat)) := by
  rw [read_word f neg hr]
  have hB : 0 < f.binade := Nat.two_pow_pos _
  by_cases h0 : E = 0
  · subst h0
    rw [Nat.zero_mul, Nat.zero_add]
    by_cases hk : K < f.binade
    · rw [if_pos hk]
      simp
    · rw [if_neg hk]
      have e1 : K % f.binade = K - f.binade := by rw [Nat.mod_eq_sub_mod (by omega), Nat.mod_eq_of_lt (by omega)]
      have e2 : K / f.binade = 1 := by
        rw [show K = f.binade + (K - f.binade) by omega, Nat.add_div_left _ hB, Nat.div_eq_of_lt (by omega)]
      rw [e1, e2, show f.binade + (K - f.binade) = K by omega]
  · have hk := hE (by omega)
    have hEB : f.binade ≤ E * f.binade := Nat.le_mul_of_pos_left _ (by omega)
    rw [if_neg (by omega)]
    have e1 : (E * f.binade + K) % f.binade = K - f.binade := by
      rw [Nat.add_comm, Nat.add_mul_mod_self_right, Nat.mod_eq_sub_mod (by omega), Nat.mod_eq_of_lt (by omega)]
    have e2 : (E * f.binade + K) / f.binade = E + 1 := by
      rw [Nat.add_comm, Nat.add_mul_div_right _ _ hB, show K = f.binade + (K - f.binade) by omega, Nat.add_div_left _ hB, Nat.div_eq_of_lt (by omega)]
      omega
    rw [e1, e2, show f.binade + (K - f.binade) = K by omega]
    rfl

def V : Datum → Int
  | .number s m e => signed s m (e + 1200).toNat
  | _ => 0
theorem signed_eq (s : Bool) (m k : Nat) : signed s m k = (bif s then -1 else 1) * ((m * 2 ^ k : Nat) : Int) := by
  unfold signed
  rw [Nat.shiftLeft_eq]
  cases s <;> simp
theorem pow_cancel {a b k : Nat} (h : a * 2 ^ k = b * 2 ^ k) : a = b := Nat.eq_of_mul_eq_mul_right (Nat.two_pow_pos k) h

theorem nearest_exact (f : Format) (neg : Bool) {mag : Nat} {place : Int} {m0 k : Nat} (he : 3 ≤ 2 ^ f.exponentBits) (h0 : mag ≠ 0) (hP : -1200 ≤ place) (hL : -1200 ≤ f.leastPlace)
    (hv : mag * 2 ^ (place + 1200).toNat = m0 * 2 ^ k) (hm : m0 < 2 * f.binade) (hk : f.leastPlace + 1200 ≤ k) (hov : place + mag.log2 ≤ f.leastPlace + (2 ^ f.exponentBits - 3 : Nat) + f.fractionBits) :
    ∃ K E : Nat, f.read (f.nearest neg mag place) = .number neg K (f.leastPlace + (E : Nat)) ∧ K * 2 ^ (f.leastPlace + (E : Nat) + 1200).toNat = mag * 2 ^ (place + 1200).toNat ∧ K < 2 * f.binade ∧ (E : Nat) ≤ 2 ^ f.exponentBits - 3 := by
  obtain ⟨P, hPe⟩ : ∃ P : Nat, place + 1200 = (P : Int) := ⟨(place + 1200).toNat, by omega⟩
  obtain ⟨L0, hL0⟩ : ∃ L0 : Nat, f.leastPlace + 1200 = (L0 : Int) := ⟨(f.leastPlace + 1200).toNat, by omega⟩
  rw [hPe, Int.toNat_natCast] at hv ⊢
  have hm0 : m0 ≠ 0 := by
    intro e
    rw [e, Nat.zero_mul] at hv
    rcases Nat.mul_eq_zero.1 hv with h | h
    · exact h0 h
    · have := Nat.two_pow_pos P; omega
  have hb : 2 * f.binade = 2 ^ (f.fractionBits + 1) := by unfold Format.binade; rw [Nat.pow_succ]; omega
  -- the logarithm of what is written
  have g1 := Nat.log2_self_le h0
  have g2 : mag < 2 ^ (mag.log2 + 1) := Nat.lt_log2_self
  have hgk : mag.log2 + P ≤ f.fractionBits + k := by
    have a1 : 2 ^ (mag.log2 + P) ≤ m0 * 2 ^ k := by
      rw [Nat.pow_add, ← hv]
      exact Nat.mul_le_mul_right _ g1
    have a2 : m0 * 2 ^ k < 2 ^ (f.fractionBits + 1 + k) := by
      rw [Nat.pow_add, ← hb]
      exact Nat.mul_lt_mul_of_pos_right hm (Nat.two_pow_pos k)
    have a3 := Nat.lt_of_le_of_lt a1 a2
    have := (Nat.pow_lt_pow_iff_right (by omega)).1 a3
    omega
  generalize hg : mag.log2 = g at *
  obtain ⟨last, hlast⟩ : ∃ last : Int, last = max (place + (g : Int) - f.fractionBits) f.leastPlace := ⟨_, rfl⟩
  obtain ⟨E, hE⟩ : ∃ E : Nat, last = f.leastPlace + (E : Int) := ⟨(last - f.leastPlace).toNat, by omega⟩
  obtain ⟨a, ha⟩ : ∃ a : Nat, a = (place - last).toNat := ⟨_, rfl⟩
  obtain ⟨d, hd⟩ : ∃ d : Nat, d = (last - place).toNat := ⟨_, rfl⟩
  have had : P + d = L0 + E + a := by omega
  have hn : mag * 2 ^ a ≠ 0 := Nat.mul_ne_zero h0 (by have := Nat.two_pow_pos a; omega)
  have hdvd : 2 ^ d ∣ mag * 2 ^ a := by
    by_cases hd0 : d = 0
    · rw [hd0]; exact ⟨_, (Nat.one_mul _).symm⟩
    · have ha0 : a = 0 := by omega
      rw [ha0, Nat.pow_zero, Nat.mul_one]
      have hkL : P + d ≤ k := by omega
      obtain ⟨c, rfl⟩ : ∃ c, k = P + d + c := ⟨k - (P + d), by omega⟩
      have : mag * 2 ^ P = (m0 * 2 ^ c * 2 ^ d) * 2 ^ P := by
        rw [hv, Nat.pow_add, Nat.pow_add]
        simp only [Nat.mul_assoc, Nat.mul_comm, Nat.mul_left_comm]
      exact ⟨m0 * 2 ^ c, by rw [pow_cancel this, Nat.mul_comm]⟩
  obtain ⟨K, hK⟩ := hdvd
  have hKv : mag * 2 ^ a / 2 ^ d = K := by rw [hK, Nat.mul_div_cancel_left _ (Nat.two_pow_pos d)]
  have hga : (g + a : Nat) ≤ f.fractionBits + d := by omega
  have hK1 : K < 2 * f.binade := by
    have b1 : mag * 2 ^ a < 2 ^ (g + 1 + a) := by
      rw [Nat.pow_add]
      exact Nat.mul_lt_mul_of_pos_right g2 (Nat.two_pow_pos a)
    have b2 : 2 ^ (g + 1 + a) ≤ 2 ^ (f.fractionBits + 1 + d) := Nat.pow_le_pow_right (by omega) (by omega)
    have b3 := Nat.lt_of_lt_of_le b1 b2
    rw [hK, Nat.pow_add, ← hb, Nat.mul_comm (2 * f.binade)] at b3
    exact Nat.lt_of_mul_lt_mul_left b3
  have hK2 : 0 < E → f.binade ≤ K := by
    intro hE0
    have e1 : g + a = f.fractionBits + d := by omega
    have b1 : 2 ^ (g + a) ≤ mag * 2 ^ a := by
      rw [Nat.pow_add]
      exact Nat.mul_le_mul_right _ g1
    rw [hK, e1, Nat.pow_add, Nat.mul_comm (2 ^ f.fractionBits)] at b1
    exact Nat.le_of_mul_le_mul_left b1 (Nat.two_pow_pos d)
  have hEb : E ≤ 2 ^ f.exponentBits - 3 := by omega
  have hinf : E * f.binade + K < f.infRung := by
    unfold Format.infRung
    have hB : 0 < f.binade := Nat.two_pow_pos _
    have : (E + 2) * f.binade ≤ (2 ^ f.exponentBits - 1) * f.binade := Nat.mul_le_mul_right _ (by omega)
    rw [Nat.add_mul] at this
    omega
  refine ⟨K, E, ?_, ?_, hK1, hEb⟩
  · unfold Format.nearest
    rw [if_neg h0, hg]
    simp only
    rw [← hlast, ← ha, ← hd, Nat.shiftLeft_eq, cut_exact _ _ hn ⟨K, hK⟩, hKv, show (last - f.leastPlace).toNat = E by omega, Nat.min_eq_left (by omega)]
    exact read_rung f neg hK1 hK2 hinf
  · rw [show f.leastPlace + (E : Int) + 1200 = ((L0 + E : Nat) : Int) by omega, Int.toNat_natCast]
    refine pow_cancel (k := a) ?_
    have : K * 2 ^ (L0 + E) * 2 ^ a = K * 2 ^ (P + d) := by rw [Nat.mul_assoc, ← Nat.pow_add, had]
    rw [this, Nat.pow_add, show mag * 2 ^ P * 2 ^ a = mag * 2 ^ a * 2 ^ P by rw [Nat.mul_assoc, Nat.mul_comm (2 ^ P), ← Nat.mul_assoc], hK]
    simp only [Nat.mul_comm, Nat.mul_left_comm]
end Go.Proofs.YtifnpljmjhnbaaaGreatDoor

namespace Go.Proofs.YtifnpljmjhnbaaaGreatDoor
open Go Ieee
set_option maxRecDepth 100000


theorem cut_whole (way : Toward) (neg : Bool) {n drop : Nat} (hd : 2 ^ drop ∣ n) : way.cut neg n drop = n / 2 ^ drop := by
  by_cases hn : n = 0
  · subst hn
    unfold Toward.cut
    simp only [Nat.zero_mod, Nat.zero_div]
    have hz : ∀ k, (1 <<< k == 2 * 0) = false := fun k => by
      rw [Nat.shiftLeft_eq, beq_eq_false_iff_ne]
      have := Nat.two_pow_pos k
      omega
    cases way with
    | even => simp only [hz, Nat.mul_zero, Nat.not_lt_zero, decide_false, Bool.false_and, Bool.or_self, Bool.toNat_false]
    | down => simp
    | up => simp
    | zero => simp
  · exact cut_exact way neg hn hd

def sgn (s : Bool) (M : Nat) : Int := (bif s then -1 else 1) * (M : Int)
structure Num (f : Format) (w : Nat) (s : Bool) (M K : Nat) (E : Int) : Prop where
  rd : f.read w = .number s K E
  val : K * 2 ^ (E + 1200).toNat = M
  lo : f.leastPlace ≤ E
  sm : K < 2 * f.binade
structure Fmt (f : Format) (L0 top : Nat) : Prop where
  ex : 3 ≤ 2 ^ f.exponentBits
  lp : f.leastPlace + 1200 = (L0 : Int)
  tp : (L0 : Int) + (2 ^ f.exponentBits - 3 : Nat) + f.fractionBits + 1 = (top : Int)
def topS : Nat := 1328
def topD : Nat := 2224
theorem topS_eq : topS = 1328 := rfl
theorem topD_eq : topD = 2224 := rfl
theorem fmtS : Fmt single 1051 topS := ⟨by decide, by decide, by decide⟩
theorem fmtD : Fmt double 126 topD := ⟨by decide, by decide, by decide⟩

theorem Num.read {f : Format} {w : Nat} {s : Bool} {m : Nat} {e : Int} (h : f.read w = .number s m e) : Num f w s (m * 2 ^ (e + 1200).toNat) m e ∧ e ≤ f.leastPlace + (2 ^ f.exponentBits - 3 : Nat) := by
  have hB : 0 < f.binade := Nat.two_pow_pos _
  have h0 := h
  unfold Format.read at h
  simp only at h
  split at h
  · rename_i hr
    simp only [Datum.number.injEq] at h
    obtain ⟨_, h2, h3⟩ := h
    exact ⟨⟨h0, rfl, by omega, by omega⟩, by omega⟩
  · split at h
    · rename_i hr hi
      simp only [Datum.number.injEq] at h
      obtain ⟨_, h2, h3⟩ := h
      have := Nat.mod_lt (w % f.signWeight) hB
      refine ⟨⟨h0, rfl, by omega, by omega⟩, ?_⟩
      have hq : w % f.signWeight / f.binade < 2 ^ f.exponentBits - 1 := by
        unfold Format.infRung at hi
        exact (Nat.div_lt_iff_lt_mul hB).2 hi
      omega
    · split at h <;> cases h
theorem Num.rep {f : Format} {w : Nat} {s : Bool} {M K : Nat} {E : Int} {L0 top : Nat} (hf : Fmt f L0 top) (h : Num f w s M K E) : ∃ m0 k : Nat, M = m0 * 2 ^ k ∧ m0 < 2 * f.binade ∧ L0 ≤ k :=
  ⟨K, (E + 1200).toNat, h.val.symm, h.sm, by have := hf.lp; have := h.lo; omega⟩
theorem Num.write {f : Format} {L0 top : Nat} (hf : Fmt f L0 top) (s : Bool) {m : Nat} {e : Int} (he : -1200 ≤ e) {m0 k : Nat} (hv : m * 2 ^ (e + 1200).toNat = m0 * 2 ^ k) (hm : m0 < 2 * f.binade) (hk : L0 ≤ k)
    (ht : m * 2 ^ (e + 1200).toNat < 2 ^ top) : ∃ K E, Num f (f.write (.number s m e)) s (m * 2 ^ (e + 1200).toNat) K E := by
  have hlp := hf.lp
  have htp := hf.tp
  by_cases h0 : m = 0
  · subst h0
    have hB : 0 < f.binade := Nat.two_pow_pos _
    refine ⟨0, f.leastPlace, ?_, by simp, Int.le_refl _, by omega⟩
    show f.read (f.nearest s 0 e) = _
    unfold Format.nearest
    rw [if_pos rfl, read_word f s (by
      unfold Format.infRung
      exact Nat.mul_pos (by have := hf.ex; omega) hB), if_pos hB]
  · have hlog : m.log2 + (e + 1200).toNat < top := by
      have h1 := Nat.log2_self_le h0
      have h2 : 2 ^ (m.log2 + (e + 1200).toNat) ≤ m * 2 ^ (e + 1200).toNat := by
        rw [Nat.pow_add]
        exact Nat.mul_le_mul_right _ h1
      exact (Nat.pow_lt_pow_iff_right (by omega)).1 (Nat.lt_of_le_of_lt h2 ht)
    obtain ⟨K, E, h1, h2, h3, h4⟩ := nearest_exact f s hf.ex h0 he (by omega) hv hm (by omega) (by omega)
    exact ⟨K, f.leastPlace + (E : Int), h1, h2, by omega, h3⟩
theorem cmp_mul {x y c : Int} (h : 0 < c) : compare (x * c) (y * c) = compare x y := by
  rcases Int.lt_trichotomy x y with h1 | h1 | h1
  · rw [Int.compare_eq_lt.2 h1, Int.compare_eq_lt.2 (Int.mul_lt_mul_of_pos_right h1 h)]
  · rw [h1, Int.compare_eq_eq.2 rfl, Int.compare_eq_eq.2 rfl]
  · rw [Int.compare_eq_gt.2 h1, Int.compare_eq_gt.2 (Int.mul_lt_mul_of_pos_right h1 h)]
theorem signed_scale (s : Bool) (m : Nat) {e base : Int} (h1 : base ≤ e) (h2 : -1200 ≤ base) : signed s m (e - base).toNat * ((2 ^ (base + 1200).toNat : Nat) : Int) = sgn s (m * 2 ^ (e + 1200).toNat) := by
  rw [signed_eq, Int.mul_assoc, ← Int.natCast_mul, Nat.mul_assoc, ← Nat.pow_add, show (e - base).toNat + (base + 1200).toNat = (e + 1200).toNat by omega]
  rfl
theorem Num.order {f : Format} {L0 top : Nat} (hf : Fmt f L0 top) {x y : Nat} {s t : Bool} {M N K K' : Nat} {E E' : Int} (hx : Num f x s M K E) (hy : Num f y t N K' E') : f.order x y = some (compare (sgn s M) (sgn t N)) := by
  have hlp := hf.lp
  have h1 := hx.lo
  have h2 := hy.lo
  unfold Format.order
  rw [hx.rd, hy.rd]
  unfold Datum.order
  simp only
  congr 1
  have hb : -1200 ≤ min E E' := by omega
  rw [← hx.val, ← hy.val, ← signed_scale s K (Int.min_le_left E E') hb, ← signed_scale t K' (Int.min_le_right E E') hb, cmp_mul]
  have := Nat.two_pow_pos (min E E' + 1200).toNat
  omega
theorem ord_lt {a b : Int} : (some (compare a b) == some Ordering.lt) = decide (a < b) := by
  rw [Bool.eq_iff_iff, decide_eq_true_eq, ← Int.compare_eq_lt]
  simp
theorem ord_gt {a b : Int} : (some (compare a b) == some Ordering.gt) = decide (b < a) := by
  rw [Bool.eq_iff_iff, decide_eq_true_eq, ← Int.compare_eq_gt]
  simp
theorem ord_ne {a b : Int} : (some (compare a b) != some Ordering.eq) = !decide (a = b) := by
  unfold bne
  congr 1
  rw [Bool.eq_iff_iff, decide_eq_true_eq, ← Int.compare_eq_eq]
  simp
theorem sgn_inj {s : Bool} {M N : Nat} : sgn s M = sgn s N ↔ M = N := by
  unfold sgn
  cases s <;> simp <;> omega


def xU : Nat := 1200
theorem xU_eq : xU = 1200 := rfl
def qU : Nat := 2 ^ xU
theorem Num.integral {f : Format} {L0 top : Nat} (hf : Fmt f L0 top) {w : Nat} {s : Bool} {M K : Nat} {E : Int} (h : Num f w s M K E) (way : Toward) :
    ∃ c : Nat, (f.read w).integral way = .number s c 0 ∧ c ≤ M / qU + 1 ∧ (qU ∣ M → c * qU = M) := by
  have hlp := hf.lp
  have hlo := h.lo
  rw [h.rd]
  unfold Datum.integral
  simp only
  refine ⟨_, rfl, ?_⟩
  rw [Nat.shiftLeft_eq]
  have hx := xU_eq
  unfold qU
  by_cases hE : 0 ≤ E
  · obtain ⟨n, rfl⟩ : ∃ n : Nat, E = (n : Int) := ⟨E.toNat, by omega⟩
    have e0 : (-(n : Int)).toNat = 0 := by omega
    have hv := h.val
    rw [show ((n : Int) + 1200).toNat = n + xU by omega, Nat.pow_add, ← Nat.mul_assoc] at hv
    rw [e0, Int.toNat_natCast, cut_whole way s (by simp), Nat.pow_zero, Nat.div_one, ← hv, Nat.mul_div_cancel _ (Nat.two_pow_pos xU)]
    exact ⟨by omega, fun _ => rfl⟩
  · obtain ⟨d, hd⟩ : ∃ d : Nat, E = -(d : Int) := ⟨(-E).toNat, by omega⟩
    have hd12 : d ≤ xU := by omega
    have e1 : E.toNat = 0 := by omega
    have e2 : (-E).toNat = d := by omega
    have hv := h.val
    rw [show (E + 1200).toNat = xU - d by omega] at hv
    have hq : (2 : Nat) ^ xU = 2 ^ d * 2 ^ (xU - d) := by rw [← Nat.pow_add, show d + (xU - d) = xU by omega]
    rw [e1, e2, Nat.pow_zero, Nat.mul_one, hq, ← hv, Nat.mul_div_mul_right _ _ (Nat.two_pow_pos _)]
    refine ⟨cut_le way s K d, fun hdv => ?_⟩
    have hdk : 2 ^ d ∣ K := Nat.dvd_of_mul_dvd_mul_right (Nat.two_pow_pos _) hdv
    rw [cut_whole way s hdk, ← Nat.mul_assoc, Nat.div_mul_cancel hdk]
end Go.Proofs.YtifnpljmjhnbaaaGreatDoor

namespace Go.Proofs.YtifnpljmjhnbaaaGreatDoor
open Go Go.Am Ieee
set_option maxRecDepth 100000


theorem Num.small {f : Format} {w : Nat} {s : Bool} {m : Nat} {e : Int} {L0 top : Nat} (hf : Fmt f L0 top) (h : f.read w = .number s m e) : m * 2 ^ (e + 1200).toNat < 2 ^ top := by
  obtain ⟨h1, h2⟩ := Num.read h
  have hlp := hf.lp
  have htp := hf.tp
  have hb : 2 * f.binade = 2 ^ (f.fractionBits + 1) := by unfold Format.binade; rw [Nat.pow_succ]; omega
  have hs := h1.sm
  rw [hb] at hs
  refine Nat.lt_of_lt_of_le (Nat.mul_lt_mul_of_pos_right hs (Nat.two_pow_pos _)) ?_
  rw [← Nat.pow_add]
  exact Nat.pow_le_pow_right (by omega) (by omega)
theorem conv_ok {src dst : FloatKind} (hne : src ≠ dst) {L1 top1 L0 top : Nat} (hs : Fmt src.format L1 top1) (hd : Fmt dst.format L0 top) {x : Nat} {s : Bool} {M K : Nat} {E : Int} (h : Num src.format x s M K E)
    {m0 k : Nat} (hv : M = m0 * 2 ^ k) (hm : m0 < 2 * dst.format.binade) (hk : L0 ≤ k) (ht : M < 2 ^ top) :
    ∃ r K' E', floatToFloatBits src x dst = some r ∧ Num dst.format r s M K' E' ∧ r < 2 ^ dst.format.width := by
  have hlp := hs.lp
  have hlo := h.lo
  obtain ⟨K', E', hN⟩ := Num.write hd s (m := K) (e := E) (by omega) (by rw [h.val]; exact hv) hm hk (by rw [h.val]; exact ht)
  rw [h.val] at hN
  refine ⟨dst.format.write (.number s K E), K', E', ?_, hN, Format.write_lt _ _⟩
  unfold floatToFloatBits
  rw [if_neg hne]
  unfold FloatKind.decode FloatKind.encode
  rw [h.rd]
  simp only
  rw [hN.rd]
  rfl
theorem mul16 {f : Format} {L0 top : Nat} (hf : Fmt f L0 top) (hL : 100 ≤ L0) {a x j : Nat} {s : Bool} {M K : Nat} {E : Int} (ha : f.read a = .number false (2 ^ j) (4 - (j : Int))) (hj : j ≤ 100) (h : Num f x s M K E) (ht : 16 * M < 2 ^ top) :
    ∃ r K' E', f.mul a x = some r ∧ Num f r s (16 * M) K' E' := by
  have hlp := hf.lp
  have hlo := h.lo
  have hval : 2 ^ j * K * 2 ^ (4 - (j : Int) + E + 1200).toNat = 16 * M := by
    rw [← h.val, Nat.mul_comm (2 ^ j) K, Nat.mul_assoc, ← Nat.pow_add, show j + (4 - (j : Int) + E + 1200).toNat = 4 + (E + 1200).toNat by omega, Nat.pow_add, Nat.mul_left_comm]
  obtain ⟨K', E', hN⟩ := Num.write hf s (m := 2 ^ j * K) (e := 4 - (j : Int) + E) (by omega) (m0 := K) (k := 4 + (E + 1200).toNat) (by
    rw [hval, ← h.val, Nat.pow_add, Nat.mul_left_comm]) h.sm (by omega) (by rw [hval]; exact ht)
  rw [hval] at hN
  refine ⟨_, K', E', ?_, hN⟩
  unfold Format.mul
  rw [ha, h.rd]
  unfold Datum.product
  simp only [Bool.false_xor, Option.map_some]
theorem read_abs {f : Format} {y : Nat} {s : Bool} {M K : Nat} {E : Int} (h : Num f y s M K E) : Num f (y % f.signWeight) false M K E := by
  refine ⟨?_, h.val, h.lo, h.sm⟩
  have hr := h.rd
  unfold Format.read at hr ⊢
  have hS : 0 < f.signWeight := Nat.two_pow_pos _
  have e1 : y % f.signWeight % f.signWeight = y % f.signWeight := Nat.mod_mod _ _
  have e2 : (y % f.signWeight / f.signWeight % 2 == 1) = false := by
    rw [Nat.div_eq_of_lt (Nat.mod_lt _ hS)]
    rfl
  simp only [e1, e2] at hr ⊢
  split at hr
  · rename_i h1
    rw [if_pos h1]
    cases hr
    rfl
  · rename_i h1
    rw [if_neg h1]
    split at hr
    · rename_i h2
      rw [if_pos h2]
      cases hr
      rfl
    · split at hr <;> cases hr
def tenU : Nat := 1024 * qU
theorem qU_pos : 0 < qU := by unfold qU; exact Nat.two_pow_pos _
theorem lt_pow {M a b : Nat} (h : M < 2 ^ a) (hab : a ≤ b) : M < 2 ^ b := Nat.lt_of_lt_of_le h (Nat.pow_le_pow_right (by omega) hab)
theorem le_pow {a b c : Nat} (hab : a ≤ b) (hc : 0 < c) : 2 ^ a ≤ c * 2 ^ b := Nat.le_trans (Nat.pow_le_pow_right (by omega) hab) (Nat.le_mul_of_pos_left _ hc)
theorem pw_lt {a b : Nat} (h : 14 + a < b) : 16 * (1024 * 2 ^ a) < 2 ^ b := by
  rw [show (16 : Nat) = 2 ^ 4 from rfl, show (1024 : Nat) = 2 ^ 10 from rfl, ← Nat.pow_add, ← Nat.pow_add]
  exact Nat.pow_lt_pow_right (by omega) (by omega)
theorem pw_eq {a b : Nat} (h : a + 13 = b) : 8388608 * 2 ^ a = 1024 * 2 ^ b := by
  rw [show (8388608 : Nat) = 2 ^ 23 from rfl, show (1024 : Nat) = 2 ^ 10 from rfl, ← Nat.pow_add, ← Nat.pow_add, ← h, show 23 + a = 10 + (a + 13) by omega]
theorem ten_lt {M : Nat} (h : M ≤ tenU) : 16 * M < 2 ^ topS := by
  unfold tenU qU at h
  exact Nat.lt_of_le_of_lt (Nat.mul_le_mul_left 16 h) (pw_lt (by rw [xU_eq, topS_eq]; omega))
theorem readS16 : single.read 1098907648 = .number false (2 ^ 23) (4 - ((23 : Nat) : Int)) := by decide
theorem readD16 : double.read 4625196817309499392 = .number false (2 ^ 52) (4 - ((52 : Nat) : Int)) := by decide
theorem numT : Num single 1149239296 false tenU 8388608 (-13) := by
  refine ⟨by decide, ?_, by decide, by decide⟩
  unfold tenU qU
  exact pw_eq (by decide)
theorem numTn : Num single 3296722944 true tenU 8388608 (-13) := by
  refine ⟨by decide, ?_, by decide, by decide⟩
  unfold tenU qU
  exact pw_eq (by decide)
theorem numX : ∃ N, Num double 9218868437227405311 false N 9007199254740991 971 ∧ 2 ^ topS ≤ N :=
  ⟨_, ⟨by decide, rfl, by decide, by decide⟩, le_pow (by decide) (by decide)⟩
theorem whole_lt {c : Nat} (h : c ≤ 16385) {top : Nat} (ht : 1216 ≤ top) : c * 2 ^ xU < 2 ^ top := by
  have h1 : c < 2 ^ 15 := by omega
  have h2 := Nat.mul_lt_mul_of_pos_right h1 (Nat.two_pow_pos xU)
  rw [← Nat.pow_add] at h2
  exact lt_pow h2 (by rw [xU_eq]; omega)
structure Smp0 (x m y y2 z : Nat) (n : Int) (M : Nat) : Prop where
  hm : floatBits .mul .f32 1098907648 x = some m
  hy : floatToFloatBits .f32 x .f64 = some y
  h2 : floatToFloatBits .f32 m .f64 = some y2
  hn : floatToIntVal .f32 m .i64 = some n
  hz : floatToFloatBits .f64 (flr y2) .f32 = some z
  b1 : y < 18446744073709551616
  b2 : (FloatKind.f64.format.order y y != some .eq) = false
  b3 : (FloatKind.f64.format.order (y % 9223372036854775808) 9218868437227405311 == some .gt) = false
  b4 : (FloatKind.f32.format.order x 3296722944 == some .lt) = false
  b5 : (FloatKind.f32.format.order x 1149239296 == some .gt) = false
  b6 : ∀ s t, FloatKind.f64.decode y2 ≠ .nan s t
  b7 : (FloatKind.f32.format.order z m != some .eq) = !decide (qU ∣ 16 * M)
theorem dbl_ok {x : Nat} {s : Bool} {M K : Nat} {E : Int} (h : Num single x s M K E) : ∃ y K' E', floatToFloatBits .f32 x .f64 = some y ∧ Num double y s M K' E' ∧ y < 18446744073709551616 := by
  obtain ⟨m0, k, h1, h2, h3⟩ := h.rep fmtS
  have hsm := Num.small fmtS h.rd
  rw [h.val] at hsm
  obtain ⟨r, K', E', e1, e2, e3⟩ := conv_ok (src := .f32) (dst := .f64) (by decide) fmtS fmtD h h1 (Nat.lt_of_lt_of_le h2 (by decide)) (by omega) (lt_pow hsm (by decide))
  exact ⟨r, K', E', e1, e2, e3⟩
theorem sgn_le {s : Bool} {M T : Nat} (h : M ≤ T) : ¬ sgn s M < sgn true T ∧ ¬ sgn false T < sgn s M := by
  unfold sgn
  cases s <;> simp <;> omega
theorem smp_all {x : Nat} {s : Bool} {M K : Nat} {E : Int} (h : Num single x s M K E) (hM : M ≤ tenU) : ∃ m y y2 z n, Smp0 x m y y2 z n M := by
  have h16 := ten_lt hM
  obtain ⟨m, K1, E1, hm, N1⟩ := mul16 fmtS (by omega) readS16 (by omega) h h16
  obtain ⟨y, K2, E2, hy, N2, hy64⟩ := dbl_ok h
  obtain ⟨y2, K3, E3, h2, N3, _⟩ := dbl_ok N1
  have hc16 : 16 * M / qU ≤ 16384 := by
    unfold tenU at hM
    exact Nat.le_of_lt_succ ((Nat.div_lt_iff_lt_mul qU_pos).2 (by have := qU_pos; omega))
  obtain ⟨c, hc, hcl, hce⟩ := N3.integral fmtD .down
  obtain ⟨c0, hc0, hcl0, _⟩ := N1.integral fmtS .zero
  have e1200 : ((0 : Int) + 1200).toNat = xU := by decide
  have hx := xU_eq
  have hts := topS_eq
  have htd := topD_eq
  obtain ⟨K4, E4, N4⟩ := Num.write fmtD s (m := c) (e := 0) (by omega) (m0 := c) (k := xU) (by rw [e1200]) (Nat.lt_of_lt_of_le (show c < 16386 by omega) (by decide)) (by omega) (by rw [e1200]; exact whole_lt (by omega) (by omega))
  rw [e1200] at N4
  have hfl : flr y2 = double.write (.number s c 0) := by
    unfold flr FloatKind.decode FloatKind.encode
    show double.write ((double.read y2).integral .down) = _
    rw [hc]
  rw [← hfl] at N4
  obtain ⟨z, K5, E5, hz, N5, _⟩ := conv_ok (src := .f64) (dst := .f32) (by decide) fmtD fmtS N4 (m0 := c) (k := xU) rfl (Nat.lt_of_lt_of_le (show c < 16386 by omega) (by decide)) (by omega) (whole_lt (by omega) (by omega))
  obtain ⟨NX, hX, hXl⟩ := numX
  have hsm := Num.small fmtS h.rd
  rw [h.val] at hsm
  have hn : floatToIntVal .f32 m .i64 = some (signed s c0 0) := by
    unfold floatToIntVal Datum.toInt FloatKind.decode
    rw [show ((FloatKind.f32.format.read m).integral .zero) = .number s c0 0 from hc0]
    simp only
    rw [if_pos]
    have hq : signed s c0 0 = (bif s then -1 else 1) * (c0 : Int) := by rw [signed_eq]; simp
    rw [hq]
    have hmin : IntKind.i64.min = -9223372036854775808 := by decide
    have hmax : IntKind.i64.max = 9223372036854775807 := by decide
    rw [hmin, hmax]
    cases s <;> simp <;> omega
  refine ⟨m, y, y2, z, _, hm, hy, h2, hn, hz, hy64, ?_, ?_, ?_, ?_, ?_, ?_⟩
  · show (double.order y y != some .eq) = false
    rw [N2.order fmtD N2, ord_ne, decide_eq_true rfl]
    rfl
  · show (double.order (y % double.signWeight) 9218868437227405311 == some .gt) = false
    rw [(read_abs N2).order fmtD hX, ord_gt, decide_eq_false_iff_not]
    exact (sgn_le (s := false) (M := M) (T := NX) (by omega)).2
  · show (single.order x 3296722944 == some .lt) = false
    rw [h.order fmtS numTn, ord_lt, decide_eq_false_iff_not]
    exact (sgn_le hM).1
  · show (single.order x 1149239296 == some .gt) = false
    rw [h.order fmtS numT, ord_gt, decide_eq_false_iff_not]
    exact (sgn_le hM).2
  · intro a b e
    have : double.read y2 = .nan a b := e
    rw [N3.rd] at this
    cases this
  · show (single.order z m != some .eq) = _
    rw [N5.order fmtS N1, ord_ne]
    congr 1
    rw [Bool.eq_iff_iff, decide_eq_true_eq, decide_eq_true_eq, sgn_inj]
    exact ⟨fun e => ⟨c, by rw [← e, Nat.mul_comm]; rfl⟩, fun hd => hce hd⟩
theorem isS_of {x m y y2 z : Nat} {n : Int} {M : Nat} (S : Smp0 x m y y2 z n M) (hd : qU ∣ 16 * M) : isS x = true := by
  have b7 := S.b7
  rw [decide_eq_true hd] at b7
  unfold isS
  rw [S.hm, S.hy]
  simp only
  unfold isS1
  rw [S.h2, S.hn]
  simp only
  rw [S.hz]
  simp only
  have b6 : notNan (FloatKind.f64.decode y2) = true := by
    unfold notNan
    split
    · rename_i s t e
      exact absurd e (S.b6 s t)
    · rfl
  rw [S.b2, S.b3, S.b4, S.b5, b6, b7, (Nat.blt_eq).mpr S.b1]
  rfl
end Go.Proofs.YtifnpljmjhnbaaaGreatDoor
