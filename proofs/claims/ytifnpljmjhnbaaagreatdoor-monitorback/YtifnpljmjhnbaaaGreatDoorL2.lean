/-
  A part of the proof of the statement that the claim names: see the last file.
-/
import Derived.Test.YtifnpljmjhnbaaaGreatDoorL1
import Derived.Test.YtifnpljmjhnbaaaGreatDoorAm4
import Derived.Test.YtifnpljmjhnbaaaGreatDoorAm5
import Derived.Test.YtifnpljmjhnbaaaGreatDoorS1
namespace Go.Proofs.YtifnpljmjhnbaaaGreatDoor
open Go Go.Am Go.RowKit
set_option maxRecDepth 100000
variable {w0 : World}
noncomputable section


section
variable {α : Type} (z : α) (s : ByteArray) (zb : Bool) (k : Int → Bool → α)
def decC (pos : Nat) : Int := (((Utf8.decode s pos).1 : Nat) : Int)
def nxN (n c : Int) : Int := IntKind.i64.wrap (IntKind.i64.wrap (10 * n) + IntKind.i64.wrap (IntKind.i32.wrap (c - 48)))
def chE (next : Nat → Int → α) (pos : Nat) (n : Int) : α := bif Nat.blt pos s.size then bif zb then z else bif decide (decC s pos < 48) then z else bif decide (decC s pos > 57) then z else next (pos + (Utf8.decode s pos).2) (nxN n (decC s pos)) else k n zb
def chn : Nat → Nat → Int → α
  | 0 => chE z s zb k (chE z s zb k fun _ _ => z)
  | R + 1 => fun pos n => bif Nat.blt pos s.size then bif zb then k n true else bif decide (decC s pos < 48) then k n true else bif decide (decC s pos > 57) then k n true else chn R (pos + (Utf8.decode s pos).2) (nxN n (decC s pos)) else k n zb
def mtB : ByteArray := ⟨#[]⟩
def numW (R : Nat) (dg : Int) : α := bif s.toList == mtB.toList then bif Nat.blt 0 s.size then k 0 true else k 0 true else bif decide (((s.size : Nat) : Int) > dg) then bif Nat.blt 0 s.size then k 0 true else k 0 true else
  bif decide (((s.size : Nat) : Int) > 1) then bif (decide ((0 : Int) ≤ 0) && decide ((0 : Int) < (s.size : Nat))) then chn z s ((((s.get! (Int.toNat 0)).toNat : Nat) : Int) == 48) k R 0 0 else z else chn z s false k R 0 0
end
def ob0 (lo n : Nat) (wr : Bool) : AObj := .row [.slice (some ⟨K0 + 1, 2, some lo⟩) n 1, .bool wr] true none
def inM (m : Nat) : Bool := Nat.beq 1 1 && (decide ((0 : Int) ≤ 0) && decide ((0 : Int) < (m : Nat)))
def cutM (m : Nat) : Bool := decide ((0 : Int) ≤ 1) && (decide ((1 : Int) ≤ (m : Nat)) && decide (((m : Nat) : Int) ≤ (m : Nat)))
abbrev VO := Option (Value × AObj)
def gV (b : Bool) (k : VO) : VO := bif b then k else none
def wrd (l : SLs) (lo : Nat) : ByteArray := (nth l (Int.toNat 0 + lo)).1
def kV (lo n : Nat) (v : Int) (wr : Bool) : VO := some (.int .i64 v, ob0 (lo + Int.toNat 1) (((n : Nat) : Int).toNat - Int.toNat 1) wr)
def t139 (R : Nat) (l : SLs) (lo n : Nat) (wr : Bool) (dg : Int) : VO :=
  bif ((n : Nat) : Int) == 0 then some (.int .i64 0, ob0 lo n true) else gV (inM n) (gV (cutM n) (
    bif wr then (bif Nat.blt 0 (wrd l lo).size then kV lo n 0 true else kV lo n 0 true) else numW none (wrd l lo) (kV lo n) R dg))
def q139 (w0 : World) (f : Nat) (l : SLs) (lo n : Nat) (wr : Bool) (dg : Int) : VO := bodyGo ((cfg w0).at []) none (evK ((cfg w0).at []) none f) (fnOf Tryz.f139) [.pointer (some ⟨K0, 0, none⟩), .int .i64 dg] [ob0 lo n wr, .vec sK1 l false] fun v h => some (v, h.at K0)
theorem run139 (l : SLs) (lo n : Nat) (wr : Bool) (dg : Int) : q139 w0 36 l lo n wr dg = t139 18 l lo n wr dg := by kernel_rfl


def scan : List UInt8 → Int → Int × Bool
  | [], n => (n, false)
  | b :: l, n => bif decide (((b.toNat : Nat) : Int) < 48) || decide (((b.toNat : Nat) : Int) > 57) then (n, true) else scan l (10 * n + (b.toNat - 48))
def num0 (l : List UInt8) (dg : Int) : Bool := decide (l.length = 0) || (decide ((l.length : Int) > dg) || (decide (l.length > 1) && l.head? == some 48))
def numL (l : List UInt8) (dg : Int) : Int × Bool := bif num0 l dg then (0, true) else scan l 0
theorem drop_get {s : ByteArray} {i : Nat} (h : i < s.size) : (bl s).drop i = s.get! i :: (bl s).drop (i + 1) := by
  have h' : i < (bl s).length := by rw [bl_len]; exact h
  rw [List.drop_eq_getElem_cons h']
  congr 1
  have h2 : i < s.data.size := h
  show s.data.toList[i] = s.get! i
  rw [Array.getElem_toList]
  show s.data[i] = s.data[i]!
  rw [getElem!_pos s.data i h2]
section
variable {α : Type} (z : α) (s : ByteArray) (k : Int → Bool → α)
theorem chn_t : ∀ (R pos : Nat) (n : Int), s.size - pos ≤ R → chn z s true k R pos n = k n true
  | 0, pos, n, h => by
    unfold chn chE
    rw [show Nat.blt pos s.size = false by cases hb : Nat.blt pos s.size with | false => rfl | true => rw [Nat.blt_eq] at hb; omega]
    rfl
  | R + 1, pos, n, h => by
    unfold chn
    cases Nat.blt pos s.size <;> rfl
theorem pow_mono {a b : Nat} (h : a ≤ b) : (10 : Int) ^ a ≤ 10 ^ b := by
  have : (10 : Nat) ^ a ≤ 10 ^ b := Nat.pow_le_pow_right (by omega) h
  exact_mod_cast this
theorem chn_f : ∀ (R pos : Nat) (n : Int), s.size - pos ≤ R → pos ≤ s.size → s.size ≤ 15 → 0 ≤ n → n < 10 ^ pos → chn z s false k R pos n = k (scan ((bl s).drop pos) n).1 (scan ((bl s).drop pos) n).2
  | R, pos, n, h, hp, h15, hn0, hn => by
    rcases Nat.lt_or_ge pos s.size with hlt | hge
    · cases R with
      | zero => omega
      | succ R =>
        rw [drop_get hlt]
        have hb : Nat.blt pos s.size = true := by rw [Nat.blt_eq]; exact hlt
        unfold chn scan
        rw [hb]
        simp only [cond_true, cond_false]
        have hp15 : (10 : Int) ^ pos ≤ 10 ^ 15 := pow_mono (by omega)
        by_cases hc : (s.get! pos).toNat < 128
        · have hd := dec_small hc
          unfold decC
          rw [hd]
          simp only
          cases h1 : decide (((s.get! pos).toNat : Int) < 48) with
          | true => rfl
          | false =>
            cases h2 : decide (((s.get! pos).toNat : Int) > 57) with
            | true => rfl
            | false =>
              simp only [Bool.or_false, cond_false]
              have h1 := of_decide_eq_false h1
              have h2 := of_decide_eq_false h2
              have e : nxN n ((s.get! pos).toNat : Int) = 10 * n + ((s.get! pos).toNat - 48) := by
                unfold nxN
                rw [show IntKind.i32.wrap (((s.get! pos).toNat : Int) - 48) = ((s.get! pos).toNat : Int) - 48 from IntWalk.i32_in _ ⟨by omega, by omega⟩, W_id (n := 10 * n) (by omega) (by omega), W_id (n := ((s.get! pos).toNat : Int) - 48) (by omega) (by omega), W_id (by omega) (by omega)]
              rw [e]
              refine chn_f R (pos + 1) _ (by omega) (by omega) h15 (by omega) ?_
              rw [Int.pow_succ]
              omega
        · have hd := dec_big hc
          have e1 : decide (decC s pos < 48) = false := decide_eq_false (by unfold decC; omega)
          have e2 : decide (decC s pos > 57) = true := decide_eq_true (by unfold decC; omega)
          rw [e1, e2, decide_eq_true (show ((s.get! pos).toNat : Int) > 57 by omega), Bool.or_true]
          rfl
    · have hb : Nat.blt pos s.size = false := by cases hb : Nat.blt pos s.size with | false => rfl | true => rw [Nat.blt_eq] at hb; omega
      rw [List.drop_eq_nil_of_le (by rw [bl_len]; exact hge)]
      cases R with
      | zero => unfold chn chE; rw [hb]; rfl
      | succ R => unfold chn; rw [hb]; rfl
theorem numW_eq {R : Nat} (hR : 15 ≤ R) {dg : Int} (hdg : dg ≤ 15) : numW z s k R dg = k (numL (bl s) dg).1 (numL (bl s) dg).2 := by
  unfold numW numL num0
  rw [bl_len, show (s.toList == mtB.toList) = decide (s.size = 0) from empty_bytes s]
  by_cases h0 : s.size = 0
  · rw [decide_eq_true h0]
    cases Nat.blt 0 s.size <;> rfl
  · rw [decide_eq_false h0]
    simp only [cond_false, Bool.false_or]
    by_cases h1 : ((s.size : Nat) : Int) > dg
    · rw [decide_eq_true h1]
      cases Nat.blt 0 s.size <;> rfl
    · rw [decide_eq_false h1]
      simp only [cond_false, Bool.false_or]
      have hd := drop_get (s := s) (i := 0) (by omega)
      rw [List.drop_zero] at hd
      by_cases h2 : s.size > 1
      · rw [decide_eq_true (show ((s.size : Nat) : Int) > 1 by omega), decide_eq_true h2, decide_eq_true (show (0 : Int) ≤ 0 by omega), decide_eq_true (show (0 : Int) < (s.size : Nat) by omega)]
        simp only [Bool.and_self, cond_true, Bool.true_and]
        rw [show ((bl s).head? == some 48) = (((((s.get! (Int.toNat 0)).toNat : Nat) : Int)) == 48) by
          rw [hd, show Int.toNat 0 = 0 from rfl]
          show (s.get! 0 == 48) = _
          cases hx : (s.get! 0 == 48) with
          | true => rw [eq_of_beq hx]; rfl
          | false =>
            symm
            rw [beq_eq_false_iff_ne] at hx ⊢
            intro e
            exact hx (UInt8.toNat_inj.1 (by show (s.get! 0).toNat = 48; omega))]
        cases hz : (((((s.get! (Int.toNat 0)).toNat : Nat) : Int)) == 48) with
        | true => exact chn_t z s k R 0 0 (by omega)
        | false => exact chn_f z s k R 0 0 (by omega) (by omega) (by omega) (by omega) (by omega)
      · rw [decide_eq_false (show ¬ ((s.size : Nat) : Int) > 1 by omega), decide_eq_false h2]
        simp only [cond_false, Bool.false_and]
        exact chn_f z s k R 0 0 (by omega) (by omega) (by omega) (by omega) (by omega)
end
end
end Go.Proofs.YtifnpljmjhnbaaaGreatDoor

namespace Go.Proofs.YtifnpljmjhnbaaaGreatDoor
open Go Go.Am Go.RowKit
set_option maxRecDepth 100000
variable {w0 : World}
noncomputable section


def okN (n : Nat) (dg : Int) : Bool := inM n && (cutM n && decide (dg ≤ 15))
def nmP (l : SLs) (lo : Nat) (wr : Bool) (dg : Int) : Int × Bool := bif wr then (0, true) else numL (bl (wrd l lo)) dg
def nmH : List Value → Heap → FT (Value × Heap) := fun argv h =>
  match argv with
  | [.pointer (some ⟨b, 0, none⟩), .int .i64 dg] => match h.at b with
    | .row [.slice (some ⟨bw, 2, some lo⟩) n 1, .bool wr] true none => match h.at bw with
      | .vec ks l _ => match recast ks sK1 l with
        | some l => .br (((n : Nat) : Int) == 0) (.leaf (.int .i64 0, h.put b (.row [.slice (some ⟨bw, 2, some lo⟩) n 1, .bool true] true none)))
          (.br (okN n dg) (.leaf (.int .i64 (nmP l lo wr dg).1, h.put b (.row [.slice (some ⟨bw, 2, some (lo + Int.toNat 1)⟩) (((n : Nat) : Int).toNat - Int.toNat 1) 1, .bool (nmP l lo wr dg).2] true none))) .bad)
        | none => .bad
      | _ => .bad
    | _ => .bad
  | _ => .bad
def numC : Nat × (List Value → Heap → FT (Value × Heap)) := (139, nmH)
theorem q139_run (h0 : Lib0 w0) {l : SLs} {lo n : Nat} {wr : Bool} {dg : Int} {v : Value} {o : AObj} (h : t139 18 l lo n wr dg = some (v, o)) :
    ∃ h', CallI (cfg w0) 139 [.pointer (some ⟨K0, 0, none⟩), .int .i64 dg] [ob0 lo n wr, .vec sK1 l false] v h' ∧ h'.at K0 = o := by
  rw [← run139 (w0 := w0)] at h
  unfold q139 at h
  have hE : OkE (z := (none : VO)) (ev ((cfg w0).at []) 36) (evK ((cfg w0).at []) none 36) := evK_eq 36
  rw [bodyGo_eq hE] at h
  cases hc : callBody ((cfg w0).at []) (ev ((cfg w0).at []) 36) (fnOf Tryz.f139) [.pointer (some ⟨K0, 0, none⟩), .int .i64 dg] [ob0 lo n wr, .vec sK1 l false] with
  | none => rw [hc] at h; cases h
  | some p =>
    obtain ⟨v', h'⟩ := p
    rw [hc] at h
    have h : some (v', h'.at K0) = some (v, o) := h
    cases h
    refine ⟨h', ?_, rfl⟩
    have hI := callBody_sound (C := (cfg w0).at []) (at_ok (cfg_ok w0) []) (ev_sound (at_ok (cfg_ok w0) []) (at_sp h0 (cs := []) trivial) 36) (g := 139) (fd := fnOf Tryz.f139) rfl hc
    exact CallI.sy.1 hI
theorem gdH139 (h0 : Lib0 w0) : GdH (cfg w0) numC := fun argv h v h' hd => by
  replace hd : (nmH argv h).run = some (v, h') := hd
  unfold nmH at hd
  split at hd
  · rename_i b dg
    split at hd
    · rename_i bw lo n wr hb
      split at hd
      · rename_i ks l o hw
        split at hd
        · rename_i l' hl
          obtain ⟨e, hl'⟩ := recast_eq hl
          subst e
          cases hl'
          have hb' : h.at b = .row ([.slice (some ⟨K0 + 1, 2, some lo⟩) n 1, .bool wr].map (lft bw)) true none := hb
          have hcs : ∀ (lo n : Nat) (wr : Bool), ∀ c ∈ [Value.slice (some ⟨K0 + 1, 2, some lo⟩) n 1, Value.bool wr], okm c = true := fun lo n wr c hc => by
            simp only [List.mem_cons, List.not_mem_nil, or_false] at hc
            rcases hc with rfl | rfl <;> rfl
          have key : ∀ (lo' n' : Nat) (wr' : Bool) (x : Int), t139 18 l lo n wr dg = some (.int .i64 x, ob0 lo' n' wr') → CallI (cfg w0) 139 [.pointer (some ⟨b, 0, none⟩), .int .i64 dg] h (.int .i64 x) (h.put b (.row [.slice (some ⟨bw, 2, some lo'⟩) n' 1, .bool wr'] true none)) := fun lo' n' wr' x ht => by
            obtain ⟨h', hI, hat⟩ := q139_run h0 ht
            exact callI_meth (cells' := [.slice (some ⟨K0 + 1, 2, some lo'⟩) n' 1, .bool wr']) hb' hw (hcs lo n wr) (hcs lo' n' wr') (fun a ha => by simp only [List.mem_cons, List.not_mem_nil, or_false] at ha; rw [ha]; rfl) rfl rfl hI hat
          cases hz : (((n : Nat) : Int) == 0) with
          | true =>
            rw [hz] at hd
            cases hd
            exact key lo n true 0 (by unfold t139; rw [hz]; rfl)
          | false =>
            rw [hz] at hd
            have hd : (FT.br (okN n dg) (FT.leaf (Value.int .i64 (nmP l lo wr dg).1, h.put b (.row [.slice (some ⟨bw, 2, some (lo + Int.toNat 1)⟩) (((n : Nat) : Int).toNat - Int.toNat 1) 1, .bool (nmP l lo wr dg).2] true none))) FT.bad).run = some (v, h') := hd
            cases hk : okN n dg with
            | false => rw [hk] at hd; cases hd
            | true =>
              rw [hk] at hd
              cases hd
              refine key _ _ _ _ ?_
              unfold okN at hk
              simp only [Bool.and_eq_true, decide_eq_true_eq] at hk
              obtain ⟨k1, k2, k3⟩ := hk
              unfold t139 gV nmP
              rw [hz, k1, k2]
              cases wr with
              | true => simp only [cond_true, cond_false]; cases Nat.blt 0 (wrd l lo).size <;> rfl
              | false =>
                simp only [cond_true, cond_false]
                rw [numW_eq none (wrd l lo) (kV lo n) (by omega) k3]
                rfl
        · cases hd
      · cases hd
    · cases hd
  · cases hd
end
end Go.Proofs.YtifnpljmjhnbaaaGreatDoor
