/-
 A part of the proof of the statement that the claim names: see the last file.
-/
import Derived.Test.YtmlglimahbjgbaaGreatDoorS2
import Derived.Test.YtmlglimahbjgbaaGreatDoorAm5
namespace Go.Proofs.YtmlglimahbjgbaaGreatDoor
open Go Go.Am Go.RowKit Go.Town
set_option maxRecDepth 100000
variable {w0 : World}
noncomputable section
def ob0 (lo n : Nat) (wr : Bool) : AObj := .row [.slice (some ⟨K0 + 1, 2, some lo⟩) n 1, .bool wr] true none
def inM (m : Nat) : Bool := Nat.beq 1 1 && (decide ((0 : Int) ≤ 0) && decide ((0 : Int) < (m : Nat)))
def cutM (m : Nat) : Bool := decide ((0 : Int) ≤ 1) && (decide ((1 : Int) ≤ (m : Nat)) && decide (((m : Nat) : Int) ≤ (m : Nat)))
abbrev VO := Option (Value × AObj)
def gVs (b : Bool) (k : VO) : VO := bif b then k else none
def wrd (l : SLs) (lo : Nat) : ByteArray := (nth l (Int.toNat 0 + lo)).1
def nilR (wr : Bool) : AObj := .row [.slice none 0 0, .bool wr] true none
def t155 (l : SLs) (lo n : Nat) (wr : Bool) : VO :=
 bif ((n : Nat) : Int) == 0 then some (.string mtL, nilR true) else gVs (inM n) (bif (wrd l lo).toList == mtL.toList then some (.string mtL, nilR true) else
  gVs (inM n) (gVs (cutM n) (some (.string (wrd l lo), ob0 (lo + Int.toNat 1) (((n : Nat) : Int).toNat - Int.toNat 1) wr))))
def q155 (w0 : World) (f : Nat) (l : SLs) (lo n : Nat) (wr : Bool) : VO := bodyGo ((cfg w0).at []) none (evK ((cfg w0).at []) none f) (fnOf Tryz.f155) [.pointer (some ⟨K0, 0, none⟩)] [ob0 lo n wr, .vec sK1 l false] fun v h => some (v, h.at K0)
theorem run155 (l : SLs) (lo n : Nat) (wr : Bool) : q155 w0 36 l lo n wr = t155 l lo n wr := by kernel_rfl
def bdW (l : SLs) (lo n : Nat) : Bool := bif ((n : Nat) : Int) == 0 then true else (wrd l lo).toList == mtL.toList
def wdW (l : SLs) (lo n : Nat) : ByteArray := bif bdW l lo n then mtL else wrd l lo
def wdL (l : SLs) (lo n : Nat) : Nat := bif bdW l lo n then l.length else lo + 1
def wdN (l : SLs) (lo n : Nat) : Nat := bif bdW l lo n then 0 else n - 1
def wdB (l : SLs) (lo n : Nat) (wr : Bool) : Bool := bif bdW l lo n then true else wr
def wdH : List Value → Heap → FT (Value × Heap) := fun argv h =>
 match argv with
 | [.pointer (some ⟨b, 0, none⟩)] => match h.at b with
   | .row [.slice (some ⟨bw, _, some lo⟩) n 1, .bool wr] true none => match h.at bw with
     | .vec ks l _ => match recast ks sK1 l with
       | some l => .leaf (.string (wdW l lo n), h.put b (.row [.slice (some ⟨bw, 2, some (wdL l lo n)⟩) (wdN l lo n) 1, .bool (wdB l lo n wr)] true none))
       | none => .bad
     | _ => .bad
   | _ => .bad
 | _ => .bad
def wdC : Nat × (List Value → Heap → FT (Value × Heap)) := (155, wdH)
theorem q_run {g : FuncId} {fd : AFn} {C : Cfg} (ok : CfgOk C) (sp : SpecOK C) (hfd : C.fn g = some fd) {f : Nat} {argv : List Value} {h : Heap} {v : Value} {o : AObj}
  (hq : bodyGo C (none : VO) (evK C (none : VO) f) fd argv h (fun v h => some (v, h.at K0)) = some (v, o)) : ∃ h', CallI C g argv h v h' ∧ h'.at K0 = o := by
 have hE : OkE (z := (none : VO)) (ev C f) (evK C none f) := evK_eq f
 rw [bodyGo_eq hE] at hq
 cases hc : callBody C (ev C f) fd argv h with
 | none => rw [hc] at hq; cases hq
 | some p =>
   obtain ⟨v', h'⟩ := p
   rw [hc] at hq
   have hq : some (v', h'.at K0) = some (v, o) := hq
   cases hq
   exact ⟨h', callBody_sound (C := C) ok (ev_sound ok sp f) (g := g) (fd := fd) hfd hc, rfl⟩
theorem okm_sub (lo n : Nat) (wr : Bool) : ∀ c ∈ [Value.slice (some ⟨K0 + 1, 2, some lo⟩) n 1, Value.bool wr], okm c = true := fun c hc => by
 simp only [List.mem_cons, List.not_mem_nil, or_false] at hc
 rcases hc with rfl | rfl <;> rfl
theorem okm_nil (wr : Bool) : ∀ c ∈ [Value.slice none 0 0, Value.bool wr], okm c = true := fun c hc => by
 simp only [List.mem_cons, List.not_mem_nil, or_false] at hc
 rcases hc with rfl | rfl <;> rfl
theorem two_cells {P : Nat → Value → Prop} {a b : Value} (h0 : P 0 a) (h1 : P 1 b) : ∀ (j : Nat) (c : Value), [a, b][j]? = some c → P j c := fun j c hj => by
 match j, hj with
 | 0, hj => cases hj; exact h0
 | 1, hj => cases hj; exact h1
 | j + 2, hj => simp at hj
theorem callI_part {C : Cfg} {g : FuncId} {argv : List Value} {h h1 : Heap} {v : Value} {b bw o lo n : Nat} {wr : Bool} (hb : h.at b = .row [.slice (some ⟨bw, o, some lo⟩) n 1, .bool wr] true none)
  (H : CallI C g argv (h.put b (.row [.slice (some ⟨bw, 2, some lo⟩) n 1, .bool wr] true none)) v h1) : CallI C g argv h v h1 :=
 CallI.before H hb rfl fun r _ _ => two_cells (P := fun j c' => ∃ c, [Value.slice (some ⟨bw, o, some lo⟩) n 1, Value.bool wr][j]? = some c ∧ ∀ u, VR r c u → VR r c' u) ⟨_, rfl, fun _ hu => hu.part⟩ ⟨_, rfl, fun _ hu => hu⟩
theorem callI_none {C : Cfg} {g : FuncId} {argv : List Value} {h h1 : Heap} {v : Value} {b bw : Nat} {wr : Bool} {l : SLs} {own : Bool} (hb : h1.at b = .row [.slice none 0 0, .bool wr] true none) (hw : h1.at bw = .vec sK1 l own)
  (H : CallI C g argv h v h1) : CallI C g argv h v (h1.put b (.row [.slice (some ⟨bw, 2, some l.length⟩) 0 1, .bool wr] true none)) :=
 CallI.reword H hb rfl fun r w HH => two_cells (P := fun j c' => ∃ c, [Value.slice none 0 0, Value.bool wr][j]? = some c ∧ ∀ u, VR r c u → VR r c' u) ⟨_, rfl, fun _ hu => VR.none_part HH hw hu⟩ ⟨_, rfl, fun _ hu => hu⟩
theorem gdH155 (h0 : Lib0 w0) : GdH (cfg w0) wdC := fun argv h v h' hd => by
 replace hd : (wdH argv h).run = some (v, h') := hd
 unfold wdH at hd
 split at hd
 ·rename_i b
  split at hd
  ·rename_i bw o' lo n wr hb
   split at hd
   ·rename_i ks l o hw
    split at hd
    ·rename_i l' hl
     obtain ⟨e, hl'⟩ := recast_eq hl
     subst e
     cases hl'
     cases hd
     obtain ⟨kb, lb⟩ := at_lt (h := h) (b := b) (by rw [hb]; rfl)
     have hne : bw ≠ b := fun e => by rw [e, hb] at hw; cases hw
     refine callI_part (o := o') hb ?_
     have hb2 : (h.put b (.row [.slice (some ⟨bw, 2, some lo⟩) n 1, .bool wr] true none)).at b = .row ([.slice (some ⟨K0 + 1, 2, some lo⟩) n 1, .bool wr].map (lft bw)) true none := by rw [at_put kb lb, if_pos rfl]; rfl
     have hw2 : (h.put b (.row [.slice (some ⟨bw, 2, some lo⟩) n 1, .bool wr] true none)).at bw = .vec sK1 l o := by rw [at_put kb lb, if_neg hne]; exact hw
     have key : ∀ (x : Value) (cells' : List Value), Am.scal x = true → cells'.length = 2 → (∀ c ∈ cells', okm c = true) → t155 l lo n wr = some (x, .row cells' true none) → CallI (cfg w0) 155 [.pointer (some ⟨b, 0, none⟩)] (h.put b (.row [.slice (some ⟨bw, 2, some lo⟩) n 1, .bool wr] true none)) x (h.put b (.row (cells'.map (lft bw)) true none)) := fun x cells' hx hl2 hok ht => by
      obtain ⟨h1, hI, hat⟩ := q_run (at_ok (cfg_ok w0) []) (at_sp h0 (cs := []) trivial) (g := 155) (fd := fnOf Tryz.f155) rfl (f := 36) ((run155 (w0 := w0) l lo n wr).trans ht)
      have := callI_meth (cells' := cells') hb2 hw2 (okm_sub lo n wr) hok (avs := []) (fun a ha => by cases ha) hx hl2 (CallI.sy.1 hI) hat
      rwa [put_put] at this
     unfold wdW wdL wdN wdB
     cases hbd : bdW l lo n with
     | true =>
       have ht : t155 l lo n wr = some (.string mtL, nilR true) := by
        unfold bdW at hbd
        unfold t155
        cases hz : (((n : Nat) : Int) == 0) with
        | true => rfl
        | false =>
          rw [hz] at hbd
          have hn : 1 ≤ n := by have : ((n : Nat) : Int) ≠ 0 := by simpa using hz
                                omega
          have e1 : inM n = true := by unfold inM; rw [decide_eq_true (show (0 : Int) ≤ 0 by omega), decide_eq_true (show (0 : Int) < (n : Nat) by omega)]; rfl
          have hbd : ((wrd l lo).toList == mtL.toList) = true := hbd
          unfold gVs
          rw [e1, hbd]
          rfl
       have hI := key _ _ rfl rfl (okm_nil true) ht
       have hat : (h.put b (.row ([Value.slice none 0 0, Value.bool true].map (lft bw)) true none)).at b = .row [.slice none 0 0, .bool true] true none := by rw [at_put kb lb, if_pos rfl]; rfl
       have hbw : (h.put b (.row ([Value.slice none 0 0, Value.bool true].map (lft bw)) true none)).at bw = .vec sK1 l o := by rw [at_put kb lb, if_neg hne]; exact hw
       have := callI_none hat hbw hI
       rwa [put_put] at this
     | false =>
       refine key _ [.slice (some ⟨K0 + 1, 2, some (lo + 1)⟩) (n - 1) 1, .bool wr] rfl rfl (okm_sub _ _ wr) ?_
       unfold bdW at hbd
       unfold t155
       cases hz : (((n : Nat) : Int) == 0) with
       | true => rw [hz] at hbd; cases hbd
       | false =>
         rw [hz] at hbd
         have hn : 1 ≤ n := by have : ((n : Nat) : Int) ≠ 0 := by simpa using hz
                               omega
         have e1 : inM n = true := by unfold inM; rw [decide_eq_true (show (0 : Int) ≤ 0 by omega), decide_eq_true (show (0 : Int) < (n : Nat) by omega)]; rfl
         have e2 : cutM n = true := by unfold cutM; rw [decide_eq_true (show (0 : Int) ≤ 1 by omega), decide_eq_true (show (1 : Int) ≤ (n : Nat) by omega), decide_eq_true (show ((n : Nat) : Int) ≤ (n : Nat) by omega)]; rfl
         have hbd : ((wrd l lo).toList == mtL.toList) = false := hbd
         unfold gVs
         rw [e1, e2, hbd, Int.toNat_natCast]
         rfl
    ·cases hd
   ·cases hd
  ·cases hd
 ·cases hd
def isN (l : SLs) (lo n : Nat) : Int × Bool := sgL (bl (wdW l lo n))
def nmB (l : SLs) (lo n : Nat) (wr : Bool) : Bool := bif wdB l lo n wr then true else !(isN l lo n).2
abbrev cgW (w0 : World) : Cfg := (cfg w0).onH [wdC]
def t154 (l : SLs) (lo n : Nat) (wr : Bool) : VO :=
 bif wdB l lo n wr then some (.int .i64 (isN l lo n).1, ob0 (wdL l lo n) (wdN l lo n) true) else some (.int .i64 (isN l lo n).1, ob0 (wdL l lo n) (wdN l lo n) (!(isN l lo n).2))
def q154 (w0 : World) (f : Nat) (l : SLs) (lo n : Nat) (wr : Bool) : VO := bodyGo ((cgW w0).at [c190]) none (evK ((cgW w0).at [c190]) none f) (fnOf Tryz.f154) [.pointer (some ⟨K0, 0, none⟩)] [ob0 lo n wr, .vec sK1 l false] fun v h => some (v, h.at K0)
theorem run154 (l : SLs) (lo n : Nat) (wr : Bool) : q154 w0 36 l lo n wr = t154 l lo n wr := by kernel_rfl
def nmH : List Value → Heap → FT (Value × Heap) := fun argv h =>
 match argv with
 | [.pointer (some ⟨b, 0, none⟩)] => match h.at b with
   | .row [.slice (some ⟨bw, _, some lo⟩) n 1, .bool wr] true none => match h.at bw with
     | .vec ks l _ => match recast ks sK1 l with
       | some l => .leaf (.int .i64 (isN l lo n).1, h.put b (.row [.slice (some ⟨bw, 2, some (wdL l lo n)⟩) (wdN l lo n) 1, .bool (nmB l lo n wr)] true none))
       | none => .bad
     | _ => .bad
   | _ => .bad
 | _ => .bad
def nmC : Nat × (List Value → Heap → FT (Value × Heap)) := (154, nmH)
theorem cgW_ok (w0 : World) : CfgOk (cgW w0) := Cfg.onH_ok (cfg_ok w0) [wdC]
theorem cgW_sp (h0 : Lib0 w0) : SpecOK (cgW w0) := specs_onH h0 ⟨gdH155 h0, trivial⟩
theorem cs154_gd (h0 : Lib0 w0) : Gds (cgW w0) [c190] := Gds.onH (C := cfg w0) ⟨gd190 h0, trivial⟩
theorem t154_eq (l : SLs) (lo n : Nat) (wr : Bool) : t154 l lo n wr = some (.int .i64 (isN l lo n).1, ob0 (wdL l lo n) (wdN l lo n) (nmB l lo n wr)) := by
 unfold t154 nmB
 cases wdB l lo n wr <;> rfl
theorem gdH154 (h0 : Lib0 w0) : GdH (cfg w0) nmC := fun argv h v h' hd => by
 replace hd : (nmH argv h).run = some (v, h') := hd
 unfold nmH at hd
 split at hd
 ·rename_i b
  split at hd
  ·rename_i bw o' lo n wr hb
   split at hd
   ·rename_i ks l o hw
    split at hd
    ·rename_i l' hl
     obtain ⟨e, hl'⟩ := recast_eq hl
     subst e
     cases hl'
     cases hd
     obtain ⟨kb, lb⟩ := at_lt (h := h) (b := b) (by rw [hb]; rfl)
     have hne : bw ≠ b := fun e => by rw [e, hb] at hw; cases hw
     refine callI_part (o := o') hb ?_
     have hb2 : (h.put b (.row [.slice (some ⟨bw, 2, some lo⟩) n 1, .bool wr] true none)).at b = .row ([.slice (some ⟨K0 + 1, 2, some lo⟩) n 1, .bool wr].map (lft bw)) true none := by rw [at_put kb lb, if_pos rfl]; rfl
     have hw2 : (h.put b (.row [.slice (some ⟨bw, 2, some lo⟩) n 1, .bool wr] true none)).at bw = .vec sK1 l o := by rw [at_put kb lb, if_neg hne]; exact hw
     obtain ⟨h1, hI, hat⟩ := q_run (at_ok (cgW_ok w0) [c190]) (at_sp (cgW_sp h0) (cs154_gd h0)) (g := 154) (fd := fnOf Tryz.f154) rfl (f := 36) ((run154 (w0 := w0) l lo n wr).trans (t154_eq l lo n wr))
     have hI : CallI (cgW w0) 154 [.pointer (some ⟨K0, 0, none⟩)] [ob0 lo n wr, .vec sK1 l false] (.int .i64 (isN l lo n).1) h1 := CallI.sy.1 hI
     have := callI_meth (C := cfg w0) (cells' := [.slice (some ⟨K0 + 1, 2, some (wdL l lo n)⟩) (wdN l lo n) 1, .bool (nmB l lo n wr)]) hb2 hw2 (okm_sub lo n wr) (okm_sub _ _ _) (avs := []) (fun a ha => by cases ha) rfl rfl hI hat
     rwa [put_put] at this
    ·cases hd
   ·cases hd
  ·cases hd
 ·cases hd
end
end Go.Proofs.YtmlglimahbjgbaaGreatDoor
