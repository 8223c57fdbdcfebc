/-
  A part of the proof of the statement that the claim names: see the last file.
-/
import Derived.Test.YtifnpljmjhnbaaaGreatDoorR4
namespace Go.Proofs.YtifnpljmjhnbaaaGreatDoor
open Go Go.Am Go.Sort
set_option maxRecDepth 100000
variable {w0 : World}
noncomputable section

def encI (x : Tup intK) : Value := .int .i64 (i1 x)
theorem flat_enc (d : Array (Tup intK)) : flatK (toVs intK) intK.length d = d.map encI := by
  refine Array.ext (by simp [intK]) fun i h1 h2 => ?_
  have h3 : i < d.size := by simpa using h2
  have h4 : i < d.size * intK.length := by simpa using h1
  have := get_flatK (toVs intK) intK.length d i h4
  rw [getElem!_pos _ i h1] at this
  rw [this]
  simp only [Array.getElem_map, intK, List.length_cons, List.length_nil, Nat.zero_add, Nat.div_one, Nat.mod_one]
  rw [getElem!_pos d i h3]
  rfl
theorem holds_enc {w : World} {blk off : Nat} {d : Array (Tup intK)} (h : HoldsK (toVs intK) intK.length w blk off d) : Holds encI w blk off d := fun j hj => by
  have h : Holds id w blk off (flatK (toVs intK) intK.length d) := h
  rw [flat_enc] at h
  have := h j (by simpa using hj)
  rw [getElem!_pos _ j (by simpa using hj)] at this
  rw [getElem!_pos d j hj]
  simpa using this
theorem put_enc {w : World} {blk off : Nat} {d : Array (Tup intK)} : putRow encI w blk off d = putRowK (toVs intK) intK.length w blk off d := by
  unfold putRowK
  rw [flat_enc]
  unfold putRow
  congr 1
  funext c
  unfold putCells
  simp only [Array.size_map, id]
  congr 1
  funext k x
  by_cases hk : off ≤ k ∧ k < off + d.size
  · rw [if_pos hk, if_pos hk]
    rw [getElem!_pos d (k - off) (by omega), getElem!_pos (d.map encI) (k - off) (by simp; omega)]
    simp
  · rw [if_neg hk, if_neg hk]

theorem intSort_run (l : List (Tup intK)) (hl : l.length ≤ 100000) (w : World) (blk off cap : Nat) (hb : blk < w.heap.size) (hH : HoldsK (toVs intK) intK.length w blk off l.toArray) :
    Calls Tryz.prog 99 #[.slice (some ⟨blk, off, none⟩) l.length cap, .func (.func 100) #[] #[]] w fun e w' => e = .returned (.tuple #[]) ∧ ∃ n os, w' = soW w blk off n (sortI l).toArray os := by
  have eg : ∀ args w, (callFunc 100 args).run Tryz.prog w = .ok (.enter 100 args) w := enters_of Tryz.func100 (by kernel_rfl) rfl
  have hcmp : CmpLays1 Tryz.prog 100 #[] encI cfI blk off l.toArray.size w := fun m os dk _ x y => (Tryz.cmp100 (i1 x) (i1 y) _).mono fun e w' ⟨h1, h2⟩ => ⟨h1, 0, #[], by rw [h2, Go.Sort.grow_empty]; rfl⟩
  have hcon := Any.slices_SortFunc Tryz.sortInt encI (fun x => rfl) cfI swoI 100 #[] blk off cap l.toArray w eg hcmp (holds_enc hH) hb (by simp; omega)
  refine Calls.mono hcon fun e w' ⟨he, d', n, os, hp, hs, hw⟩ => ⟨he, n, os, ?_⟩
  rw [hw]
  have hd : d' = (sortI l).toArray := by
    obtain ⟨p1, _, p3⟩ := hp
    have p3 : d'.toList.Perm l := by
      have e1 : d'.extract 0 l.toArray.size = d' := by rw [← p1]; simp
      have e2 : l.toArray.extract 0 l.toArray.size = l.toArray := by simp
      rw [e1, e2] at p3
      simpa using p3
    have hsd : d'.toList.Pairwise fun a b => ¬ ltI b a := by
      rw [List.pairwise_iff_getElem]
      intro i j hi hj hij
      have := hs i j (by omega) hij (by rw [← p1]; simpa using hj)
      rw [ltOf_false] at this
      rw [getElem!_pos d' j (by simpa using hj), getElem!_pos d' i (by simpa using hi)] at this
      simpa using this
    have := sorted_unique (p3.trans (sortI_perm l).symm) hsd (sortI_sorted l)
    rw [← this]
  rw [hd]
  unfold sortWorld soW
  rw [put_enc]
theorem gdH99 (_ : Lib0 w0) : GdH (cfg w0) sortC := fun argv h v h' hv => by
  simp only [sortC] at hv
  split at hv
  · split at hv
    · rename_i hf
      cases isFun_eq hf
      obtain ⟨l, hat, ho, hn, hsz, hpos, hle, rfl, rfl⟩ := sortRow_run hv
      subst hsz
      exact sort_callI (gc := 100) (sortI_len _) hpos (fun w blk off cap hb hH => intSort_run _ hle w blk off cap hb hH) ho hat hn
    · cases hv
  · cases hv
end
end Go.Proofs.YtifnpljmjhnbaaaGreatDoor

namespace Go.Proofs.YtifnpljmjhnbaaaGreatDoor
open Go Go.Am
set_option maxRecDepth 100000
variable {w0 : World}
noncomputable section


def tup2 (x : Int × Int) : D := .tup [I x.1, I x.2]
def e27 (l : TL) (pc : Int) : Int := bif chkR l != 0 then chkR l else bif withinZ pc 1 100 != 0 then withinZ pc 1 100 else 0
noncomputable abbrev cgI (w0 : World) : Cfg := (cfg w0).onH [sortC]
def cs27 : List Ct := [c34, c98, withinC 85, firstC 84]
def cs27e : List Ct := [c34, c98e, withinC 85, firstC 84]
theorem run27 (r : TL) (pc : Int) : bodyK ((cgI w0).at cs27) 40 (fnOf Tryz.f27) [.vec intK r, I pc] =
    bif sm r then bif e27 r pc != 0 then some (.tup [I 0, I (e27 r pc)]) else
      bif (sm r && !kpB r) then
        bif ((keepM r).length : Int) == 0 then some (.tup [I 0, I 7]) else
        bif Nat.beq (keepM r).length (keepM r).length && (Nat.beq 1 1 && (Nat.blt 0 (keepM r).length && Nat.ble (keepM r).length 100000)) then
          bif inO (keepM r) (tgt (keepM r).length pc) then some (.tup [I (i1 (nth (sortI (keepM r)) (tgt (keepM r).length pc).toNat)), I 0]) else none else none
      else none
    else none := by kernel_rfl

theorem run27e' (r : TL) (pc : Int) : bodyK ((cfg w0).at cs27e) 40 (fnOf Tryz.f27) [.vec intK r, I pc] =
    bif sm r then bif e27 r pc != 0 then some (.tup [I 0, I (e27 r pc)]) else
      bif (sm r && (kpB r && !r.isEmpty)) then some (.tup [I 0, I 7]) else none
    else none := by kernel_rfl
def bg27 (r : TL) (pc : Int) : Int × Int := bif e27 r pc != 0 then (0, e27 r pc) else bif kpB r then (0, 7) else (i1 (nth (sortI (keepM r)) (tgt (keepM r).length pc).toNat), 0)
theorem e27_zero {r : TL} {pc : Int} (h : e27 r pc = 0) : chkR r = 0 ∧ 1 ≤ pc ∧ pc ≤ 100 := by
  obtain ⟨h1, h⟩ := first_zero h
  obtain ⟨h2, _⟩ := first_zero h
  obtain ⟨a, b⟩ := within_zero h2
  exact ⟨h1, a, b⟩
theorem tgt_eq {n : Nat} {pc : Int} (hn : 0 < n) (hn2 : n ≤ 100000) (h1 : 1 ≤ pc) (h2 : pc ≤ 100) : ∃ t : Nat, tgt n pc = t ∧ t < n := by
  have m1 : (n : Int) ≤ (n : Int) * pc := by
    have := Int.mul_le_mul_of_nonneg_left h1 (show (0 : Int) ≤ n by omega)
    rwa [Int.mul_one] at this
  have m2 : (n : Int) * pc ≤ (n : Int) * 100 := Int.mul_le_mul_of_nonneg_left h2 (by omega)
  have e : tgt n pc = ((n : Int) * pc + 99) / 100 - 1 := by
    unfold tgt
    rw [W_id (n := (n : Int) * pc) (by omega) (by omega), W_id (n := (n : Int) * pc + 99) (by omega) (by omega), tdivW (by omega) (by omega) (by omega)]
    have : ((n : Int) * pc + 99) / 100 ≤ (n : Int) * pc + 99 := Int.ediv_le_self _ (by omega)
    have : 0 ≤ ((n : Int) * pc + 99) / 100 := Int.ediv_nonneg (by omega) (by omega)
    exact W_id (by omega) (by omega)
  have k1 : 1 ≤ ((n : Int) * pc + 99) / 100 := by
    rw [Int.le_ediv_iff_mul_le (by omega)]; omega
  have k2 : ((n : Int) * pc + 99) / 100 < n + 1 := by
    rw [Int.ediv_lt_iff_lt_mul (by omega)]; omega
  refine ⟨(((n : Int) * pc + 99) / 100 - 1).toNat, by rw [e]; omega, by omega⟩
theorem chk_ne {r : TL} (h : chkR r = 0) : r.isEmpty = false := by
  cases r with
  | nil => cases h
  | cons => rfl
theorem fn27 (h0 : Lib0 w0) (r : TL) (pc : Int) (hg : sm r = true) : FnD (cfg w0) 27 [.vec intK r, I pc] (tup2 (bg27 r pc)) := by
  have hl := sm_le hg
  have hk := keepM_le r
  unfold bg27
  cases he : (e27 r pc != 0) with
  | true =>
    exact fnD_k (cfg_ok w0) h0 (cs := cs27e) ⟨gd34 h0, gd98e h0, gd85 h0, gd84 h0, trivial⟩ (fd := fnOf Tryz.f27) rfl ((run27e' r pc).trans (by rw [hg, he]; rfl))
  | false =>
    obtain ⟨hc, p1, p2⟩ := e27_zero (show e27 r pc = 0 by simpa using he)
    cases hkp : kpB r with
    | true =>
      exact fnD_k (cfg_ok w0) h0 (cs := cs27e) ⟨gd34 h0, gd98e h0, gd85 h0, gd84 h0, trivial⟩ (fd := fnOf Tryz.f27) rfl ((run27e' r pc).trans (by rw [hg, he, hkp, chk_ne hc]; rfl))
    | false =>
      have hpos : 0 < (keepM r).length := by
        unfold kpB at hkp
        cases hz : keepM r with
        | nil => rw [hz] at hkp; cases hkp
        | cons => simp
      obtain ⟨t, t1, t2⟩ := tgt_eq hpos (by omega) p1 p2
      have hcs : Gds (cgI w0) cs27 := Gds.onH (C := cfg w0) ⟨gd34 h0, gd98 h0, gd85 h0, gd84 h0, trivial⟩
      show FnD (cgI w0) 27 _ _
      refine fnD_k (C := cgI w0) (Cfg.onH_ok (cfg_ok w0) [sortC]) (specs_onH h0 ⟨gdH99 h0, trivial⟩) hcs (fd := fnOf Tryz.f27) rfl ((run27 r pc).trans ?_)
      have a1 : (((keepM r).length : Int) == 0) = false := by rw [beq_eq_false_iff_ne]; omega
      have a2 : (Nat.beq (keepM r).length (keepM r).length && (Nat.beq 1 1 && (Nat.blt 0 (keepM r).length && Nat.ble (keepM r).length 100000))) = true := by
        rw [show Nat.beq (keepM r).length (keepM r).length = true from (Nat.beq_eq ..).mpr rfl, show Nat.blt 0 (keepM r).length = true from (Nat.blt_eq ..).mpr (by omega), show Nat.ble (keepM r).length 100000 = true from (Nat.ble_eq ..).mpr (by omega)]
        rfl
      have a3 : inO (keepM r) (tgt (keepM r).length pc) = true := by rw [t1]; exact inO_nat t2
      rw [hg, he, hkp, a1, a2, a3]
      rfl
def c27 : Ct := ct 27 [.v intK, .c ik] fun a => .br (sm a.1) (.leaf (tup2 (bg27 a.1 a.2.1))) .bad
theorem gd27 (h0 : Lib0 w0) : Gd (cfg w0) c27 := gd_sig fun a d hd => by
  obtain ⟨hg, hd⟩ := br_run hd
  cases hd
  exact fn27 h0 a.1 a.2.1 hg
end
end Go.Proofs.YtifnpljmjhnbaaaGreatDoor
