/-
 A part of the proof of the statement that the claim names: see the last file.
-/
import Derived.Test.YthcpfignhalffaaGreatDoorP9
import Derived.Test.YthcpfignhalffaaGreatDoorP7
import Derived.Test.YthcpfignhalffaaGreatDoorAm5
import Derived.Test.YthcpfignhalffaaGreatDoorP8
namespace Go.Proofs.YthcpfignhalffaaGreatDoor
open Go Go.Am Go.Sort
set_option maxRecDepth 100000
variable {w0 : World}
noncomputable section
abbrev hK : List Kd := [ik, ik, ik]
def h1 (x : Tup hK) : Int := x.1
def h2 (x : Tup hK) : Int := x.2.1
def h3 (x : Tup hK) : Int := x.2.2.1
def cfH (x y : Tup hK) : Int := or3 (cmpN (h3 y) (h3 x)) (cmpN (h2 x) (h2 y)) (cmpN (h1 x) (h1 y))
def ltH (x y : Tup hK) : Prop := h3 y < h3 x ∨ h3 y = h3 x ∧ (h2 x < h2 y ∨ h2 x = h2 y ∧ h1 x < h1 y)
theorem cfH_lt (x y : Tup hK) : cfH x y < 0 ↔ ltH x y := by
 unfold cfH or3 cmpN ltH
 repeat' split
 all_goals omega
theorem ltOf_iff (x y : Tup hK) : ltOf cfH x y = true ↔ ltH x y := by
 unfold ltOf
 rw [decide_eq_true_iff]
 exact cfH_lt x y
theorem ltOf_false (x y : Tup hK) : ltOf cfH x y = false ↔ ¬ ltH x y := by
 rw [← ltOf_iff, Bool.not_eq_true]
theorem swoH : SWO (ltOf cfH) where
 irrefl x := by rw [ltOf_false]; unfold ltH; omega
 trans x y z a b := by rw [ltOf_iff] at *; unfold ltH at *; omega
 ntrans x y z a b := by rw [ltOf_false] at *; unfold ltH at *; omega
theorem totH {x y : Tup hK} (a : ¬ ltH x y) (b : ¬ ltH y x) : x = y := by
 have k : h1 x = h1 y ∧ h2 x = h2 y ∧ h3 x = h3 y := by unfold ltH at *; omega
 obtain ⟨x1, x2, x3, u⟩ := x
 obtain ⟨y1, y2, y3, v⟩ := y
 obtain ⟨k1, k2, k3⟩ := k
 cases (show x1 = y1 from k1)
 cases (show x2 = y2 from k2)
 cases (show x3 = y3 from k3)
 rfl
def sortH (l : List (Tup hK)) : List (Tup hK) := l.mergeSort fun a b => !ltOf cfH b a
theorem sortH_perm (l : List (Tup hK)) : (sortH l).Perm l := List.mergeSort_perm ..
theorem sortH_len (l : List (Tup hK)) : (sortH l).length = l.length := (sortH_perm l).length_eq
theorem sortH_sorted (l : List (Tup hK)) : (sortH l).Pairwise fun a b => ¬ ltH b a := by
 have := List.pairwise_mergeSort (le := fun a b => !ltOf cfH b a) (fun a b c h1 h2 => by
  simp only [Bool.not_eq_true'] at *
  exact swoH.ntrans _ _ _ h2 h1) (fun a b => by
  cases h : ltOf cfH b a with
  | false => rfl
  | true =>
    cases h' : ltOf cfH a b with
    | false => rfl
    | true => have := swoH.trans _ _ _ h h'; rw [swoH.irrefl] at this; cases this) l
 refine this.imp fun {a b} h => ?_
 simpa [ltOf_false] using h
theorem sorted_unique : ∀ {l m : List (Tup hK)}, l.Perm m → l.Pairwise (fun a b => ¬ ltH b a) → m.Pairwise (fun a b => ¬ ltH b a) → l = m
 | [], m, hp, _, _ => (List.nil_perm.1 hp).symm ▸ rfl
 | x :: xs, [], hp, _, _ => absurd hp.length_eq (by simp)
 | x :: xs, y :: ys, hp, h1, h2 => by
   rw [List.pairwise_cons] at h1 h2
   have e : x = y := by
    have a1 : x ∈ y :: ys := hp.subset (by simp)
    have a2 : y ∈ x :: xs := hp.symm.subset (by simp)
    rcases List.mem_cons.1 a1 with h | h
    ·exact h
    rcases List.mem_cons.1 a2 with h' | h'
    ·exact h'.symm
    exact totH (h2.1 x h) (h1.1 y h')
   subst e
   rw [sorted_unique (List.Perm.cons_inv hp) h1.2 h2.2]
theorem hotSort_run (l : List (Tup hK)) (hl : l.length ≤ 100000) (w : World) (blk off cap : Nat) (hb : blk < w.heap.size) (hH : HoldsK (toVs hK) hK.length w blk off l.toArray) :
  Calls Tryz.prog 143 #[.slice (some ⟨blk, off, none⟩) l.length cap, .func (.func 142) #[] #[]] w fun e w' => e = .returned (.tuple #[]) ∧ ∃ n os, w' = soW w blk off n (sortH l).toArray os := by
 have eg : ∀ args w, (callFunc 142 args).run Tryz.prog w = .ok (.enter 142 args) w := enters_of Tryz.func142 (by kernel_rfl) rfl
 have hcmp : CmpLays Tryz.prog 142 #[] (toVs hK) 3 cfH blk off l.toArray.size w := fun _ _ _ _ x y => Tryz.hot142 x.1 x.2.1 x.2.2.1 y.1 y.2.1 y.2.2.1 _
 have hcon := AnyQ.slices_SortFunc Tryz.sortHot 3 Tryz.isAgg220 Tryz.sizeOf220 (toVs hK) (fun _ => rfl) (fun x v hv => by
  have hv : v ∈ [Value.int .i64 x.1, .int .i64 x.2.1, .int .i64 x.2.2.1] := hv
  simp at hv; rcases hv with rfl | rfl | rfl <;> rfl) cfH swoH 142 #[] blk off cap l.toArray w eg hcmp hH hb (by simp; omega)
 refine Calls.mono hcon fun e w' ⟨he, d', n, os, hp, hs, hw⟩ => ⟨he, n, os, ?_⟩
 rw [hw]
 have hd : d' = (sortH l).toArray := by
  obtain ⟨p1, _, p3⟩ := hp
  have p3 : d'.toList.Perm l := by
   have e1 : d'.extract 0 l.toArray.size = d' := by rw [← p1]; simp
   have e2 : l.toArray.extract 0 l.toArray.size = l.toArray := by simp
   rw [e1, e2] at p3
   simpa using p3
  have hsd : d'.toList.Pairwise fun a b => ¬ ltH b a := by
   rw [List.pairwise_iff_getElem]
   intro i j hi hj hij
   have := hs i j (by omega) hij (by rw [← p1]; simpa using hj)
   rw [ltOf_false] at this
   rw [getElem!_pos d' j (by simpa using hj), getElem!_pos d' i (by simpa using hi)] at this
   simpa using this
  have := sorted_unique (p3.trans (sortH_perm l).symm) hsd (sortH_sorted l)
  rw [← this]
 rw [hd]
 rfl
def isFun (g : Nat) : Value → Bool
 | .func (.func f) xs ys => Nat.beq f g && (xs.toList.isEmpty && ys.toList.isEmpty)
 | _ => false
theorem isFun_eq {g : Nat} {v : Value} (h : isFun g v = true) : v = .func (.func g) #[] #[] := by
 unfold isFun at h
 split at h
 ·rename_i f xs ys
  simp only [Bool.and_eq_true, Nat.beq_eq, List.isEmpty_iff] at h
  obtain ⟨h1, h2, h3⟩ := h
  obtain ⟨xs⟩ := xs
  obtain ⟨ys⟩ := ys
  cases h1; cases h2; cases h3
  rfl
 ·cases h
theorem br_runS {α : Type} {b : Bool} {x : FT α} {d : α} (h : (FT.br b x .bad).run = some d) : b = true ∧ x.run = some d := by
 cases b with
 | true => exact ⟨rfl, h⟩
 | false => cases h
def sortRow (h : Heap) (b o n sz : Nat) : FT (Value × Heap) := match h.at b with
 | .vec ks l true => match recast ks hK l, Nat.beq o 2 with
   | some l, false => .br (Nat.beq n l.length && (Nat.beq sz 3 && (Nat.blt 0 l.length && Nat.ble l.length 100000))) (.leaf (.tuple #[], h.put b (.vec hK (sortH l) true))) .bad
   | _, _ => .bad
 | _ => .bad
def sortC : Nat × (List Value → Heap → FT (Value × Heap)) := (143, fun argv h => match argv with
 | [.slice (some ⟨b, o, some 0⟩) n sz, f] => match isFun 142 f with
   | true => sortRow h b o n sz
   | false => .bad
 | _ => .bad)
theorem sortRow_run {h : Heap} {b o n sz : Nat} {v : Value} {h' : Heap} (hv : (sortRow h b o n sz).run = some (v, h')) :
  ∃ l : List (Tup hK), h.at b = .vec hK l true ∧ o ≠ 2 ∧ n = l.length ∧ sz = 3 ∧ 0 < l.length ∧ l.length ≤ 100000 ∧ v = .tuple #[] ∧ h' = h.put b (.vec hK (sortH l) true) := by
 unfold sortRow at hv
 split at hv
 ·rename_i hat
  split at hv
  ·rename_i l hr ho
   obtain ⟨hg, hd⟩ := br_runS hv
   obtain ⟨e, hl⟩ := recast_eq hr
   subst e
   cases hd
   simp only [Bool.and_eq_true, Nat.beq_eq, Nat.blt_eq, Nat.ble_eq] at hg
   obtain ⟨g1, g2, g3, g4⟩ := hg
   exact ⟨l, by rw [hat, hl], (fun e => by rw [e] at ho; cases ho), g1, g2, g3, g4, rfl, rfl⟩
  ·cases hv
 ·cases hv
theorem gdH143 (_ : Lib0 w0) : GdH (cfg w0) sortC := fun argv h v h' hv => by
 simp only [sortC] at hv
 split at hv
 ·split at hv
  ·rename_i hf
   cases isFun_eq hf
   obtain ⟨l, hat, ho, hn, hsz, hpos, hle, rfl, rfl⟩ := sortRow_run hv
   subst hsz
   exact sort_callI (gc := 142) (sortH_len _) hpos (fun w blk off cap hb hH => hotSort_run _ hle w blk off cap hb hH) ho hat hn
  ·cases hv
 ·cases hv
end
end Go.Proofs.YthcpfignhalffaaGreatDoor
namespace Go.Proofs.YthcpfignhalffaaGreatDoor
open Go Go.Am
set_option maxRecDepth 100000
variable {w0 : World}
noncomputable section
def ptH (x : Tup hK) : Tup ptK := (h1 x, h2 x, ())
def st144 (l : List (Tup hK)) (a : Int × List (Tup ptK)) : List D := [.vec hK l, I l.length, I a.1, .ovec ptK a.2, .fn 145 [] []]
def rel144 : List (Nat × Cv) := [(8, .id), (9, .id), (10, .id), (5, .ov ptK), (1, .id)]
def inH (l : List (Tup hK)) (j : Int) : Bool := Nat.beq 3 3 && (decide (0 ≤ j) && decide (j < l.length))
theorem inH_nat {l : List (Tup hK)} {j : Nat} (h : j < l.length) : inH l (j : Int) = true := inb 3 h
def tree144 (l : List (Tup hK)) (j : Int) (o : List (Tup ptK)) : Rn :=
 bif decide (j < l.length) then bif inH l j then
  bif roomV (o ++ [ptH (nth l j.toNat)]) then some ([], .normal, st144 l (W (j + 1), o ++ [ptH (nth l j.toNat)])) else none
 else none else some ([], .exit 0, st144 l (j, o))
theorem round144 (l : List (Tup hK)) (j : Int) (o : List (Tup ptK)) : rndD ((cfg w0).at []) 40 [] 40 (fnOf Tryz.f144).ntmps rel144 (lpB 0 (fnOf Tryz.f144).body) (st144 l (j, o)) = tree144 l j o := by kernel_rfl
theorem body144 (l : List (Tup hK)) (p : Int × List (Tup ptK)) : bodyT ((cfg w0).at []) 40 [ldP 0 (fnOf Tryz.f144).ntmps rel144 .normal (st144 l p)] 40 (fnOf Tryz.f144) [.vec hK l, .fn 145 [] []] =
  some ([(ldP 0 (fnOf Tryz.f144).ntmps rel144 .normal (st144 l p), .loop (lpB 0 (fnOf Tryz.f144).body), st144 l (0, []))], .vec ptK p.2) := by kernel_rfl
theorem fn144 (h0 : Lib0 w0) (l : List (Tup hK)) (hg : l.length ≤ 100000) : FnD (cfg w0) 144 [.vec hK l, .fn 145 [] []] (.vec ptK (l.map ptH)) := by
 refine fn_ls h0 (cs := []) trivial (fd := fnOf Tryz.f144) rfl rel144 l (by omega) (st144 l) (fun w a => (X.normal, a ++ [ptH w])) (fun j a => a.length = j) (a0 := []) rfl
  (fun j a hj hi => .leaf (by
   have hi : a.length = j := hi
   refine (round144 l j a).trans ?_
   unfold tree144
   rw [inH_nat hj, lt_t hj, Int.toNat_natCast, roomV_ok (by omega)]
   rfl)) (fun j a a' _ hi h => by cases h; simp [hi])
  (fun a _ => .leaf ((round144 l _ a).trans (by unfold tree144; rw [ge_f]; rfl))) fun x p hx => ?_
 rw [lsRun_fold (h := fun w b => b ++ [ptH w]) 0 l 0 [] (fun _ _ _ => rfl), foldl_snoc ptH] at hx
 cases hx
 exact body144 l _
def c144 : Ct := ct 144 [.v hK, .x] fun a => match isFn 145 a.2.1 with
 | true => .br (Nat.ble (a.1 : List (Tup hK)).length 100000) (.leaf (.vec ptK ((a.1 : List (Tup hK)).map ptH))) .bad
 | false => .bad
theorem gd144 (h0 : Lib0 w0) : Gd (cfg w0) c144 := gd_sig fun a d hd => by
 obtain ⟨l, f', u⟩ := a
 simp only at hd
 cases hb : isFn 145 f' with
 | false => rw [hb] at hd; cases hd
 | true =>
   rw [hb] at hd
   obtain ⟨hg, hd⟩ := br_run hd
   cases hd
   cases isFn_eq hb
   exact fn144 h0 l (Nat.le_of_ble_eq_true hg)
def hotE (g : Gr) (j : Int) : Tup hK := (j.tmod g.w, W (j.tdiv g.w), i1 (nth g.l j.toNat), ())
def hotL (g : Gr) : List (Tup hK) := (List.range' 0 g.l.length).map fun (j : Nat) => hotE g (j : Int)
def rel67 : List (Nat × Cv) := [(2, .id), (1, .id), (26, .id), (27, .id), (28, .id), (8, .ov hK)]
def st67 (g : Gr) (n : Int) (p : Int × List (Tup hK)) : List D := [.obox (gcs g), I n, .vec intK g.l, I g.l.length, I p.1, .ovec hK p.2]
def roomH (o : List (Tup hK)) : Bool := Nat.ble (o.length * 24) 1000000000000 && Nat.ble o.length 1000000000000
def cs67 : List Ct := [chkC 73, withinC 107, c144]
theorem cs67_gd (h0 : Lib0 w0) : Gds (cfg w0) cs67 := ⟨gd73 h0, gd107 h0, gd144 h0, trivial⟩
noncomputable abbrev cgH (w0 : World) : Cfg := (cfg w0).onH [sortC]
theorem cgH_ok (w0 : World) : CfgOk (cgH w0) := Cfg.onH_ok (cfg_ok w0) [sortC]
theorem cgH_sp (h0 : Lib0 w0) : SpecOK (cgH w0) := specs_onH h0 ⟨gdH143 h0, trivial⟩
def tree67 (g : Gr) (n j : Int) (o : List (Tup hK)) : Rn :=
 bif decide (j < g.l.length) then bif inO g.l j then bif decide (g.w = 0) then none else bif decide (g.w = 0) then none else
  bif roomH (o ++ [hotE g j]) then some ([], .normal, st67 g n (W (j + 1), o ++ [hotE g j])) else none
 else none else some ([], .exit 0, st67 g n (j, o))
theorem round67 (g : Gr) (n j : Int) (o : List (Tup hK)) : rndD ((cgH w0).at cs67) 40 [] 40 (fnOf Tryz.f67).ntmps rel67 (lpB 0 (fnOf Tryz.f67).body) (st67 g n (j, o)) = tree67 g n j o := by cases g; kernel_rfl
def hE (g : Gr) (n : Int) : Int := withinZ n 1 g.l.length
theorem body67 (g : Gr) (n : Int) (p : Int × List (Tup hK)) : bodyT ((cgH w0).at cs67) 40 [ldP 0 (fnOf Tryz.f67).ntmps rel67 .normal (st67 g n p)] 40 (fnOf Tryz.f67) [gD g, I n] =
  bif smG g then bif chkG g != 0 then some ([], .tup [nilD, I (chkG g)]) else bif hE g n != 0 then some ([], .tup [nilD, I (hE g n)]) else
   bif Nat.beq p.2.length p.2.length && (Nat.beq 3 3 && (Nat.blt 0 p.2.length && Nat.ble p.2.length 100000)) then
    bif decide ((0 : Int) ≤ 0) && (decide (0 ≤ n) && decide (n ≤ (p.2.length : Int))) then
     bif Nat.ble ((sortH p.2).drop 0 |>.take (n.toNat - 0)).length 100000 then
      some ([(ldP 0 (fnOf Tryz.f67).ntmps rel67 .normal (st67 g n p), .loop (lpB 0 (fnOf Tryz.f67).body), st67 g n (0, []))], .tup [.vec ptK (((sortH p.2).drop 0 |>.take (n.toNat - 0)).map ptH), I 0])
     else none else none else none
  else none := by cases g; kernel_rfl
def hotX (g : Gr) (n : Int) : List (Tup ptK) × Int := bif chkG g != 0 then ([], chkG g) else bif hE g n != 0 then ([], hE g n) else (((sortH (hotL g)).take n.toNat).map ptH, 0)
theorem hotL_len (g : Gr) : (hotL g).length = g.l.length := by unfold hotL; simp
theorem fn67 (h0 : Lib0 w0) (g : Gr) (n : Int) (hg : smG g = true) : FnD (cfg w0) 67 [gD g, I n] (.tup [.vec ptK (hotX g n).1, I (hotX g n).2]) := by
 have hcs : Gds (cgH w0) cs67 := Gds.onH (cs67_gd h0)
 unfold hotX
 cases hc : (chkG g != 0) with
 | true =>
   refine fn_nilV (show FnD (cgH w0) 67 _ _ from fnD_t (cgH_ok w0) (cgH_sp h0) hcs (fd := fnOf Tryz.f67) rfl (o := []) ((body67 g n (0, [])).trans ?_) trivial)
   rw [hg, hc]; rfl
 | false =>
   cases he : (hE g n != 0) with
   | true =>
     refine fn_nilV (show FnD (cgH w0) 67 _ _ from fnD_t (cgH_ok w0) (cgH_sp h0) hcs (fd := fnOf Tryz.f67) rfl (o := []) ((body67 g n (0, [])).trans ?_) trivial)
     rw [hg, hc, he]; rfl
   | false =>
     have hln := Nat.le_of_ble_eq_true hg
     obtain ⟨_, hw, _, _, _, _⟩ := chk_len (show chkG g = 0 by simpa using hc)
     have hr := within_zero (show withinZ n 1 g.l.length = 0 by simpa [hE] using he)
     have hL := hotL_len g
     have hrun : rgRun 0 (fun (j : Nat) (o : List (Tup hK)) => (X.normal, o ++ [hotE g (j : Int)])) g.l.length 0 [] = (.exit 0, (((0 + g.l.length : Nat) : Int), hotL g)) := by
      rw [rgRun_fold 0 (h := fun (j : Nat) o => o ++ [hotE g (j : Int)]) _ _ _ (fun _ _ _ _ => rfl), foldl_snoc (fun (j : Nat) => hotE g (j : Int))]
      rfl
     have hld := ldT_rg (at_ok (cgH_ok w0) cs67) (at_sp (cgH_sp h0) hcs) (N := (fnOf Tryz.f67).ntmps) (rel := rel67) (B := lpB 0 (fnOf Tryz.f67).body) (id := 0) (k := g.l.length) (by omega) (st67 g n) (fun (j : Nat) (o : List (Tup hK)) => (X.normal, o ++ [hotE g (j : Int)])) (fun j o => o.length = j)
      (fun j o hj hi => .leaf (by
       have hi : o.length = j := hi
       refine (round67 g n j o).trans ?_
       unfold tree67
       rw [lt_t hj, inO_nat hj, decide_eq_false (show ¬ g.w = 0 by omega), show roomH (o ++ [hotE g j]) = true from room (by omega) (by omega)]
       rfl)) (fun j o o' _ hi h => by cases h; simp [hi])
      (fun o _ => .leaf ((round67 g n _ o).trans (by unfold tree67; rw [ge_f]; rfl))) (a0 := []) rfl hrun
     show FnD (cgH w0) 67 _ _
     refine fnD_lp (cgH_ok w0) (cgH_sp h0) hcs (fd := fnOf Tryz.f67) rfl ((body67 g n _).trans ?_) hld
     have e1 : (Nat.beq (hotL g).length (hotL g).length && (Nat.beq 3 3 && (Nat.blt 0 (hotL g).length && Nat.ble (hotL g).length 100000))) = true := by
      rw [hL, show Nat.beq g.l.length g.l.length = true from (Nat.beq_eq ..).mpr rfl, show Nat.blt 0 g.l.length = true from (Nat.blt_eq ..).mpr (by omega), show Nat.ble g.l.length 100000 = true from hg]
      rfl
     have e2 : (decide ((0 : Int) ≤ 0) && (decide (0 ≤ n) && decide (n ≤ ((hotL g).length : Int)))) = true := by
      rw [hL]
      simp only [Bool.and_eq_true, decide_eq_true_eq]
      omega
     have e3 : Nat.ble ((sortH (hotL g)).drop 0 |>.take (n.toNat - 0)).length 100000 = true := by
      rw [Nat.ble_eq, List.length_take, List.length_drop, sortH_len, hL]
      omega
     rw [hg, hc, he]
     simp only [cond_true, cond_false]
     rw [e1, e2, e3]
     rfl
end
end Go.Proofs.YthcpfignhalffaaGreatDoor
