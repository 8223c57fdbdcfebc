/-
 A part of the proof of the statement that the claim names: see the last file.
-/
import Derived.Test.YthcpfignhalffaaGreatDoorP7
import Derived.Test.YthcpfignhalffaaGreatDoorP5
import Derived.Test.YthcpfignhalffaaGreatDoorAm4
namespace Go.Proofs.YthcpfignhalffaaGreatDoor
open Go Go.Am
set_option maxRecDepth 100000
variable {w0 : World}
theorem rnd2_2 (g1 g2 : Gr) (pp : List (Tup ptK)) (v : Int) (vs : List (Tup intK)) (a b c : Int) (l : List (Tup intK)) (k i : Int) : rndD (((cfg w0).at [c14]).di) 60 [] 60 (fnOf Tryz.f6).ntmps rg2 (lpB 2 (fnOf Tryz.f6).body) (sg2 [g1, g2] pp v vs a b c l k i false) =
  r2T l i (some ([], .ret, sg2 [g1, g2] pp v vs a b c l k i true)) (some ([], .normal, sg2 [g1, g2] pp v vs a b c l k (IntKind.i64.wrap (i + 1)) false)) (some ([], .exit 2, sg2 [g1, g2] pp v vs a b c l k i false)) := by kernel_rfl
theorem rnd2_3 (g1 g2 g3 : Gr) (pp : List (Tup ptK)) (v : Int) (vs : List (Tup intK)) (a b c : Int) (l : List (Tup intK)) (k i : Int) : rndD (((cfg w0).at [c14]).di) 60 [] 60 (fnOf Tryz.f6).ntmps rg2 (lpB 2 (fnOf Tryz.f6).body) (sg2 [g1, g2, g3] pp v vs a b c l k i false) =
  r2T l i (some ([], .ret, sg2 [g1, g2, g3] pp v vs a b c l k i true)) (some ([], .normal, sg2 [g1, g2, g3] pp v vs a b c l k (IntKind.i64.wrap (i + 1)) false)) (some ([], .exit 2, sg2 [g1, g2, g3] pp v vs a b c l k i false)) := by kernel_rfl
theorem rnd2_4 (g1 g2 g3 g4 : Gr) (pp : List (Tup ptK)) (v : Int) (vs : List (Tup intK)) (a b c : Int) (l : List (Tup intK)) (k i : Int) : rndD (((cfg w0).at [c14]).di) 60 [] 60 (fnOf Tryz.f6).ntmps rg2 (lpB 2 (fnOf Tryz.f6).body) (sg2 [g1, g2, g3, g4] pp v vs a b c l k i false) =
  r2T l i (some ([], .ret, sg2 [g1, g2, g3, g4] pp v vs a b c l k i true)) (some ([], .normal, sg2 [g1, g2, g3, g4] pp v vs a b c l k (IntKind.i64.wrap (i + 1)) false)) (some ([], .exit 2, sg2 [g1, g2, g3, g4] pp v vs a b c l k i false)) := by kernel_rfl
theorem rnd8_2 (g1 g2 : Gr) (A : Gr) (th bk lo : List (Tup intK)) (gn : List (Tup ptK)) (i : Int) (es : Lv) : rndD (((cfg w0).at [c14]).di) 60 [] 60 (fnOf Tryz.f6).ntmps rg8 (lpB 8 (fnOf Tryz.f6).body) (sg8 [g1, g2] A th bk lo gn false (i, es)) =
  r8T gn i (some ([], .normal, sg8 [g1, g2] A th bk lo gn false (IntKind.i64.wrap (i + 1), put8 gn i es))) (some ([], .exit 8, sg8 [g1, g2] A th bk lo gn false (i, es))) := by kernel_rfl
theorem rnd8_3 (g1 g2 g3 : Gr) (A : Gr) (th bk lo : List (Tup intK)) (gn : List (Tup ptK)) (i : Int) (es : Lv) : rndD (((cfg w0).at [c14]).di) 60 [] 60 (fnOf Tryz.f6).ntmps rg8 (lpB 8 (fnOf Tryz.f6).body) (sg8 [g1, g2, g3] A th bk lo gn false (i, es)) =
  r8T gn i (some ([], .normal, sg8 [g1, g2, g3] A th bk lo gn false (IntKind.i64.wrap (i + 1), put8 gn i es))) (some ([], .exit 8, sg8 [g1, g2, g3] A th bk lo gn false (i, es))) := by kernel_rfl
theorem rnd8_4 (g1 g2 g3 g4 : Gr) (A : Gr) (th bk lo : List (Tup intK)) (gn : List (Tup ptK)) (i : Int) (es : Lv) : rndD (((cfg w0).at [c14]).di) 60 [] 60 (fnOf Tryz.f6).ntmps rg8 (lpB 8 (fnOf Tryz.f6).body) (sg8 [g1, g2, g3, g4] A th bk lo gn false (i, es)) =
  r8T gn i (some ([], .normal, sg8 [g1, g2, g3, g4] A th bk lo gn false (IntKind.i64.wrap (i + 1), put8 gn i es))) (some ([], .exit 8, sg8 [g1, g2, g3, g4] A th bk lo gn false (i, es))) := by kernel_rfl
theorem rnd2 {gs : List Gr} (h4 : len4 gs = true) (hne : gs ≠ []) (pp : List (Tup ptK)) (v : Int) (vs : List (Tup intK)) (a b c : Int) (l : List (Tup intK)) (k i : Int) : rndD (((cfg w0).at [c14]).di) 60 [] 60 (fnOf Tryz.f6).ntmps rg2 (lpB 2 (fnOf Tryz.f6).body) (sg2 gs pp v vs a b c l k i false) =
  r2T l i (some ([], .ret, sg2 gs pp v vs a b c l k i true)) (some ([], .normal, sg2 gs pp v vs a b c l k (IntKind.i64.wrap (i + 1)) false)) (some ([], .exit 2, sg2 gs pp v vs a b c l k i false)) := by
 rcases four h4 hne with ⟨g1, rfl⟩ | ⟨g1, g2, rfl⟩ | ⟨g1, g2, g3, rfl⟩ | ⟨g1, g2, g3, g4, rfl⟩
 ·exact rnd2_1 ..
 ·exact rnd2_2 ..
 ·exact rnd2_3 ..
 ·exact rnd2_4 ..
theorem rnd8 {gs : List Gr} (h4 : len4 gs = true) (hne : gs ≠ []) (A : Gr) (th bk lo : List (Tup intK)) (gn : List (Tup ptK)) (i : Int) (es : Lv) : rndD (((cfg w0).at [c14]).di) 60 [] 60 (fnOf Tryz.f6).ntmps rg8 (lpB 8 (fnOf Tryz.f6).body) (sg8 gs A th bk lo gn false (i, es)) =
  r8T gn i (some ([], .normal, sg8 gs A th bk lo gn false (IntKind.i64.wrap (i + 1), put8 gn i es))) (some ([], .exit 8, sg8 gs A th bk lo gn false (i, es))) := by
 rcases four h4 hne with ⟨g1, rfl⟩ | ⟨g1, g2, rfl⟩ | ⟨g1, g2, g3, rfl⟩ | ⟨g1, g2, g3, g4, rfl⟩
 ·exact rnd8_1 ..
 ·exact rnd8_2 ..
 ·exact rnd8_3 ..
 ·exact rnd8_4 ..
end Go.Proofs.YthcpfignhalffaaGreatDoor
namespace Go.Proofs.YthcpfignhalffaaGreatDoor
open Go Go.Am
set_option maxRecDepth 100000
variable {w0 : World}
noncomputable section
theorem lsRun_firstP {τ : Type} (p : τ → Int) : ∀ (l : List τ) (i : Nat) (a : Int), ∃ q : Nat, lsRun 0 (fun x a => bif p x != 0 then (X.ret, p x) else (.normal, a)) l i a = bif firstZ (l.map p) != 0 then (.ret, ((q : Int), firstZ (l.map p))) else (.exit 0, (((i + l.length : Nat) : Int), a))
 | [], i, a => ⟨0, rfl⟩
 | x :: xs, i, a => by
   obtain ⟨q, hq⟩ := lsRun_firstP p xs (i + 1) a
   unfold lsRun
   rw [List.map_cons]
   unfold firstZ
   cases hx : (p x != 0) with
   | true => exact ⟨i, by simp only [hx, cond_true]⟩
   | false =>
     refine ⟨q, ?_⟩
     simp only [cond_false]
     rw [hq]
     simp only [List.length_cons, show i + 1 + xs.length = i + (xs.length + 1) by omega]
def stMq (f : Nat) (l : List (Tup ptK)) (a : Int × List (Tup intK)) : List D := [.vec ptK l, I l.length, I a.1, .ovec intK a.2, .fn f [] []]
def treeMq (f : Nat) (k : Tup ptK → Tup intK) (l : List (Tup ptK)) (j : Int) (o : List (Tup intK)) : Rn :=
 bif decide (j < l.length) then bif inP l j then
  bif (Nat.ble ((o ++ [k (nth l j.toNat)]).length * 8) 1000000000000 && Nat.ble (o ++ [k (nth l j.toNat)]).length 1000000000000) then some ([], .normal, stMq f l (W (j + 1), o ++ [k (nth l j.toNat)])) else none
 else none else some ([], .exit 0, stMq f l (j, o))
theorem fnMq (h0 : Lib0 w0) {cs : List Ct} (hcs : Gds (cfg w0) cs) {g f : Nat} {fd : AFn} (hf : fnTr.get g = some fd) {k : Tup ptK → Tup intK} (l : List (Tup ptK)) (hg : l.length ≤ 100000)
  (hr : ∀ j o, rndD ((cfg w0).at cs) 40 [] 40 fd.ntmps relMp (lpB 0 fd.body) (stMq f l (j, o)) = treeMq f k l j o)
  (hb : ∀ p, bodyT ((cfg w0).at cs) 40 [ldP 0 fd.ntmps relMp .normal (stMq f l p)] 40 fd [.vec ptK l, .fn f [] []] = some ([(ldP 0 fd.ntmps relMp .normal (stMq f l p), .loop (lpB 0 fd.body), stMq f l (0, []))], .vec intK p.2)) : FnD (cfg w0) g [.vec ptK l, .fn f [] []] (.vec intK (l.map k)) := by
 refine fn_ls h0 hcs hf relMp l (by omega) (stMq f l) (fun w a => (X.normal, a ++ [k w])) (fun j a => a.length = j) (a0 := []) rfl
  (fun j a hj hi => .leaf (by
   have hi : a.length = j := hi
   refine (hr ..).trans ?_
   unfold treeMq
   rw [inP_nat hj, lt_t hj, Int.toNat_natCast, room (by omega) (by omega)]
   rfl)) (fun j a a' _ hi h => by cases h; simp [hi])
  (fun a _ => .leaf ((hr ..).trans (by unfold treeMq; rw [ge_f]; rfl))) fun x p hx => ?_
 rw [lsRun_fold (h := fun w b => b ++ [k w]) 0 l 0 [] (fun _ _ _ => rfl), foldl_snoc k] at hx
 cases hx
 exact hb _
def mapQ (g f : Nat) (k : Tup ptK → Tup intK) : Ct := ct g [.v ptK, .x] fun a => match isFn f a.2.1 with
 | true => .br (Nat.ble (a.1 : List (Tup ptK)).length 100000) (.leaf (.vec intK ((a.1 : List (Tup ptK)).map k))) .bad
 | false => .bad
theorem gdMq {g f : Nat} {k : Tup ptK → Tup intK} (h : ∀ l : List (Tup ptK), l.length ≤ 100000 → FnD (cfg w0) g [.vec ptK l, .fn f [] []] (.vec intK (l.map k))) : Gd (cfg w0) (mapQ g f k) := gd_sig fun a d hd => by
 obtain ⟨l, f', u⟩ := a
 simp only at hd
 cases hb : isFn f f' with
 | false => rw [hb] at hd; cases hd
 | true =>
   rw [hb] at hd
   obtain ⟨hg, hd⟩ := br_run hd
   cases hd
   cases isFn_eq hb
   exact h l (Nat.le_of_ble_eq_true hg)
def pcZ (p : Tup ptK) : Int := firstZ [withinZ (p1 p) 0 16, withinZ (p2 p) 0 16]
def ivZ (p : Tup ptK) : Int := firstZ [withinZ (p1 p) 0 1000000, withinZ (p2 p) 0 1000000, whenZ (decide (p1 p > p2 p)) 11]
def csMq : List Ct := [withinC 107, whenC 132, firstC 99]
theorem csMq_gd (h0 : Lib0 w0) : Gds (cfg w0) csMq := ⟨gd107 h0, gd132 h0, gd99 h0, trivial⟩
theorem round177 (l : List (Tup ptK)) (j : Int) (o : List (Tup intK)) : rndD ((cfg w0).at csMq) 40 [] 40 (fnOf Tryz.f177).ntmps relMp (lpB 0 (fnOf Tryz.f177).body) (stMq 178 l (j, o)) = treeMq 178 (fun p => t1 (ivZ p)) l j o := by kernel_rfl
theorem body177 (l : List (Tup ptK)) (p : Int × List (Tup intK)) : bodyT ((cfg w0).at csMq) 40 [ldP 0 (fnOf Tryz.f177).ntmps relMp .normal (stMq 178 l p)] 40 (fnOf Tryz.f177) [.vec ptK l, .fn 178 [] []] =
 some ([(ldP 0 (fnOf Tryz.f177).ntmps relMp .normal (stMq 178 l p), .loop (lpB 0 (fnOf Tryz.f177).body), stMq 178 l (0, []))], .vec intK p.2) := by kernel_rfl
theorem gd177 (h0 : Lib0 w0) : Gd (cfg w0) (mapQ 177 178 fun p => t1 (ivZ p)) := gdMq fun l hl => fnMq h0 (csMq_gd h0) (fd := fnOf Tryz.f177) rfl l hl (fun _ _ => round177 ..) (fun _ => body177 ..)
def smP (l : List (Tup ptK)) : Bool := Nat.ble l.length 100000
def lenE (l : List (Tup ptK)) : Int := firstZ [whenZ (decide ((l.length : Int) < 3)) 16, whenZ (decide ((l.length : Int) > 1024)) 5]
def chkP (l : List (Tup ptK)) : Int := bif lenE l != 0 then lenE l else firstZ (l.map pcZ)
def modI (l : List (Tup ptK)) (i : Int) : Int := (IntKind.i64.wrap (i + 1)).tmod l.length
def stepA (l : List (Tup ptK)) (i n : Int) : Int := W (n + W (W (p1 (nth l i.toNat) * p2 (nth l (modI l i).toNat)) - W (p1 (nth l (modI l i).toNat) * p2 (nth l i.toNat))))
end
end Go.Proofs.YthcpfignhalffaaGreatDoor
namespace Go.Proofs.YthcpfignhalffaaGreatDoor
open Go Go.Am
set_option maxRecDepth 100000
variable {w0 : World}
noncomputable section
def areaP (l : List (Tup ptK)) : Int := (List.range' 0 l.length).foldl (fun n (i : Nat) => stepA l (i : Int) n) 0
def areaX (l : List (Tup ptK)) : Int × Int := bif chkP l != 0 then (0, chkP l) else (areaP l, 0)
def chkPe (g : Gr) (l : List (Tup ptK)) : Int := bif (l.length : Int) != g.l.length then 2 else firstZ (l.map ivZ)
theorem run119 (g : Gr) (l : List (Tup ptK)) : bodyK ((cfg w0).at [firstC 99, mapQ 177 178 fun p => t1 (ivZ p)]) 40 (fnOf Tryz.f119) [gD g, .vec ptK l] =
  bif (l.length : Int) != g.l.length then some (I 2) else bif smP l then bif Nat.ble (l.map fun p => t1 (ivZ p)).length 100000 then some (I (firstZ ((l.map fun p => t1 (ivZ p)).map i1))) else none else none := by cases g; kernel_rfl
def chkPeC (g : Nat) : Ct := gC g [.v ptK] fun g a => .br (smP a.1) (.leaf (I (chkPe g a.1))) .bad
theorem gd119 (h0 : Lib0 w0) : Gd (cfg w0) (chkPeC 119) := gd_g fun g a d hd => by
 obtain ⟨hg, hd⟩ := br_run hd
 cases hd
 obtain ⟨l, u⟩ := a
 have hg : smP l = true := hg
 refine fnD_k (cfg_ok w0) h0 (cs := [firstC 99, mapQ 177 178 fun p => t1 (ivZ p)]) ⟨gd99 h0, gd177 h0, trivial⟩ (fd := fnOf Tryz.f119) rfl (n := 40) ((run119 g l).trans ?_)
 have e : Nat.ble (List.map (fun p => t1 (ivZ p)) (show List (Tup ptK) from l)).length 100000 = true := by rw [List.length_map]; exact hg
 have e2 : ((show List (Tup ptK) from l).map fun p => t1 (ivZ p)).map i1 = (show List (Tup ptK) from l).map ivZ := by rw [List.map_map]; rfl
 refine (show _ = (bif ((show List (Tup ptK) from l).length : Int) != g.l.length then some (I 2) else bif smP l then bif Nat.ble (List.map (fun p => t1 (ivZ p)) (show List (Tup ptK) from l)).length 100000 then some (I (firstZ (((show List (Tup ptK) from l).map fun p => t1 (ivZ p)).map i1))) else none else none) from rfl).trans ?_
 rw [hg, e, e2]
 show _ = some (I (chkPe g l))
 unfold chkPe
 generalize (((show List (Tup ptK) from l).length : Int) != g.l.length) = b
 cases b <;> rfl
def c125 : Ct := ct 125 [.b ptK, .c ik, .c ik] fun a => .leaf (I (firstZ [withinZ (p1 a.1) a.2.1 a.2.2.1, withinZ (p2 a.1) a.2.1 a.2.2.1, whenZ (decide (p1 a.1 > p2 a.1)) 11]))
theorem run125 (p : Tup ptK) (a b : Int) : bodyK ((cfg w0).at [withinC 68, whenC 49, firstC 109]) 40 (fnOf Tryz.f125) [.agg [I (p1 p), I (p2 p)], I a, I b] = some (I (firstZ [withinZ (p1 p) a b, withinZ (p2 p) a b, whenZ (decide (p1 p > p2 p)) 11])) := by kernel_rfl
theorem gd125 (h0 : Lib0 w0) : Gd (cfg w0) c125 := gd_k h0 (cs := [withinC 68, whenC 49, firstC 109]) ⟨gd68 h0, gd49 h0, gd109 h0, trivial⟩ (fd := fnOf Tryz.f125) rfl (n := 40) fun a d hd => by
 cases hd
 exact run125 a.1 a.2.1 a.2.2.1
def rel35 : List (Nat × Cv) := [(1, .id), (5, .id), (4, .id)]
def st35 (l : List (Tup ptK)) (a : Int × Int) : List D := [.vec ptK l, I a.1, I a.2]
def tree35 (l : List (Tup ptK)) (j e : Int) : Rn :=
 bif decide (j < l.length) then bif inP l j then bif ivZ (nth l j.toNat) != 0 then some ([], .ret, st35 l (j, ivZ (nth l j.toNat))) else some ([], .normal, st35 l (W (j + 1), e)) else none
 else some ([], .exit 0, st35 l (j, e))
theorem round35 (l : List (Tup ptK)) (j e : Int) : rndD ((cfg w0).at [c125]) 40 [] 40 (fnOf Tryz.f35).ntmps rel35 (lpB 0 (fnOf Tryz.f35).body) (st35 l (j, e)) = tree35 l j e := by kernel_rfl
theorem body35 (g : Gr) (l : List (Tup ptK)) (x : X) (p : Int × Int) (hx : x = .ret ∨ x = .normal) : bodyT ((cfg w0).at [c125]) 40 [ldP 0 (fnOf Tryz.f35).ntmps rel35 x (st35 l p)] 40 (fnOf Tryz.f35) [gD g, .vec ptK l] =
  bif (l.length : Int) != g.l.length then some ([], I 2) else some ([(ldP 0 (fnOf Tryz.f35).ntmps rel35 x (st35 l p), .loop (lpB 0 (fnOf Tryz.f35).body), st35 l (0, 0))], onX x (I p.2) (I 0)) := by
 cases g; rcases hx with rfl | rfl <;> kernel_rfl
theorem fn35 (h0 : Lib0 w0) (g : Gr) (l : List (Tup ptK)) (hl : l.length ≤ 100000) : FnD (cfg w0) 35 [gD g, .vec ptK l] (I (chkPe g l)) := by
 unfold chkPe
 cases he : ((l.length : Int) != g.l.length) with
 | true =>
   refine fnD_t (cfg_ok w0) h0 (cs := [c125]) ⟨gd125 h0, trivial⟩ (fd := fnOf Tryz.f35) rfl (L := [ldP 0 (fnOf Tryz.f35).ntmps rel35 .normal (st35 l (0, 0))]) (o := []) ((body35 g l .normal (0, 0) (.inr rfl)).trans ?_) trivial
   rw [he]; rfl
 | false =>
   refine fn_ls h0 (cs := [c125]) ⟨gd125 h0, trivial⟩ (fd := fnOf Tryz.f35) rfl rel35 l (by omega) (st35 l) (fun p a => bif ivZ p != 0 then (X.ret, ivZ p) else (.normal, a)) (fun _ _ => True) (a0 := 0) trivial
    (fun j a hj _ => .leaf (by
     rw [round35]
     unfold tree35
     rw [inP_nat hj, lt_t hj, Int.toNat_natCast]
     cases (ivZ (nth l j) != 0) <;> rfl)) (fun _ _ _ _ _ _ => trivial)
    (fun a _ => .leaf (by rw [round35]; unfold tree35; rw [ge_f]; rfl)) fun x p hx => ?_
   obtain ⟨q, hq⟩ := lsRun_firstP ivZ l 0 0
   rw [hq] at hx
   simp only [cond_false]
   cases hf : (firstZ (l.map ivZ) != 0) <;> rw [hf] at hx <;> cases hx
   ·rw [show firstZ (l.map ivZ) = 0 by simpa using hf]
    exact (body35 g l _ _ (.inr rfl)).trans (by rw [he]; rfl)
   ·exact (body35 g l _ _ (.inl rfl)).trans (by rw [he]; rfl)
theorem gd35 (h0 : Lib0 w0) : Gd (cfg w0) (chkPeC 35) := gd_g fun g a d hd => by
 obtain ⟨hg, hd⟩ := br_run hd
 cases hd
 exact fn35 h0 g a.1 (Nat.le_of_ble_eq_true hg)
end
end Go.Proofs.YthcpfignhalffaaGreatDoor
