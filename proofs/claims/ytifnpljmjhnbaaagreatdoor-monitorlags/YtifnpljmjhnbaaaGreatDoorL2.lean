/-
  A part of the proof of the statement that the claim names: see the last file.
-/
import Derived.Test.YtifnpljmjhnbaaaGreatDoorL1
import Derived.Test.YtifnpljmjhnbaaaGreatDoorT6
namespace Go.Proofs.YtifnpljmjhnbaaaGreatDoor
open Go Go.Am
set_option maxRecDepth 100000
variable {w0 : World}
noncomputable section


abbrev FL := List (Tup fsK)
def f1 (x : Tup fsK) : Nat := x.1
def allOk (l : FL) : Bool := l.all fun x => isS (f1 x)
def smF (l : FL) : Bool := Nat.ble l.length 100000
def inF (l : FL) (j : Int) : Bool := Nat.beq 1 1 && (decide (0 ≤ j) && decide (j < l.length))
theorem inF_nat {l : FL} {j : Nat} (h : j < l.length) : inF l (j : Int) = true := inb 1 h
theorem allOk_nth {l : FL} (h : allOk l = true) {j : Nat} (hj : j < l.length) : isS (f1 (nth l j)) = true := by
  have := List.all_eq_true.1 h (l[j]) (List.getElem_mem hj)
  rwa [show nth l j = l[j] by simp [nth, hj]]

def rel184 : List (Nat × Cv) := [(8, .id), (9, .id), (10, .id), (5, .ov intK), (1, .id)]
def st184 (l : FL) (a : Int × TLi) : List D := [.vec fsK l, I l.length, I a.1, .ovec intK a.2, .fn 185 [] []]
theorem round184 (l : FL) (j : Int) (o : TLi) : rndD ((cfg w0).at [c185]) 40 [] 40 (fnOf Tryz.f184).ntmps rel184 (lpB 0 (fnOf Tryz.f184).body) (st184 l (j, o)) =
    bif decide (j < l.length) then bif inF l j then bif isS (f1 (nth l j.toNat)) then
      bif (Nat.ble ((o ++ [t1 0]).length * 8) 1000000000000 && Nat.ble (o ++ [t1 0]).length 1000000000000) then some ([], .normal, st184 l (W (j + 1), o ++ [t1 0])) else none
    else none else none else some ([], .exit 0, st184 l (j, o)) := by kernel_rfl
theorem body184 (l : FL) (p : Int × TLi) : bodyT ((cfg w0).at [c185]) 40 [ldP 0 (fnOf Tryz.f184).ntmps rel184 .normal (st184 l p)] 40 (fnOf Tryz.f184) [.vec fsK l, .fn 185 [] []] =
    some ([(ldP 0 (fnOf Tryz.f184).ntmps rel184 .normal (st184 l p), .loop (lpB 0 (fnOf Tryz.f184).body), st184 l (0, []))], .vec intK p.2) := by kernel_rfl
theorem fn184 (h0 : Lib0 w0) (l : FL) (hg : l.length ≤ 100000) (ho : allOk l = true) : FnD (cfg w0) 184 [.vec fsK l, .fn 185 [] []] (.vec intK (l.map fun _ => t1 0)) := by
  refine fn_ls h0 (cs := [c185]) ⟨gd185 h0, trivial⟩ (fd := fnOf Tryz.f184) rfl rel184 l (by omega) (st184 l) (fun w a => (X.normal, a ++ [t1 0])) (fun j a => a.length = j) (a0 := []) rfl
    (fun j a hj hi' => .leaf (by
      have hi' : a.length = j := hi'
      rw [round184, inF_nat hj, lt_t hj, Int.toNat_natCast, allOk_nth ho hj, room (by omega) (by omega)]
      rfl)) (fun j a a' _ hi h => by cases h; simp [hi])
    (fun a _ => .leaf (by rw [round184, ge_f]; rfl)) fun x p hx => ?_
  rw [lsRun_fold (h := fun _ b => b ++ [t1 0]) 0 l 0 [] (fun _ _ _ => rfl), foldl_snoc (fun _ => t1 0)] at hx
  cases hx
  exact body184 l _
def c184 : Ct := ct 184 [.v fsK, .x] fun a => match isFn 185 a.2.1 with
  | true => .br (smF a.1) (.br (allOk a.1) (.leaf (.vec intK ((a.1 : FL).map fun _ => t1 0))) .bad) .bad
  | false => .bad
theorem gd184 (h0 : Lib0 w0) : Gd (cfg w0) c184 := gd_sig fun a d hd => by
  obtain ⟨l, f, u⟩ := a
  simp only at hd
  cases hb : isFn 185 f with
  | false => rw [hb] at hd; cases hd
  | true =>
    rw [hb] at hd
    obtain ⟨hg, hd⟩ := br_run hd
    obtain ⟨ho, hd⟩ := br_run hd
    cases hd
    cases isFn_eq hb
    exact fn184 h0 l (Nat.le_of_ble_eq_true hg) ho
def zW (l : FL) : Int := firstZ [whenZ (decide ((l.length : Int) < 2)) 16, whenZ (decide ((l.length : Int) > 16)) 5, firstZ ((l.map fun _ => t1 0).map i1)]
theorem run153 (l : FL) : bodyK ((cfg w0).at [c184, whenC 104, firstC 84]) 40 (fnOf Tryz.f153) [.vec fsK l] = bif smF l then bif allOk l then bif Nat.ble (l.map fun _ => t1 0).length 100000 then some (I (zW l)) else none else none else none := by kernel_rfl
def chkW (l : FL) : Int := firstZ [whenZ (decide ((l.length : Int) < 2)) 16, whenZ (decide ((l.length : Int) > 16)) 5]
theorem zW_eq (l : FL) : zW l = chkW l := by
  unfold zW chkW
  have h : firstZ ((l.map fun _ => t1 0).map i1) = 0 := by
    induction l with
    | nil => rfl
    | cons x xs ih => exact ih
  rw [h]
  unfold firstZ firstZ firstZ firstZ
  rfl
theorem run153' (l : FL) (hg : smF l = true) (ho : allOk l = true) : bodyK ((cfg w0).at [c184, whenC 104, firstC 84]) 40 (fnOf Tryz.f153) [.vec fsK l] = some (I (chkW l)) := by
  rw [run153, hg, ho, List.length_map, show Nat.ble (List.length l) 100000 = true from hg, zW_eq]
  rfl
def c153 : Ct := ct 153 [.v fsK] fun a => .br (smF a.1) (.br (allOk a.1) (.leaf (I (chkW a.1))) .bad) .bad
theorem gd153 (h0 : Lib0 w0) : Gd (cfg w0) c153 := gd_sig fun a d hd => by
  obtain ⟨l, u⟩ := a
  obtain ⟨hg, hd⟩ := br_run hd
  obtain ⟨ho, hd⟩ := br_run hd
  cases hd
  exact fnD_k (cfg_ok w0) h0 (cs := [c184, whenC 104, firstC 84]) ⟨gd184 h0, gd104 h0, gd84 h0, trivial⟩ (fd := fnOf Tryz.f153) rfl (n := 40) (run153' l hg ho)
def chkW2 (a b : FL) : Int := firstZ [chkW a, chkW b, whenZ ((a.length : Int) != b.length) 2]
theorem run111 (a b : FL) : bodyK ((cfg w0).at [c153, whenC 104, firstC 84]) 40 (fnOf Tryz.f111) [.vec fsK a, .vec fsK b] = bif smF a then bif allOk a then bif smF b then bif allOk b then some (I (chkW2 a b)) else none else none else none else none := by kernel_rfl
def okW (a b : FL) : Bool := smF a && (allOk a && (smF b && allOk b))
theorem okW_spec {a b : FL} (h : okW a b = true) : smF a = true ∧ allOk a = true ∧ smF b = true ∧ allOk b = true := by
  unfold okW at h
  simpa only [Bool.and_eq_true] using h
def c111 : Ct := ct 111 [.v fsK, .v fsK] fun a => .br (okW a.1 a.2.1) (.leaf (I (chkW2 a.1 a.2.1))) .bad
theorem gd111 (h0 : Lib0 w0) : Gd (cfg w0) c111 := gd_sig fun a d hd => by
  obtain ⟨a, b, u⟩ := a
  obtain ⟨hg, hd⟩ := br_run hd
  cases hd
  obtain ⟨h1, h2, h3, h4⟩ := okW_spec hg
  exact fnD_k (cfg_ok w0) h0 (cs := [c153, whenC 104, firstC 84]) ⟨gd153 h0, gd104 h0, gd84 h0, trivial⟩ (fd := fnOf Tryz.f111) rfl (n := 40) ((run111 a b).trans (by rw [h1, h2, h3, h4]; rfl))


def lvE (x : Tup fsK) : Tup intK := t1 (lvl (f1 x))
def rel155 : List (Nat × Cv) := [(8, .id), (9, .id), (10, .id), (5, .ov intK), (1, .id)]
def st155 (l : FL) (a : Int × TLi) : List D := [.vec fsK l, I l.length, I a.1, .ovec intK a.2, .fn 154 [] []]
theorem round155 (l : FL) (j : Int) (o : TLi) : rndD ((cfg w0).at [c154]) 40 [] 40 (fnOf Tryz.f155).ntmps rel155 (lpB 0 (fnOf Tryz.f155).body) (st155 l (j, o)) =
    bif decide (j < l.length) then bif inF l j then bif isS (f1 (nth l j.toNat)) then
      bif (Nat.ble ((o ++ [lvE (nth l j.toNat)]).length * 8) 1000000000000 && Nat.ble (o ++ [lvE (nth l j.toNat)]).length 1000000000000) then some ([], .normal, st155 l (W (j + 1), o ++ [lvE (nth l j.toNat)])) else none
    else none else none else some ([], .exit 0, st155 l (j, o)) := by kernel_rfl
theorem body155 (l : FL) (p : Int × TLi) : bodyT ((cfg w0).at [c154]) 40 [ldP 0 (fnOf Tryz.f155).ntmps rel155 .normal (st155 l p)] 40 (fnOf Tryz.f155) [.vec fsK l, .fn 154 [] []] =
    some ([(ldP 0 (fnOf Tryz.f155).ntmps rel155 .normal (st155 l p), .loop (lpB 0 (fnOf Tryz.f155).body), st155 l (0, []))], .vec intK p.2) := by kernel_rfl
theorem fn155 (h0 : Lib0 w0) (l : FL) (hg : l.length ≤ 100000) (ho : allOk l = true) : FnD (cfg w0) 155 [.vec fsK l, .fn 154 [] []] (.vec intK (l.map lvE)) := by
  refine fn_ls h0 (cs := [c154]) ⟨gd154, trivial⟩ (fd := fnOf Tryz.f155) rfl rel155 l (by omega) (st155 l) (fun w a => (X.normal, a ++ [lvE w])) (fun j a => a.length = j) (a0 := []) rfl
    (fun j a hj hi' => .leaf (by
      have hi' : a.length = j := hi'
      rw [round155, inF_nat hj, lt_t hj, Int.toNat_natCast, allOk_nth ho hj, room (by omega) (by omega)]
      rfl)) (fun j a a' _ hi h => by cases h; simp [hi])
    (fun a _ => .leaf (by rw [round155, ge_f]; rfl)) fun x p hx => ?_
  rw [lsRun_fold (h := fun w b => b ++ [lvE w]) 0 l 0 [] (fun _ _ _ => rfl), foldl_snoc lvE] at hx
  cases hx
  exact body155 l _
def c155 : Ct := ct 155 [.v fsK, .x] fun a => match isFn 154 a.2.1 with
  | true => .br (smF a.1) (.br (allOk a.1) (.leaf (.vec intK ((a.1 : FL).map lvE))) .bad) .bad
  | false => .bad
theorem gd155 (h0 : Lib0 w0) : Gd (cfg w0) c155 := gd_sig fun a d hd => by
  obtain ⟨l, f, u⟩ := a
  simp only at hd
  cases hb : isFn 154 f with
  | false => rw [hb] at hd; cases hd
  | true =>
    rw [hb] at hd
    obtain ⟨hg, hd⟩ := br_run hd
    obtain ⟨ho, hd⟩ := br_run hd
    cases hd
    cases isFn_eq hb
    exact fn155 h0 l (Nat.le_of_ble_eq_true hg) ho
end
end Go.Proofs.YtifnpljmjhnbaaaGreatDoor

namespace Go.Proofs.YtifnpljmjhnbaaaGreatDoor
open Go Go.Am
set_option maxRecDepth 100000
variable {w0 : World}
noncomputable section


def rel112 : List (Nat × Cv) := [(6, .sv intK), (7, .sv intK), (8, .ov intK), (21, .sv intK), (22, .id), (23, .id)]
def st112 (x y : TLi) (a : Int × TLi) : List D := [.vec intK x, .vec intK y, .ovec intK a.2, .vec intK x, I x.length, I a.1]
def rel112i : List (Nat × Cv) := [(6, .id), (7, .id), (8, .ov intK), (21, .id), (22, .id), (23, .id), (9, .id), (26, .id), (27, .id), (28, .id)]
def st112i (x y : TLi) (d : Int) (a : Int × TLi) : List D := [.vec intK x, .vec intK y, .ovec intK a.2, .vec intK x, I x.length, I d, I d, .vec intK x, I x.length, I a.1]
def ld112i (x y : TLi) (d : Int) (a : Int × TLi) : Ld := ldP 2 (fnOf Tryz.f112).ntmps rel112i .normal (st112i x y d a)
def cs112 : List Ct := [c155]
def ixY (y : TLi) (i d : Int) : Int := (IntKind.i64.wrap (i + d)).tmod y.length
def trm (x y : TLi) (i d : Int) : Int := IntKind.i64.wrap (i1 (nth x i.toNat) * i1 (nth y (ixY y i d).toNat))
def setO (o : TLi) (d : Int) (v : Int) : TLi := List.set o (d.toNat + 0) (t1 v)
theorem round112i (x y : TLi) (d i : Int) (o : TLi) : rndD ((cfg w0).at cs112) 40 [] 40 (fnOf Tryz.f112).ntmps rel112i (lpB 2 (fnOf Tryz.f112).body) (st112i x y d (i, o)) =
    bif decide (i < x.length) then bif inO x i then bif inO o d then bif decide ((y.length : Int) = 0) then none else bif inO y (ixY y i d) then bif inO o d then
      some ([], .normal, st112i x y d (W (i + 1), setO o d (IntKind.i64.wrap (i1 (nth o (d.toNat + 0)) + trm x y i d))))
    else none else none else none else none else some ([], .exit 2, st112i x y d (i, o)) := by kernel_rfl
theorem round112 (x y : TLi) (d : Int) (o : TLi) (a : Int × TLi) : rndD ((cfg w0).at cs112) 40 [ld112i x y d a] 40 (fnOf Tryz.f112).ntmps rel112 (lpB 0 (fnOf Tryz.f112).body) (st112 x y (d, o)) =
    bif decide (d < x.length) then some ([(ld112i x y d a, .loop (lpB 2 (fnOf Tryz.f112).body), st112i x y d (0, o))], .normal, st112 x y (W (d + 1), a.2))
    else some ([], .exit 0, st112 x y (d, o)) := by kernel_rfl
def mkI (n : Nat) : Bool := decide (0 ≤ (n : Int)) && (decide ((n : Int) = n) && (decide ((n : Int) ≤ 10000000) && (Nat.ble ((n : Int).toNat * 1) 10000000 && Nat.ble ((n : Int).toNat * 8) 1000000000000)))
theorem body112 (a b : FL) (p : Int × TLi) : bodyT ((cfg w0).at cs112) 40 [ldP 0 (fnOf Tryz.f112).ntmps rel112 .normal (st112 (a.map lvE) (b.map lvE) p)] 40 (fnOf Tryz.f112) [.vec fsK a, .vec fsK b] =
    bif smF a then bif allOk a then bif smF b then bif allOk b then bif mkI (a.map lvE).length then
      some ([(ldP 0 (fnOf Tryz.f112).ntmps rel112 .normal (st112 (a.map lvE) (b.map lvE) p), .loop (lpB 0 (fnOf Tryz.f112).body), st112 (a.map lvE) (b.map lvE) (0, List.replicate (((a.map lvE).length : Int)).toNat (t1 0)))], .vec intK p.2)
    else none else none else none else none else none := by kernel_rfl
def corF (x y : TLi) (d n : Nat) (s : Int) : Int := (List.range' 0 n).foldl (fun s (i : Nat) => IntKind.i64.wrap (s + trm x y i d)) s
theorem set_same {o : TLi} {d : Nat} (h : d < o.length) : setO o (d : Int) (i1 (nth o d)) = o := by
  show List.set o d (t1 (i1 (nth o d))) = o
  have e : t1 (i1 (nth o d)) = o[d] := by
    rw [show nth o d = o[d] by simp [nth, h]]
    rfl
  rw [e, List.set_getElem_self]
theorem set_twice (o : TLi) (d : Nat) (u v : Int) : setO (setO o (d : Int) u) (d : Int) v = setO o (d : Int) v := List.set_set ..
theorem setO_len (o : TLi) (d : Int) (v : Int) : (setO o d v).length = o.length := List.length_set ..
theorem get_set {o : TLi} {d : Nat} (h : d < o.length) (v : Int) : i1 (nth (setO o (d : Int) v) (((d : Nat) : Int).toNat + 0)) = v := by
  show i1 (nth (List.set o d (t1 v)) d) = v
  unfold nth
  rw [List.getD_eq_getElem?_getD, List.getElem?_set, if_pos rfl, if_pos h]
  rfl
theorem li112 (h0 : Lib0 w0) (x y : TLi) (d : Nat) (o : TLi) (hx : x.length ≤ 100000) (hd : d < x.length) (ho : o.length = x.length) (hy : y.length = x.length) :
    LdT ((cfg w0).at cs112) (ld112i x y d (((0 + x.length : Nat) : Int), setO o d (corF x y d x.length (i1 (nth o d))))) (.loop (lpB 2 (fnOf Tryz.f112).body)) (st112i x y d (0, o)) := by
  have hx' : rgRun 2 (fun (i : Nat) (s : Int) => (X.normal, IntKind.i64.wrap (s + trm x y i d))) x.length 0 (i1 (nth o d)) = (.exit 2, (((0 + x.length : Nat) : Int), corF x y d x.length (i1 (nth o d)))) :=
    rgRun_fold (h := fun (i : Nat) s => IntKind.i64.wrap (s + trm x y i d)) 2 x.length 0 _ (fun _ _ _ _ => rfl)
  have h := ldT_rg (at_ok (cfg_ok w0) cs112) (at_sp h0 (cs := cs112) ⟨gd155 h0, trivial⟩) (N := (fnOf Tryz.f112).ntmps) (rel := rel112i) (B := lpB 2 (fnOf Tryz.f112).body) (id := 2) (k := x.length) (by omega) (fun p : Int × Int => st112i x y d (p.1, setO o d p.2)) _ (fun _ _ => True)
    (fun i s hi _ => .leaf (by
      have h1 : ixY y (i : Int) (d : Int) = (((i + d) % y.length : Nat) : Int) := by
        unfold ixY
        rw [W_id (by omega) (by omega), Int.tmod_eq_emod_of_nonneg (by omega)]
        rw [Int.natCast_emod, Int.natCast_add]
      have h2 : (i + d) % y.length < y.length := Nat.mod_lt _ (by omega)
      refine (round112i x y (d : Int) (i : Int) _).trans ?_
      rw [lt_t hi, inO_nat hi, inO_nat (show d < (setO o d s).length by rw [setO_len]; omega), decide_eq_false (show ¬ (y.length : Int) = 0 by omega), h1, inO_nat h2, get_set (by omega), set_twice]
      rfl)) (fun _ _ _ _ _ _ => trivial)
    (fun s _ => .leaf ((round112i x y (d : Int) _ _).trans (by rw [ge_f]; rfl))) (a0 := i1 (nth o d)) trivial hx'
  have e : st112i x y (d : Int) (0, setO o d (i1 (nth o d))) = st112i x y d (0, o) := by rw [set_same (by omega)]
  rw [← e]
  exact h
def corL (x y : TLi) : TLi := (List.range' 0 x.length).map fun d => t1 (corF x y d x.length 0)
def corP (x y : TLi) (d : Nat) : TLi := (List.range' 0 d).map (fun d => t1 (corF x y d x.length 0)) ++ List.replicate (x.length - d) (t1 0)
theorem set_mid {α : Type} (v z : α) : ∀ (A r : List α), (A ++ z :: r).set A.length v = A ++ v :: r
  | [], r => rfl
  | a :: A, r => by
    show a :: (A ++ z :: r).set A.length v = _
    rw [set_mid v z A r]
    rfl
theorem corP_len (x y : TLi) (d : Nat) (h : d ≤ x.length) : (corP x y d).length = x.length := by
  unfold corP
  rw [List.length_append, List.length_map, List.length_range', List.length_replicate]
  omega
theorem corP_get (x y : TLi) (d : Nat) (h : d < x.length) : i1 (nth (corP x y d) d) = 0 := by
  unfold corP nth
  rw [List.getD_eq_getElem?_getD, List.getElem?_append_right (by simp), List.length_map, List.length_range', Nat.sub_self, show x.length - d = (x.length - d - 1) + 1 by omega, List.replicate_succ]
  rfl
theorem corP_set (x y : TLi) (d : Nat) (h : d < x.length) : setO (corP x y d) (d : Int) (corF x y d x.length 0) = corP x y (d + 1) := by
  show List.set (corP x y d) d (t1 (corF x y d x.length 0)) = _
  unfold corP
  rw [show x.length - d = (x.length - (d + 1)) + 1 by omega, List.replicate_succ, List.range'_concat, List.map_append]
  have hm := set_mid (t1 (corF x y d x.length 0)) (t1 0) ((List.range' 0 d).map (fun d => t1 (corF x y d x.length 0))) (List.replicate (x.length - (d + 1)) (t1 0))
  rw [List.length_map, List.length_range'] at hm
  rw [hm]
  simp
theorem fn112 (h0 : Lib0 w0) (a b : FL) (hg : okW a b = true) (hl : a.length = b.length) (h100 : a.length ≤ 100000) : FnD (cfg w0) 112 [.vec fsK a, .vec fsK b] (.vec intK (corL (a.map lvE) (b.map lvE))) := by
  obtain ⟨g1, g2, g3, g4⟩ := okW_spec hg
  have hx : (a.map lvE).length = a.length := List.length_map ..
  have hy : (b.map lvE).length = b.length := List.length_map ..
  generalize hX : a.map lvE = x at hx
  generalize hY : b.map lvE = y at hy
  have hm : mkI x.length = true := by
    unfold mkI
    rw [decide_eq_true (show 0 ≤ (x.length : Int) by omega), decide_eq_true (show (x.length : Int) = x.length from rfl), decide_eq_true (show (x.length : Int) ≤ 10000000 by omega), Int.toNat_natCast, (Nat.ble_eq ..).mpr (show x.length * 1 ≤ 10000000 by omega), (Nat.ble_eq ..).mpr (show x.length * 8 ≤ 1000000000000 by omega)]
    rfl
  have hx' : rgRun 0 (fun (d : Nat) (o : TLi) => (X.normal, setO o d (corF x y d x.length (i1 (nth o d))))) x.length 0 (corP x y 0) = (.exit 0, (((0 + x.length : Nat) : Int), corL x y)) := by
    rw [rgRun_fold (h := fun (d : Nat) o => setO o d (corF x y d x.length (i1 (nth o d)))) 0 x.length 0 _ (fun _ _ _ _ => rfl)]
    have key : ∀ m, m ≤ x.length → (List.range' 0 m).foldl (fun o (d : Nat) => setO o d (corF x y d x.length (i1 (nth o d)))) (corP x y 0) = corP x y m := fun m => by
      induction m with
      | zero => intro _; rfl
      | succ m ih =>
        intro hm
        rw [List.range'_concat, List.foldl_append, ih (by omega)]
        simp only [List.foldl_cons, List.foldl_nil, Nat.zero_add, Nat.one_mul]
        rw [corP_get x y m (by omega), corP_set x y m (by omega)]
    rw [key _ (Nat.le_refl _)]
    unfold corP corL
    simp
  have hld := ldT_rg (at_ok (cfg_ok w0) cs112) (at_sp h0 (cs := cs112) ⟨gd155 h0, trivial⟩) (N := (fnOf Tryz.f112).ntmps) (rel := rel112) (B := lpB 0 (fnOf Tryz.f112).body) (id := 0) (k := x.length) (by omega) (st112 x y) _ (fun d o => o.length = x.length)
    (fun d o hd ho => by
      refine .one ((round112 x y (d : Int) o (((0 + x.length : Nat) : Int), setO o d (corF x y d x.length (i1 (nth o d))))).trans ?_) (li112 h0 x y d o (by omega) hd ho (by omega))
      rw [lt_t hd]
      rfl) (fun d o o' _ ho h => by cases h; exact (setO_len _ _ _).trans ho)
    (fun o _ => .leaf ((round112 x y _ o (0, o)).trans (by rw [ge_f]; rfl))) (a0 := corP x y 0) (corP_len x y 0 (Nat.zero_le _)) hx'
  have hb := body112 (w0 := w0) a b (((0 + x.length : Nat) : Int), corL x y)
  rw [g1, g2, g3, g4, hX, hY, hm] at hb
  have e0 : List.replicate ((x.length : Int)).toNat (t1 0) = corP x y 0 := by unfold corP; rw [Int.toNat_natCast]; simp
  rw [e0] at hb
  exact fnD_lp (cfg_ok w0) h0 (cs := cs112) ⟨gd155 h0, trivial⟩ (g := 112) (fd := fnOf Tryz.f112) rfl hb hld
def eqF (a b : FL) : Bool := Nat.beq a.length b.length
def c112 : Ct := ct 112 [.v fsK, .v fsK] fun a => .br (okW a.1 a.2.1) (.br (eqF a.1 a.2.1) (.leaf (.vec intK (corL ((a.1 : FL).map lvE) ((a.2.1 : FL).map lvE)))) .bad) .bad
theorem gd112 (h0 : Lib0 w0) : Gd (cfg w0) c112 := gd_sig fun a d hd => by
  obtain ⟨a, b, u⟩ := a
  obtain ⟨hg, hd⟩ := br_run hd
  obtain ⟨hl, hd⟩ := br_run hd
  cases hd
  exact fn112 h0 a b hg (Nat.eq_of_beq_eq_true hl) (Nat.le_of_ble_eq_true (okW_spec hg).1)
end
end Go.Proofs.YtifnpljmjhnbaaaGreatDoor
