/-
  A part of the proof of the statement that the claim names: see the last file.
-/
import Derived.Test.YtifnpljmjhnbaaaGreatDoorS1
import Derived.Test.YtifnpljmjhnbaaaGreatDoorR1
import Derived.Test.YtifnpljmjhnbaaaGreatDoorAm4
import Derived.Test.YtifnpljmjhnbaaaGreatDoorAm6
namespace Go.Am
variable {G : Gl} {GB : Nat}
theorem GiveOK.sl_one {w w' : World} {ks : List Kd} {n : Nat} {vs : List Value} {l : List (Tup ks)} {u : Value} (hf : flatK ks = true) (hs : 0 < ks.length) (hn : 0 < n) (hv : vs.length = n * ks.length) (hl : ofRows ks n vs = some l)
    (h : GiveOK G GB w w' (.sl n ks.length (vs.map .val)) u) : GiveOK G GB w w' (.vec ks l) u := fun r0 h0 H0 => by
  obtain ⟨r1, S, H, v⟩ := h r0 h0 H0
  simp only [imp, imps_vals] at S H v ⊢
  obtain ⟨r2, T, K, v2, _⟩ := row_list hf hs hn hv hl H0 S H v
  exact ⟨r2, T, K, v2⟩
theorem FnD.sl_one {C : Cfg} {g : FuncId} {ds : List D} {ks : List Kd} {n : Nat} {vs : List Value} {l : List (Tup ks)} (hf : flatK ks = true) (hs : 0 < ks.length) (hn : 0 < n) (hv : vs.length = n * ks.length) (hl : ofRows ks n vs = some l)
    (h : FnD C g ds (.sl n ks.length (vs.map .val))) : FnD C g ds (.vec ks l) := fun w args hb hi =>
  (h w args hb hi).mono fun _ _ ⟨u, a, b⟩ => ⟨u, a, b.sl_one hf hs hn hv hl⟩
end Go.Am
namespace Go.Proofs.YtifnpljmjhnbaaaGreatDoor
open Go Go.Am
set_option maxRecDepth 100000
variable {w0 : World}
noncomputable section


abbrev evK : List Kd := [ik, ik, ik, ik, ik, ik]
abbrev paK : List Kd := [.str, ik, ik, ik, ik]
abbrev strK : List Kd := [.str]
def ef (x : Tup evK) : Int := x.1
def et (x : Tup evK) : Int := x.2.1
def ee (x : Tup evK) : Int := x.2.2.1
def ep (x : Tup evK) : Int := x.2.2.2.1
def ea (x : Tup evK) : Int := x.2.2.2.2.1
def em (x : Tup evK) : Int := x.2.2.2.2.2.1
def pn (x : Tup paK) : ByteArray := x.1
def pf (x : Tup paK) : Int := x.2.1
def pt (x : Tup paK) : Int := x.2.2.1
def pl (x : Tup paK) : Int := x.2.2.2.1
def ph (x : Tup paK) : Int := x.2.2.2.2.1
abbrev evD (x : Tup evK) : D := .agg [I x.1, I x.2.1, I x.2.2.1, I x.2.2.2.1, I x.2.2.2.2.1, I x.2.2.2.2.2.1]
abbrev paD (x : Tup paK) : D := .agg [Str x.1, I x.2.1, I x.2.2.1, I x.2.2.2.1, I x.2.2.2.2.1]

theorem bif3_I {a b c : Bool} {e : Int} : (bif a then some (I (whenZ true e)) else bif b then some (I (whenZ true e)) else some (I (whenZ c e))) = some (I (whenZ (a || (b || c)) e)) := by cases a <;> cases b <;> rfl
def spanZ (f t m : Int) : Int := whenZ (decide (f < 0) || (decide (f ≥ t) || decide (t > m))) 14
theorem run123 (f t : Int) : bodyK ((cfg w0).at [whenC 104]) 40 (fnOf Tryz.f123) [.agg [I f, I t]] = bif decide (f < 0) then some (I (whenZ true 14)) else bif decide (f ≥ t) then some (I (whenZ true 14)) else some (I (whenZ (decide (t > 100000)) 14)) := by kernel_rfl
def c123 : Ct := ct 123 [.b IvK] fun a => .leaf (I (spanZ a.1.1 a.1.2.1 100000))
theorem gd123 (h0 : Lib0 w0) : Gd (cfg w0) c123 := gd_k h0 (cs := [whenC 104]) ⟨gd104 h0, trivial⟩ (fd := fnOf Tryz.f123) rfl (n := 40) fun a d hd => by
  obtain ⟨⟨f, t, _⟩, u⟩ := a
  cases hd
  exact (run123 f t).trans bif3_I
theorem run124 (f t m : Int) : bodyK ((cfg w0).at [whenC 102]) 40 (fnOf Tryz.f124) [.agg [I f, I t], I m] = bif decide (f < 0) then some (I (whenZ true 14)) else bif decide (f ≥ t) then some (I (whenZ true 14)) else some (I (whenZ (decide (t > m)) 14)) := by kernel_rfl
def c124 : Ct := ct 124 [.b IvK, .c ik] fun a => .leaf (I (spanZ a.1.1 a.1.2.1 a.2.1))
theorem gd124 (h0 : Lib0 w0) : Gd (cfg w0) c124 := gd_k h0 (cs := [whenC 102]) ⟨gd102 h0, trivial⟩ (fd := fnOf Tryz.f124) rfl (n := 40) fun a d hd => by
  obtain ⟨⟨f, t, _⟩, m, u⟩ := a
  cases hd
  exact (run124 f t m).trans bif3_I

def shortE (l : List (Tup evK)) : Bool := decide ((l.length : Int) ≤ 4) || ((l.length : Int) == 9)
theorem run52 (l : List (Tup evK)) : bodyK ((cfg w0).at []) 40 (fnOf Tryz.f52) [.vec evK l] = bif decide ((l.length : Int) ≤ 4) then some (Bo true) else some (Bo ((l.length : Int) == 9)) := by kernel_rfl
def c52 : Ct := ct 52 [.v evK] fun a => .leaf (Bo (shortE a.1))
theorem gd52 (h0 : Lib0 w0) : Gd (cfg w0) c52 := gd_k h0 (cs := []) trivial (fd := fnOf Tryz.f52) rfl (n := 40) fun a d hd => by
  obtain ⟨l, u⟩ := a
  cases hd
  refine (run52 l).trans ?_
  show _ = some (Bo (shortE l))
  unfold shortE
  cases decide ((l.length : Int) ≤ 4) <;> rfl


def longP (x : Tup paK) : Bool := decide (((pn x).size : Int) > 40)
def rel53 : List (Nat × Cv) := [(0, .id), (3, .id), (2, .id)]
def st53 (l : List (Tup paK)) (a : Int × Bool) : List D := [.vec paK l, I a.1, Bo a.2]
theorem round53 (l : List (Tup paK)) (j : Int) (b : Bool) : rndD ((cfg w0).at []) 40 [] 40 (fnOf Tryz.f53).ntmps rel53 (lpB 0 (fnOf Tryz.f53).body) (st53 l (j, b)) =
    bif decide (j < l.length) then bif (Nat.beq 5 5 && (decide (0 ≤ j) && decide (j < l.length))) then
      bif longP (nth l j.toNat) then some ([], .ret, st53 l (j, false)) else some ([], .normal, st53 l (W (j + 1), b))
    else none else some ([], .exit 0, st53 l (j, b)) := by kernel_rfl
theorem body53r (l : List (Tup paK)) (p : Int × Bool) : bodyT ((cfg w0).at []) 40 [ldP 0 (fnOf Tryz.f53).ntmps rel53 .ret (st53 l p)] 40 (fnOf Tryz.f53) [.vec paK l] =
    some ([(ldP 0 (fnOf Tryz.f53).ntmps rel53 .ret (st53 l p), .loop (lpB 0 (fnOf Tryz.f53).body), st53 l (0, false))], Bo p.2) := by kernel_rfl
theorem body53n (l : List (Tup paK)) (p : Int × Bool) : bodyT ((cfg w0).at []) 40 [ldP 0 (fnOf Tryz.f53).ntmps rel53 .normal (st53 l p)] 40 (fnOf Tryz.f53) [.vec paK l] =
    bif decide ((l.length : Int) ≤ 4) then some ([(ldP 0 (fnOf Tryz.f53).ntmps rel53 .normal (st53 l p), .loop (lpB 0 (fnOf Tryz.f53).body), st53 l (0, false))], Bo true) else some ([(ldP 0 (fnOf Tryz.f53).ntmps rel53 .normal (st53 l p), .loop (lpB 0 (fnOf Tryz.f53).body), st53 l (0, false))], Bo ((l.length : Int) == 9)) := by kernel_rfl
def shortP (l : List (Tup paK)) : Bool := !(l.any longP) && (decide ((l.length : Int) ≤ 4) || ((l.length : Int) == 9))
theorem lsRun_anyc {ks : List Kd} {β : Type} (p : Tup ks → Bool) (c : β) : ∀ (l : List (Tup ks)) (i : Nat) (a : β), ∃ q : Nat, lsRun 0 (fun x a => bif p x then (X.ret, c) else (.normal, a)) l i a = bif l.any p then (.ret, ((q : Int), c)) else (.exit 0, (((i + l.length : Nat) : Int), a))
  | [], i, a => ⟨0, rfl⟩
  | x :: xs, i, a => by
    obtain ⟨q, hq⟩ := lsRun_anyc p c xs (i + 1) a
    unfold lsRun
    rw [List.any_cons]
    cases hx : p x with
    | true => exact ⟨i, by simp⟩
    | false =>
      refine ⟨q, ?_⟩
      simp only [cond_false, Bool.false_or]
      rw [hq, List.length_cons, show i + 1 + xs.length = i + (xs.length + 1) by omega]
theorem fn_lsW (h0 : Lib0 w0) {cs : List Ct} (hcs : Gds (cfg w0) cs) {g : FuncId} {fd : AFn} (hfd : fnTr.get g = some fd) (rel : List (Nat × Cv)) {ks : List Kd} (l : List (Tup ks)) (hlen : l.length ≤ 9223372036854775807) {α : Type} (st : Int × α → List D)
    (f : Tup ks → α → X × α) (inv : Nat → α → Prop) {a0 : α} (hi : inv 0 a0)
    (hr : ∀ (j : Nat) a, j < l.length → inv j a → RdOK ((cfg w0).at cs) fd.ntmps rel (lpB 0 fd.body) (st ((j : Int), a)) (f (nth l j) a).1 (st (nx j (f (nth l j) a))))
    (hn : ∀ (j : Nat) a a', j < l.length → inv j a → f (nth l j) a = (.normal, a') → inv (j + 1) a')
    (he : ∀ a, inv l.length a → RdOK ((cfg w0).at cs) fd.ntmps rel (lpB 0 fd.body) (st ((l.length : Int), a)) (.exit 0) (st ((l.length : Int), a)))
    {ds : List D} {d : D} (hb : ∀ x p, lsRun 0 f l 0 a0 = (x, p) → bodyT ((cfg w0).at cs) 40 [ldP 0 fd.ntmps rel (outX 0 x) (st p)] 40 fd ds = some ([(ldP 0 fd.ntmps rel (outX 0 x) (st p), .loop (lpB 0 fd.body), st (0, a0))], d)) : FnD (cfg w0) g ds d := by
  cases hx : lsRun 0 f l 0 a0 with
  | mk x p => exact fnD_lp (cfg_ok w0) h0 hcs hfd (hb x p hx) (ldT_lsW (at_ok (cfg_ok w0) cs) (at_sp h0 hcs) l (by omega) st f inv hr hn he hi hx)

theorem fn53 (h0 : Lib0 w0) (l : List (Tup paK)) (hl : l.length ≤ 9223372036854775807) : FnD (cfg w0) 53 [.vec paK l] (Bo (shortP l)) := by
  refine fn_lsW h0 (cs := []) trivial (fd := fnOf Tryz.f53) rfl rel53 l (by omega) (st53 l) (fun x a => bif longP x then (X.ret, false) else (.normal, a)) (fun _ _ => True) (a0 := false) trivial
    (fun j a hj _ => .leaf (by
      rw [round53, inb 5 hj, lt_t hj, Int.toNat_natCast]
      cases longP (nth l j) <;> rfl)) (fun _ _ _ _ _ _ => trivial)
    (fun a _ => .leaf (by rw [round53, ge_f]; rfl)) fun x p hx => ?_
  obtain ⟨q, hq⟩ := lsRun_anyc longP false l 0 false
  rw [hq] at hx
  unfold shortP
  cases ha : l.any longP <;> rw [ha] at hx <;> cases hx
  · refine (body53n l _).trans ?_
    cases decide ((l.length : Int) ≤ 4) <;> rfl
  · exact body53r l _
def c53 : Ct := ct 53 [.v paK] fun a => .br (Nat.ble (a.1 : List (Tup paK)).length 9223372036854775807) (.leaf (Bo (shortP a.1))) .bad
theorem gd53 (h0 : Lib0 w0) : Gd (cfg w0) c53 := gd_sig fun a d hd => by
  obtain ⟨hg, hd⟩ := br_run hd
  cases hd
  exact fn53 h0 a.1 (Nat.le_of_ble_eq_true hg)


def rel60 : List (Nat × Cv) := [(6, .id), (7, .id), (8, .id), (3, .ov evK)]
def st60 (l : List (Tup evK)) (a : Int × List (Tup evK)) : List D := [.vec evK l, I l.length, I a.1, .ovec evK a.2]
theorem round60 (l o : List (Tup evK)) (j : Int) : rndD ((cfg w0).at []) 40 [] 40 (fnOf Tryz.f60).ntmps rel60 (lpB 0 (fnOf Tryz.f60).body) (st60 l (j, o)) =
    bif decide (j < l.length) then bif (Nat.beq 6 6 && (decide (0 ≤ j) && decide (j < l.length))) then
      bif (Nat.ble ((o ++ [nth l j.toNat]).length * 48) 1000000000000 && Nat.ble (o ++ [nth l j.toNat]).length 1000000000000) then some ([], .normal, st60 l (W (j + 1), o ++ [nth l j.toNat])) else none
    else none else some ([], .exit 0, st60 l (j, o)) := by kernel_rfl
theorem body60 (l : List (Tup evK)) (p : Int × List (Tup evK)) : bodyT ((cfg w0).at []) 40 [ldP 0 (fnOf Tryz.f60).ntmps rel60 .normal (st60 l p)] 40 (fnOf Tryz.f60) [.vec evK l] =
    some ([(ldP 0 (fnOf Tryz.f60).ntmps rel60 .normal (st60 l p), .loop (lpB 0 (fnOf Tryz.f60).body), st60 l (0, []))], .vec evK p.2) := by kernel_rfl
theorem fn60 (h0 : Lib0 w0) (l : List (Tup evK)) (hg : l.length ≤ 100000) : FnD (cfg w0) 60 [.vec evK l] (.vec evK l) := by
  refine fn_ls h0 (cs := []) trivial (fd := fnOf Tryz.f60) rfl rel60 l (by omega) (st60 l) (fun w a => (X.normal, a ++ [w])) (fun j a => a.length = j) (a0 := []) rfl
    (fun j a hj hi => .leaf (by
      have hi : a.length = j := hi
      rw [round60, inb 6 hj, lt_t hj, Int.toNat_natCast, room (by omega) (by omega)]
      rfl)) (fun j a a' _ hi h => by cases h; simp [hi])
    (fun a _ => .leaf (by rw [round60, ge_f]; rfl)) fun x p hx => ?_
  rw [lsRun_fold (h := fun w b => b ++ [w]) 0 l 0 [] (fun _ _ _ => rfl), show (fun b (w : Tup evK) => b ++ [w]) = (fun b w => b ++ [id w]) from rfl, foldl_snoc id, List.map_id, List.nil_append] at hx
  cases hx
  exact body60 l _
def rel63 : List (Nat × Cv) := [(6, .id), (7, .id), (8, .id), (3, .ov paK)]
def st63 (l : List (Tup paK)) (a : Int × List (Tup paK)) : List D := [.vec paK l, I l.length, I a.1, .ovec paK a.2]
theorem round63 (l o : List (Tup paK)) (j : Int) : rndD ((cfg w0).at []) 40 [] 40 (fnOf Tryz.f63).ntmps rel63 (lpB 0 (fnOf Tryz.f63).body) (st63 l (j, o)) =
    bif decide (j < l.length) then bif (Nat.beq 5 5 && (decide (0 ≤ j) && decide (j < l.length))) then
      bif (Nat.ble ((o ++ [nth l j.toNat]).length * 48) 1000000000000 && Nat.ble (o ++ [nth l j.toNat]).length 1000000000000) then some ([], .normal, st63 l (W (j + 1), o ++ [nth l j.toNat])) else none
    else none else some ([], .exit 0, st63 l (j, o)) := by kernel_rfl
theorem body63 (l : List (Tup paK)) (p : Int × List (Tup paK)) : bodyT ((cfg w0).at []) 40 [ldP 0 (fnOf Tryz.f63).ntmps rel63 .normal (st63 l p)] 40 (fnOf Tryz.f63) [.vec paK l] =
    some ([(ldP 0 (fnOf Tryz.f63).ntmps rel63 .normal (st63 l p), .loop (lpB 0 (fnOf Tryz.f63).body), st63 l (0, []))], .vec paK p.2) := by kernel_rfl
theorem fn63 (h0 : Lib0 w0) (l : List (Tup paK)) (hg : l.length ≤ 100000) : FnD (cfg w0) 63 [.vec paK l] (.vec paK l) := by
  refine fn_ls h0 (cs := []) trivial (fd := fnOf Tryz.f63) rfl rel63 l (by omega) (st63 l) (fun w a => (X.normal, a ++ [w])) (fun j a => a.length = j) (a0 := []) rfl
    (fun j a hj hi => .leaf (by
      have hi : a.length = j := hi
      rw [round63, inb 5 hj, lt_t hj, Int.toNat_natCast, room (by omega) (by omega)]
      rfl)) (fun j a a' _ hi h => by cases h; simp [hi])
    (fun a _ => .leaf (by rw [round63, ge_f]; rfl)) fun x p hx => ?_
  rw [lsRun_fold (h := fun w b => b ++ [w]) 0 l 0 [] (fun _ _ _ => rfl), show (fun b (w : Tup paK) => b ++ [w]) = (fun b w => b ++ [id w]) from rfl, foldl_snoc id, List.map_id, List.nil_append] at hx
  cases hx
  exact body63 l _
def c60 : Ct := ct 60 [.v evK] fun a => .br (Nat.ble (a.1 : List (Tup evK)).length 100000) (.leaf (.vec evK a.1)) .bad
theorem gd60 (h0 : Lib0 w0) : Gd (cfg w0) c60 := gd_sig fun a d hd => by
  obtain ⟨hg, hd⟩ := br_run hd
  cases hd
  exact fn60 h0 a.1 (Nat.le_of_ble_eq_true hg)
def c63 : Ct := ct 63 [.v paK] fun a => .br (Nat.ble (a.1 : List (Tup paK)).length 100000) (.leaf (.vec paK a.1)) .bad
theorem gd63 (h0 : Lib0 w0) : Gd (cfg w0) c63 := gd_sig fun a d hd => by
  obtain ⟨hg, hd⟩ := br_run hd
  cases hd
  exact fn63 h0 a.1 (Nat.le_of_ble_eq_true hg)
end
end Go.Proofs.YtifnpljmjhnbaaaGreatDoor

namespace Go.Proofs.YtifnpljmjhnbaaaGreatDoor
open Go Go.Am
set_option maxRecDepth 100000
variable {w0 : World}
noncomputable section


def inE (l : List (Tup evK)) (j : Int) : Bool := Nat.beq 6 6 && (decide (0 ≤ j) && decide (j < l.length))
theorem inE_nat {l : List (Tup evK)} {j : Nat} (h : j < l.length) : inE l (j : Int) = true := inb 6 h
def spanE (x : Tup evK) : Int := spanZ (ef x) (et x) 100000
def atE (x : Tup evK) : Int := withinZ (ea x) (ef x) (IntKind.i64.wrap (et x - 1))
def misE (x : Tup evK) : Int := withinZ (em x) 0 (IntKind.i64.wrap (IntKind.i64.wrap (et x - ef x) - 1))
def enZ (x : Tup evK) : Int := withinZ (ee x) 0 maxE
def pkZ (x : Tup evK) : Int := withinZ (ep x) 0 maxE
def fmZ (x : Tup evK) : Int := whenZ (decide (ep x > ee x)) 1
def e1Z (x : Tup evK) (e : Int) : Int := firstZ [spanE x, whenZ (decide (ef x < e)) 15, enZ x, pkZ x, fmZ x]
def e2Z (x : Tup evK) : Int := firstZ [atE x, misE x]
def r5 (x : Tup evK) : Int := firstZ [enZ x, pkZ x, fmZ x, atE x, misE x]
def sameEv (x y : Tup evK) : Bool := ((ef x == ef y) && ((et x == et y) && true)) && ((ee x == ee y) && ((ep x == ep y) && ((ea x == ea y) && ((em x == em y) && true))))
def cs59 : List Ct := c123 :: baseC
theorem cs59_gd (h0 : Lib0 w0) : Gds (cfg w0) cs59 := ⟨gd123 h0, baseC_gd h0⟩
def rel59 : List (Nat × Cv) := [(0, .id), (11, .id), (12, .id), (13, .id), (3, .id), (2, .id)]
def st59 (l : List (Tup evK)) (a : Int × Int × Int) : List D := [.vec evK l, .vec evK l, I l.length, I a.1, I a.2.1, I a.2.2]
def pv (j : Int) : Int := IntKind.i64.wrap (j - 1)
def tl59 (l : List (Tup evK)) (j e r : Int) : Option (Obs × X × List D) :=
  bif e1Z (nth l j.toNat) e != 0 then some ([], .ret, st59 l (j, e, e1Z (nth l j.toNat) e)) else
  bif e2Z (nth l j.toNat) != 0 then some ([], .ret, st59 l (j, e, e2Z (nth l j.toNat))) else some ([], .normal, st59 l (W (j + 1), et (nth l j.toNat), r))
theorem round59 (l : List (Tup evK)) (j e r : Int) : rndD ((cfg w0).at cs59) 40 [] 40 (fnOf Tryz.f59).ntmps rel59 (lpB 0 (fnOf Tryz.f59).body) (st59 l (j, e, r)) =
    bif decide (j < l.length) then bif inE l j then
      bif decide (j > 0) then bif inE l (pv j) then
        bif sameEv (nth l j.toNat) (nth l (pv j).toNat) then some ([], .ret, st59 l (j, e, 15)) else tl59 l j e r
      else none else tl59 l j e r
    else none else some ([], .exit 0, st59 l (j, e, r)) := by kernel_rfl
theorem body59 (l : List (Tup evK)) (x : X) (p : Int × Int × Int) (hx : x = .ret ∨ x = .normal) : bodyT ((cfg w0).at cs59) 40 [ldP 0 (fnOf Tryz.f59).ntmps rel59 x (st59 l p)] 40 (fnOf Tryz.f59) [.vec evK l] =
    bif decide ((l.length : Int) > 8) then some ([], I 5) else some ([(ldP 0 (fnOf Tryz.f59).ntmps rel59 x (st59 l p), .loop (lpB 0 (fnOf Tryz.f59).body), st59 l (0, 0, 0))], onX x (I p.2.2) (I 0)) := by
  rcases hx with rfl | rfl <;> kernel_rfl
def ovl (l : List (Tup evK)) (j : Nat) : Bool := decide (0 < j) && decide (ef (nth l j) < et (nth l (j - 1)))
def errI (l : List (Tup evK)) (j : Nat) : Int := bif spanE (nth l j) != 0 then spanE (nth l j) else bif ovl l j then 15 else r5 (nth l j)
def chkI (l : List (Tup evK)) : Nat → Nat → Int
  | 0, _ => 0
  | f + 1, j => bif errI l j != 0 then errI l j else chkI l f (j + 1)
def chkEv (l : List (Tup evK)) : Int := bif decide ((l.length : Int) > 8) then 5 else chkI l l.length 0
theorem span_zero {f t m : Int} (h : spanZ f t m = 0) : 0 ≤ f ∧ f < t ∧ t ≤ m := by
  unfold spanZ whenZ at h
  cases hb : (decide (f < 0) || (decide (f ≥ t) || decide (t > m))) with
  | true => rw [hb] at h; cases h
  | false =>
    simp only [Bool.or_eq_false_iff, decide_eq_false_iff_not] at hb
    omega
theorem first5 (s o a b c d f : Int) : (bif firstZ [s, o, a, b, c] != 0 then firstZ [s, o, a, b, c] else firstZ [d, f]) = bif s != 0 then s else bif o != 0 then o else firstZ [a, b, c, d, f] := by
  unfold firstZ firstZ firstZ firstZ firstZ firstZ
  cases hs : (s != 0)
  · cases ho : (o != 0)
    · cases ha : (a != 0)
      · cases hb : (b != 0)
        · cases hc : (c != 0)
          · rfl
          · simp only [cond_true, cond_false, hc]
        · simp only [cond_true, cond_false, hb]
      · simp only [cond_true, cond_false, ha]
    · simp only [cond_true, cond_false, ho]
  · simp only [cond_true, hs]
def Inv59 (l : List (Tup evK)) (j : Nat) (a : Int × Int) : Prop := (j = 0 → a.1 = 0) ∧ (0 < j → a.1 = et (nth l (j - 1)) ∧ spanE (nth l (j - 1)) = 0)
theorem err59 {l : List (Tup evK)} {j : Nat} {e : Int} (h1 : j = 0 → e = 0) (h2 : 0 < j → e = et (nth l (j - 1)) ∧ spanE (nth l (j - 1)) = 0) :
    (bif e1Z (nth l j) e != 0 then e1Z (nth l j) e else e2Z (nth l j)) = errI l j := by
  unfold e1Z e2Z errI
  rw [first5]
  cases hs : (spanE (nth l j) != 0) with
  | true => rfl
  | false =>
    obtain ⟨a1, a2, a3⟩ := span_zero (show spanZ (ef (nth l j)) (et (nth l j)) 100000 = 0 by simpa [spanE] using hs)
    simp only [cond_false]
    have ho : decide (ef (nth l j) < e) = ovl l j := by
      unfold ovl
      rcases Nat.eq_zero_or_pos j with h | h
      · subst h
        rw [h1 rfl, decide_eq_false (by omega)]
        rfl
      · rw [(h2 h).1, decide_eq_true h, Bool.true_and]
    rw [ho]
    cases ovl l j <;> rfl
theorem same59 {l : List (Tup evK)} {j : Nat} (hj : 0 < j) (h : sameEv (nth l j) (nth l (j - 1)) = true) (hs : spanE (nth l (j - 1)) = 0) : errI l j = 15 := by
  unfold sameEv at h
  simp only [Bool.and_true, Bool.and_eq_true, beq_iff_eq] at h
  obtain ⟨⟨h1, h2⟩, _⟩ := h
  have e : spanE (nth l j) = 0 := by unfold spanE at hs ⊢; rw [h1, h2]; exact hs
  obtain ⟨a1, a2, a3⟩ := span_zero (show spanZ (ef (nth l (j - 1))) (et (nth l (j - 1))) 100000 = 0 from hs)
  unfold errI ovl
  rw [e, decide_eq_true hj, decide_eq_true (show ef (nth l j) < et (nth l (j - 1)) by omega)]
  rfl
def step59 (l : List (Tup evK)) (j : Nat) (a : Int × Int) : X × (Int × Int) := bif errI l j != 0 then (.ret, (a.1, errI l j)) else (.normal, (et (nth l j), a.2))
theorem run_chk {l : List (Tup evK)} : ∀ (f i : Nat) (e : Int), ∃ (q : Nat) (e' : Int), rgRun 0 (step59 l) f i (e, 0) = bif chkI l f i != 0 then (.ret, ((q : Int), (e', chkI l f i))) else (.exit 0, (((i + f : Nat) : Int), (e', 0)))
  | 0, i, e => ⟨0, e, rfl⟩
  | f + 1, i, e => by
    unfold rgRun chkI
    cases hc : (errI l i != 0) with
    | true => exact ⟨i, e, by simp only [step59, hc, cond_true]⟩
    | false =>
      obtain ⟨q, e', h⟩ := run_chk (l := l) f (i + 1) (et (nth l i))
      refine ⟨q, e', ?_⟩
      simp only [step59, hc, cond_false]
      rw [h, show i + 1 + f = i + (f + 1) by omega]
theorem pv_nat {j : Nat} (h : 0 < j) (h2 : j ≤ 1000000) : pv j = ((j - 1 : Nat) : Int) := by
  unfold pv
  rw [W_id (by omega) (by omega)]
  omega
theorem fn59 (h0 : Lib0 w0) (l : List (Tup evK)) : FnD (cfg w0) 59 [.vec evK l] (I (chkEv l)) := by
  unfold chkEv
  cases hm : decide ((l.length : Int) > 8) with
  | true =>
    refine fnD_t (cfg_ok w0) h0 (cs59_gd h0) (fd := fnOf Tryz.f59) rfl (L := [ldP 0 (fnOf Tryz.f59).ntmps rel59 .normal (st59 l (0, 0, 0))]) (o := []) ((body59 l .normal (0, 0, 0) (.inr rfl)).trans ?_) trivial
    rw [hm]; rfl
  | false =>
    have hlen : l.length ≤ 8 := by rw [decide_eq_false_iff_not] at hm; omega
    refine fn_rg h0 (cs59_gd h0) (fd := fnOf Tryz.f59) rfl rel59 l.length (by omega) (st59 l) (step59 l) (Inv59 l) (a0 := (0, 0)) ⟨fun _ => rfl, fun h => absurd h (by omega)⟩
      (fun j a hj ⟨i1', i2'⟩ => .leaf (by
        obtain ⟨e, r⟩ := a
        rw [round59, inE_nat hj, lt_t hj]
        have he := err59 (l := l) (j := j) (e := e) i1' i2'
        have ht : tl59 l j e r = some ([], (step59 l j (e, r)).1, st59 l (nx j (step59 l j (e, r)))) := by
          unfold tl59 step59
          rw [Int.toNat_natCast, ← he]
          cases h1 : (e1Z (nth l j) e != 0) with
          | true => simp only [cond_true, h1]; rfl
          | false =>
            simp only [cond_false]
            cases h2 : (e2Z (nth l j) != 0) <;> rfl
        rcases Nat.eq_zero_or_pos j with h | h
        · rw [decide_eq_false (show ¬ ((j : Int) > 0) by omega)]
          exact ht
        · rw [decide_eq_true (show (j : Int) > 0 by omega), pv_nat h (by omega), inE_nat (show j - 1 < l.length by omega), Int.toNat_natCast, Int.toNat_natCast]
          cases hs : sameEv (nth l j) (nth l (j - 1)) with
          | false => exact ht
          | true =>
            have := same59 h hs (i2' h).2
            unfold step59
            rw [this]
            rfl)) (fun j a a' hj ⟨i1', i2'⟩ h => by
        unfold step59 at h
        cases hc : (errI l j != 0) <;> rw [hc] at h <;> cases h
        refine ⟨fun h => absurd h (by omega), fun _ => ⟨rfl, ?_⟩⟩
        have hz : errI l j = 0 := by simpa using hc
        unfold errI at hz
        exact (first_zero hz).1)
      (fun a _ => .leaf (by obtain ⟨e, r⟩ := a; rw [round59, ge_f]; rfl)) fun x p hx => ?_
    obtain ⟨q, e', hq⟩ := run_chk (l := l) l.length 0 0
    rw [hq] at hx
    simp only [cond_false]
    cases hc : (chkI l l.length 0 != 0) <;> rw [hc] at hx <;> cases hx
    · rw [show chkI l l.length 0 = 0 by simpa using hc]
      exact (body59 l _ _ (.inr rfl)).trans (by rw [hm]; rfl)
    · exact (body59 l _ _ (.inl rfl)).trans (by rw [hm]; rfl)
def evC (g : Nat) : Ct := ct g [.v evK] fun a => .leaf (I (chkEv a.1))
theorem gd59 (h0 : Lib0 w0) : Gd (cfg w0) (evC 59) := gd_sig fun a d hd => by cases hd; exact fn59 h0 a.1


def cs61 : List Ct := c124 :: baseC
theorem cs61_gd (h0 : Lib0 w0) : Gds (cfg w0) cs61 := ⟨gd124 h0, baseC_gd h0⟩
def rel61 : List (Nat × Cv) := [(0, .id), (3, .id), (2, .id)]
def st61 (l : List (Tup evK)) (a : Int × Int) : List D := [.vec evK l, I a.1, I a.2]
def tl61 (l : List (Tup evK)) (j r : Int) : Option (Obs × X × List D) :=
  bif inE l j then bif r5 (nth l j.toNat) != 0 then some ([], .ret, st61 l (j, r5 (nth l j.toNat))) else some ([], .normal, st61 l (W (j + 1), r)) else none
theorem round61 (l : List (Tup evK)) (j r : Int) : rndD ((cfg w0).at cs61) 40 [] 40 (fnOf Tryz.f61).ntmps rel61 (lpB 0 (fnOf Tryz.f61).body) (st61 l (j, r)) =
    bif decide (j < l.length) then bif inE l j then
      bif spanE (nth l j.toNat) != 0 then some ([], .ret, st61 l (j, spanE (nth l j.toNat))) else
      bif decide (j > 0) then bif inE l j then bif inE l (pv j) then
        bif decide (ef (nth l j.toNat) < et (nth l (pv j).toNat)) then some ([], .ret, st61 l (j, 15)) else tl61 l j r
      else none else none else tl61 l j r
    else none else some ([], .exit 0, st61 l (j, r)) := by kernel_rfl
theorem body61 (l : List (Tup evK)) (x : X) (p : Int × Int) (hx : x = .ret ∨ x = .normal) : bodyT ((cfg w0).at cs61) 40 [ldP 0 (fnOf Tryz.f61).ntmps rel61 x (st61 l p)] 40 (fnOf Tryz.f61) [.vec evK l] =
    bif decide ((l.length : Int) > 8) then some ([], I 5) else some ([(ldP 0 (fnOf Tryz.f61).ntmps rel61 x (st61 l p), .loop (lpB 0 (fnOf Tryz.f61).body), st61 l (0, 0))], onX x (I p.2) (I 0)) := by
  rcases hx with rfl | rfl <;> kernel_rfl
def step61 (l : List (Tup evK)) (j : Nat) (a : Int) : X × Int := bif errI l j != 0 then (.ret, errI l j) else (.normal, a)
theorem run_chk1 {l : List (Tup evK)} : ∀ (f i : Nat), ∃ (q : Nat), rgRun 0 (step61 l) f i 0 = bif chkI l f i != 0 then (.ret, ((q : Int), chkI l f i)) else (.exit 0, (((i + f : Nat) : Int), 0))
  | 0, i => ⟨0, rfl⟩
  | f + 1, i => by
    unfold rgRun chkI
    cases hc : (errI l i != 0) with
    | true => exact ⟨i, by simp only [step61, hc, cond_true]⟩
    | false =>
      obtain ⟨q, h⟩ := run_chk1 (l := l) f (i + 1)
      refine ⟨q, ?_⟩
      simp only [step61, hc, cond_false]
      rw [h, show i + 1 + f = i + (f + 1) by omega]
theorem fn61 (h0 : Lib0 w0) (l : List (Tup evK)) : FnD (cfg w0) 61 [.vec evK l] (I (chkEv l)) := by
  unfold chkEv
  cases hm : decide ((l.length : Int) > 8) with
  | true =>
    refine fnD_t (cfg_ok w0) h0 (cs61_gd h0) (fd := fnOf Tryz.f61) rfl (L := [ldP 0 (fnOf Tryz.f61).ntmps rel61 .normal (st61 l (0, 0))]) (o := []) ((body61 l .normal (0, 0) (.inr rfl)).trans ?_) trivial
    rw [hm]; rfl
  | false =>
    have hlen : l.length ≤ 8 := by rw [decide_eq_false_iff_not] at hm; omega
    refine fn_rg h0 (cs61_gd h0) (fd := fnOf Tryz.f61) rfl rel61 l.length (by omega) (st61 l) (step61 l) (fun _ _ => True) (a0 := 0) trivial
      (fun j a hj _ => .leaf (by
        rw [round61, inE_nat hj, lt_t hj]
        have ht : tl61 l j a = bif r5 (nth l j) != 0 then some ([], .ret, st61 l (j, r5 (nth l j))) else some ([], .normal, st61 l (W (j + 1), a)) := by
          unfold tl61
          rw [inE_nat hj, Int.toNat_natCast]
          rfl
        rw [ht]
        unfold step61 errI ovl
        rw [Int.toNat_natCast]
        cases hs : (spanE (nth l j) != 0) with
        | true => simp only [cond_true, hs]; rfl
        | false =>
          simp only [cond_false, cond_true]
          rcases Nat.eq_zero_or_pos j with h | h
          · rw [decide_eq_false (show ¬ ((j : Int) > 0) by omega), decide_eq_false (show ¬ 0 < j by omega), Bool.false_and]
            simp only [cond_false]
            cases hr : (r5 (nth l j) != 0) <;> rfl
          · rw [decide_eq_true (show (j : Int) > 0 by omega), decide_eq_true h, Bool.true_and, pv_nat h (by omega), inE_nat (show j - 1 < l.length by omega), Int.toNat_natCast]
            simp only [cond_true]
            cases decide (ef (nth l j) < et (nth l (j - 1)))
            · cases hr : (r5 (nth l j) != 0) <;> simp only [cond_false, hr] <;> rfl
            · rfl)) (fun _ _ _ _ _ _ => trivial)
      (fun a _ => .leaf (by rw [round61, ge_f]; rfl)) fun x p hx => ?_
    obtain ⟨q, hq⟩ := run_chk1 (l := l) l.length 0
    rw [hq] at hx
    simp only [cond_false]
    cases hc : (chkI l l.length 0 != 0) <;> rw [hc] at hx <;> cases hx
    · rw [show chkI l l.length 0 = 0 by simpa using hc]
      exact (body61 l _ _ (.inr rfl)).trans (by rw [hm]; rfl)
    · exact (body61 l _ _ (.inl rfl)).trans (by rw [hm]; rfl)
theorem gd61 (h0 : Lib0 w0) : Gd (cfg w0) (evC 61) := gd_sig fun a d hd => by cases hd; exact fn61 h0 a.1
end
end Go.Proofs.YtifnpljmjhnbaaaGreatDoor
