/-
  A part of the proof of the statement that the claim names: see the last file.
-/
import Derived.Test.YtifnpljmjhnbaaaGreatDoorR6
import Derived.Test.YtifnpljmjhnbaaaGreatDoorV1
import Derived.Test.YtifnpljmjhnbaaaGreatDoorAm4
namespace Go.Proofs.YtifnpljmjhnbaaaGreatDoor
open Go Go.Am
set_option maxRecDepth 100000
variable {w0 : World}
noncomputable section


def ruE (a b c : Int) : Int := firstZ [withinZ a 1 maxE, withinZ b 0 60, withinZ c 1 1024]
theorem run106 (a b c : Int) : bodyK ((cfg w0).at baseC) 40 (fnOf Tryz.f106) [.agg [I a, I b, I c]] = some (I (ruE a b c)) := by kernel_rfl
theorem run37 (a b c : Int) : bodyK ((cfg w0).at baseC) 40 (fnOf Tryz.f37) [.agg [I a, I b, I c]] = some (I (ruE a b c)) := by kernel_rfl
abbrev ruK : List Kd := [ik, ik, ik]
def ruC (g : Nat) : Ct := ct g [.b ruK] fun a => .leaf (I (ruE a.1.1 a.1.2.1 a.1.2.2.1))
theorem gd106 (h0 : Lib0 w0) : Gd (cfg w0) (ruC 106) := gd_k h0 (cs := baseC) (baseC_gd h0) (fd := fnOf Tryz.f106) rfl (n := 40) fun a d hd => by
  obtain ⟨⟨x, y, z, _⟩, u⟩ := a
  cases hd
  exact run106 x y z
theorem gd37 (h0 : Lib0 w0) : Gd (cfg w0) (ruC 37) := gd_k h0 (cs := baseC) (baseC_gd h0) (fd := fnOf Tryz.f37) rfl (n := 40) fun a d hd => by
  obtain ⟨⟨x, y, z, _⟩, u⟩ := a
  cases hd
  exact run37 x y z


def rel108 : List (Nat × Cv) := [(3, .id), (4, .id), (5, .id), (15, .id), (16, .id), (17, .id)]
def st108 (m : TL) (n : Nat) (f t : Int) (a : Int × A4) : List D := [.obox [I f, I t], .obox [I 0, I 0, I 0, I 0, I 0, I 0], .obox [I f, I t, I a.2.1, I a.2.2.1, I a.2.2.2.1, I a.2.2.2.2], .vec intK m, I n, I a.1]
theorem round108 (m : TL) (n : Nat) (f t j a b c e : Int) : rndD ((cfg w0).at []) 40 [] 40 (fnOf Tryz.f108).ntmps rel108 (lpB 0 (fnOf Tryz.f108).body) (st108 m n f t (j, a, b, c, e)) =
    bif decide (j < n) then bif inO m j then
      bif i1 (nth m j.toNat) == -1 then some ([], .normal, st108 m n f t (W (j + 1), a, b, c, IntKind.i64.wrap (e + 1))) else
      bif decide (i1 (nth m j.toNat) > b) then some ([], .normal, st108 m n f t (W (j + 1), IntKind.i64.wrap (a + i1 (nth m j.toNat)), i1 (nth m j.toNat), IntKind.i64.wrap (f + j), e))
      else some ([], .normal, st108 m n f t (W (j + 1), IntKind.i64.wrap (a + i1 (nth m j.toNat)), b, c, e))
    else none else some ([], .exit 0, st108 m n f t (j, a, b, c, e)) := by kernel_rfl

def cutM (l : TL) (f t : Int) : TL := (l.drop (0 + f.toNat)).take (t.toNat - f.toNat)
theorem body108 (l : TL) (f t : Int) (p : Int × A4) : bodyT ((cfg w0).at []) 40 [ldP 0 (fnOf Tryz.f108).ntmps rel108 .normal (st108 (cutM l f t) (t.toNat - f.toNat) f t p)] 40 (fnOf Tryz.f108) [.vec intK l, .agg [I f, I t]] =
    bif inH f t l.length then some ([(ldP 0 (fnOf Tryz.f108).ntmps rel108 .normal (st108 (cutM l f t) (t.toNat - f.toNat) f t p), .loop (lpB 0 (fnOf Tryz.f108).body), st108 (cutM l f t) (t.toNat - f.toNat) f t (0, 0, -1, 0, 0))], .agg [I f, I t, I p.2.1, I p.2.2.1, I p.2.2.2.1, I p.2.2.2.2]) else none := by kernel_rfl
def stepE (f x j : Int) (a : A4) : A4 := bif x == -1 then (a.1, a.2.1, a.2.2.1, IntKind.i64.wrap (a.2.2.2 + 1)) else bif decide (x > a.2.1) then (IntKind.i64.wrap (a.1 + x), x, IntKind.i64.wrap (f + j), a.2.2.2) else (IntKind.i64.wrap (a.1 + x), a.2.1, a.2.2.1, a.2.2.2)
def evP (l : TL) (f t : Nat) : A4 := (List.range' 0 (t - f)).foldl (fun a (j : Nat) => stepE f (i1 (nth (cutM l f t) j)) j a) (0, -1, 0, 0)
theorem cutM_len {l : TL} {f t : Nat} (h1 : f ≤ t) (h2 : t ≤ l.length) : (cutM l f t).length = t - f := by
  unfold cutM
  rw [List.length_take, List.length_drop, Int.toNat_natCast, Int.toNat_natCast]
  omega
theorem cutM_nth {l : TL} {f t j : Nat} (h1 : f ≤ t) (h2 : t ≤ l.length) (hj : j < t - f) : nth (cutM l f t) j = nth l (f + j) := by
  unfold cutM nth
  rw [Int.toNat_natCast, Int.toNat_natCast, List.getD_eq_getElem?_getD, List.getD_eq_getElem?_getD, List.getElem?_take, if_pos hj, List.getElem?_drop, Nat.zero_add]
theorem fn108 (h0 : Lib0 w0) (l : TL) (f t : Nat) (h1 : f ≤ t) (h2 : t ≤ l.length) (hl : l.length ≤ 100000) : FnD (cfg w0) 108 [.vec intK l, .agg [I f, I t]] (.agg (evA f t (evP l f t))) := by
  have hm := cutM_len (l := l) h1 h2
  have hrun : rgRun 0 (fun (j : Nat) a => (X.normal, stepE f (i1 (nth (cutM l f t) j)) j a)) (t - f) 0 (0, -1, 0, 0) = (.exit 0, (((0 + (t - f) : Nat) : Int), evP l f t)) := rgRun_fold 0 (h := fun (j : Nat) a => stepE f (i1 (nth (cutM l f t) j)) j a) _ _ _ (fun _ _ _ _ => rfl)
  have hld := ldT_rg (at_ok (cfg_ok w0) []) (at_sp h0 (cs := []) trivial) (N := (fnOf Tryz.f108).ntmps) (rel := rel108) (B := lpB 0 (fnOf Tryz.f108).body) (id := 0) (k := t - f) (by omega) (st108 (cutM l f t) (t - f) f t) (fun (j : Nat) a => (X.normal, stepE f (i1 (nth (cutM l f t) j)) j a)) (fun _ _ => True)
    (fun j a hj _ => .leaf (by
      obtain ⟨a, b, c, e⟩ := a
      rw [round108, inO_nat (show j < (cutM l f t).length by omega), lt_t hj, Int.toNat_natCast]
      unfold stepE
      cases (i1 (nth (cutM l f t) j) == -1)
      · cases decide (i1 (nth (cutM l f t) j) > b) <;> rfl
      · rfl)) (fun _ _ _ _ _ _ => trivial)
    (fun a _ => .leaf (by obtain ⟨a, b, c, e⟩ := a; rw [round108, ge_f]; rfl)) (a0 := (0, -1, 0, 0)) trivial hrun
  have hb := body108 (w0 := w0) l f t (((0 + (t - f) : Nat) : Int), evP l f t)
  rw [show inH f t l.length = true by simp only [inH, Bool.and_eq_true, decide_eq_true_eq]; omega, Int.toNat_natCast, Int.toNat_natCast] at hb
  exact fnD_lp (cfg_ok w0) h0 (cs := []) trivial (fd := fnOf Tryz.f108) rfl hb hld
def c108 : Ct := ct 108 [.v intK, .b IvK] fun a => .br (sm a.1 && inH a.2.1.1 a.2.1.2.1 (a.1 : TL).length) (.leaf (.agg (evA a.2.1.1 a.2.1.2.1 (evP a.1 (Int.toNat a.2.1.1) (Int.toNat a.2.1.2.1))))) .bad
theorem gd108 (h0 : Lib0 w0) : Gd (cfg w0) c108 := gd_sig fun a d hd => by
  obtain ⟨l, ⟨f, t, _⟩, u⟩ := a
  obtain ⟨hg, hd⟩ := br_run hd
  cases hd
  have hg : (sm l && inH f t (l : TL).length) = true := hg
  simp only [inH, Bool.and_eq_true, decide_eq_true_eq] at hg
  obtain ⟨hg, a1, a2, a3⟩ := hg
  have hl := sm_le hg
  obtain ⟨f', rfl⟩ := Int.eq_ofNat_of_zero_le a1
  obtain ⟨t', rfl⟩ := Int.eq_ofNat_of_zero_le (show (0 : Int) ≤ t by exact Int.le_trans a1 a2)
  exact fn108 h0 l f' t' (by omega) (by omega) hl
theorem fold_shift {α : Type} (f : Nat) (G : Nat → α → α) : ∀ (n a : Nat) (x : α), (List.range' a n).foldl (fun y j => G (f + j) y) x = (List.range' (f + a) n).foldl (fun y j => G j y) x
  | 0, _, _ => rfl
  | n + 1, a, x => by
    rw [List.range'_succ, List.range'_succ, List.foldl_cons, List.foldl_cons, fold_shift f G n (a + 1)]
    rfl
theorem foldl_cong {α : Type} {F G : α → Nat → α} : ∀ (l : List Nat) (x : α), (∀ y j, j ∈ l → F y j = G y j) → l.foldl F x = l.foldl G x
  | [], _, _ => rfl
  | j :: l, x, h => by
    rw [List.foldl_cons, List.foldl_cons, h x j (by simp)]
    exact foldl_cong l _ fun y k hk => h y k (by simp [hk])
theorem evP_eq {l : TL} {f t : Nat} (h1 : f < t) (h2 : t ≤ l.length) (hl : l.length ≤ 100000) (hr : 1 ≤ i1 (nth l f)) : evP l f t = hrd l f t := by
  have e : evP l f t = (List.range' f (t - f)).foldl (fun a (j : Nat) => stepH (i1 (nth l j)) j a) (0, -1, 0, 0) := by
    unfold evP
    rw [foldl_cong (G := fun a j => (fun (k : Nat) (a : A4) => stepH (i1 (nth l k)) k a) (f + j) a) _ _ (fun y j hj => by
      rw [List.mem_range'_1] at hj
      rw [cutM_nth (by omega) h2 (by omega)]
      show stepE f (i1 (nth l (f + j))) j y = stepH (i1 (nth l (f + j))) ((f + j : Nat) : Int) y
      unfold stepE stepH
      rw [W_id (n := (f : Int) + j) (by omega) (by omega), show ((f + j : Nat) : Int) = (f : Int) + j by omega])]
    exact fold_shift f (fun (k : Nat) (a : A4) => stepH (i1 (nth l k)) k a) (t - f) 0 _
  rw [e]
  unfold hrd
  obtain ⟨n, hn⟩ : ∃ n, t - f = n + 1 := ⟨t - f - 1, by omega⟩
  rw [hn, List.range'_succ, List.foldl_cons, List.foldl_cons]
  congr 1
  unfold stepH
  have a1 : (i1 (nth l f) == -1) = false := by rw [beq_eq_false_iff_ne]; omega
  rw [a1, cond_false, cond_false, decide_eq_true (show i1 (nth l f) > (0, ((-1 : Int), (0 : Int), (0 : Int))).2.1 by show i1 (nth l f) > -1; omega), decide_eq_true (show i1 (nth l f) > ((0 : Int), ((0 : Int), (f : Int), (0 : Int))).2.1 by show i1 (nth l f) > 0; omega)]
  rfl


def bgE (x : Tup evK) : Bool := decide (ee x > maxE)
def rel152 : List (Nat × Cv) := [(0, .id), (7, .id), (8, .id), (1, .id), (4, .id)]
def st152 (l : List (Tup evK)) (a : Int × Int) : List D := [.vec evK l, I l.length, I a.1, .fn 110 [] [], I a.2]
theorem round152 (l : List (Tup evK)) (j b : Int) : rndD ((cfg w0).at []) 40 [] 40 (fnOf Tryz.f152).ntmps rel152 (lpB 0 (fnOf Tryz.f152).body) (st152 l (j, b)) =
    bif decide (j < l.length) then bif inE l j then
      bif bgE (nth l j.toNat) then some ([], .ret, st152 l (j, j)) else some ([], .normal, st152 l (W (j + 1), b))
    else none else some ([], .exit 0, st152 l (j, b)) := by kernel_rfl
theorem body152 (l : List (Tup evK)) (x : X) (p : Int × Int) (hx : x = .ret ∨ x = .normal) : bodyT ((cfg w0).at []) 40 [ldP 0 (fnOf Tryz.f152).ntmps rel152 x (st152 l p)] 40 (fnOf Tryz.f152) [.vec evK l, .fn 110 [] []] =
    some ([(ldP 0 (fnOf Tryz.f152).ntmps rel152 x (st152 l p), .loop (lpB 0 (fnOf Tryz.f152).body), st152 l (0, 0))], onX x (I p.2) (I (-1))) := by
  rcases hx with rfl | rfl <;> kernel_rfl
def ixE (l : List (Tup evK)) : Int := ixR (fun j => bgE (nth l j)) l.length 0
theorem fn152 (h0 : Lib0 w0) (l : List (Tup evK)) (hg : l.length ≤ 100000) : FnD (cfg w0) 152 [.vec evK l, .fn 110 [] []] (I (ixE l)) := by
  refine fn_rg h0 (cs := []) trivial (fd := fnOf Tryz.f152) rfl rel152 l.length (by omega) (st152 l) (fun j a => bif bgE (nth l j) then (X.ret, (j : Int)) else (.normal, a)) (fun _ _ => True) (a0 := 0) trivial
    (fun j r hj _ => .leaf (by
      rw [round152, inE_nat hj, lt_t hj, Int.toNat_natCast]
      cases bgE (nth l j) <;> rfl)) (fun _ _ _ _ _ _ => trivial)
    (fun r _ => .leaf (by rw [round152, ge_f]; rfl)) fun x p hx => ?_
  rw [rgRun_ix] at hx
  cases hz : decide (ixR (fun j => bgE (nth l j)) l.length 0 ≥ 0) <;> rw [hz] at hx <;> cases hx
  · have e : ixE l = -1 := ixR_neg _ _ hz
    rw [e]
    exact body152 l _ _ (.inr rfl)
  · exact body152 l _ _ (.inl rfl)
def c152 : Ct := ct 152 [.v evK, .x] fun a => match isFn 110 a.2.1 with
  | true => .br (Nat.ble (a.1 : List (Tup evK)).length 100000) (.leaf (I (ixE a.1))) .bad
  | false => .bad
theorem gd152 (h0 : Lib0 w0) : Gd (cfg w0) c152 := gd_sig fun a d hd => by
  obtain ⟨l, f, u⟩ := a
  simp only at hd
  cases hb : isFn 110 f with
  | false => rw [hb] at hd; cases hd
  | true =>
    rw [hb] at hd
    obtain ⟨hg, hd⟩ := br_run hd
    cases hd
    cases isFn_eq hb
    exact fn152 h0 l (Nat.le_of_ble_eq_true hg)
theorem run109 (l : List (Tup evK)) : bodyK ((cfg w0).at [c152]) 40 (fnOf Tryz.f109) [.vec evK l, .fn 110 [] []] = bif Nat.ble l.length 100000 then some (Bo (decide (ixE l ≥ 0))) else none := by kernel_rfl
theorem ixE_any (l : List (Tup evK)) : decide (ixE l ≥ 0) = l.any bgE := by
  unfold ixE
  rw [ixR_any, range_any bgE]
def c109 : Ct := ct 109 [.v evK, .x] fun a => match isFn 110 a.2.1 with
  | true => .br (Nat.ble (a.1 : List (Tup evK)).length 100000) (.leaf (Bo ((a.1 : List (Tup evK)).any bgE))) .bad
  | false => .bad
theorem gd109 (h0 : Lib0 w0) : Gd (cfg w0) c109 := gd_sig fun a d hd => by
  obtain ⟨l, f, u⟩ := a
  simp only at hd
  cases hb : isFn 110 f with
  | false => rw [hb] at hd; cases hd
  | true =>
    rw [hb] at hd
    obtain ⟨hg, hd⟩ := br_run hd
    cases hd
    cases isFn_eq hb
    have hg : Nat.ble (l : List (Tup evK)).length 100000 = true := hg
    refine fnD_k (cfg_ok w0) h0 (cs := [c152]) ⟨gd152 h0, trivial⟩ (fd := fnOf Tryz.f109) rfl (n := 40) ((run109 l).trans ?_)
    rw [hg]
    exact congrArg (fun b => some (Bo b)) (ixE_any l)
end
end Go.Proofs.YtifnpljmjhnbaaaGreatDoor

namespace Go.Proofs.YtifnpljmjhnbaaaGreatDoor
open Go Go.Am
set_option maxRecDepth 100000
variable {w0 : World}
noncomputable section


def cs36 : List Ct := c34 :: ruC 106 :: c108 :: c109 :: firstC 84 :: []
noncomputable def lp36 (tm : Option (Nat × Array Value)) : ALoop := { state := .ready, pending := none, fn := 0, tmps := [], params := rfPs (fnOf Tryz.f36).body, assign := rfAs (fnOf Tryz.f36).body, body := rfBd (fnOf Tryz.f36).body, tm := tm }
abbrev Ru := Int × Int × Int
def ruD (r : Ru) : D := .obox [I r.1, I r.2.1, I r.2.2]
abbrev SM := List (Tup IvK) × TL
noncomputable def rel151 : List (Nat × Cv) := [(0, .yl [(3, .id), (7, .bv IvK), (8, .bv intK), (0, .id)]), (1, .id), (2, .id), (6, .id), (7, .id), (8, .id)]
noncomputable def st151 (l : TL) (r : Ru) (tm : Option (Nat × Array Value)) (p : Int × SM) : List D := [.yl (fnOf Tryz.f36).ntmps (lp36 tm) [3, 7, 8, 0] [ruD r, .obox [.ovec IvK p.2.1], .obox [.ovec intK p.2.2], .vec intK l], .obox [.vec intK l], .obox [I r.1], .vec intK l, I l.length, I p.1]
abbrev Rn := Option (Obs × X × List D)
def kk (sp : List (Tup IvK)) : Int := IntKind.i64.wrap ((sp.length : Int) - 1)
def inV (sp : List (Tup IvK)) (k : Int) : Bool := Nat.beq 2 2 && (decide (0 ≤ k) && decide (k < sp.length))
def setS (sp : List (Tup IvK)) (i : Int) : List (Tup IvK) := sp.set (kk sp).toNat (pr (v1 (nth sp (kk sp).toNat)) (IntKind.i64.wrap (i + 1)))
def setM (sp : List (Tup IvK)) (mn : TL) : TL := mn.set (kk sp).toNat (t1 (IntKind.i64.wrap (i1 (nth mn (kk sp).toNat) + 1)))
def appS (sp : List (Tup IvK)) (i : Int) : List (Tup IvK) := sp ++ [pr i (IntKind.i64.wrap (i + 1))]
def appM (mn : TL) : TL := mn ++ [t1 1]
def roomN (o : TL) : Bool := Nat.ble (o.length * 8) 1000000000000 && Nat.ble o.length 1000000000000
noncomputable def app151 (l : TL) (r : Ru) (tm : Option (Nat × Array Value)) (i : Int) (sp : List (Tup IvK)) (mn : TL) : Rn :=
  bif roomI (appS sp i) then bif roomN (appM mn) then some ([], .normal, st151 l r tm (W (i + 1), appS sp i, appM mn)) else none else none
noncomputable def tree151 (l : TL) (r : Ru) (tm : Option (Nat × Array Value)) (i : Int) (sp : List (Tup IvK)) (mn : TL) : Rn :=
  bif decide (i < l.length) then bif inO l i then
    bif decide (i1 (nth l i.toNat) ≥ r.1) then
      bif decide (kk sp ≥ 0) then bif inV sp (kk sp) then
        bif decide (IntKind.i64.wrap (i - v2 (nth sp (kk sp).toNat)) ≤ r.2.1) then bif inV sp (kk sp) then bif inO mn (kk sp) then bif inO mn (kk sp) then
          some ([], .normal, st151 l r tm (W (i + 1), setS sp i, setM sp mn)) else none else none else none
        else app151 l r tm i sp mn
      else none else app151 l r tm i sp mn
    else some ([], .normal, st151 l r tm (W (i + 1), sp, mn))
  else none else some ([], .exit 0, st151 l r tm (i, sp, mn))
theorem round151 (l : TL) (r : Ru) (tm : Option (Nat × Array Value)) (i : Int) (sp : List (Tup IvK)) (mn : TL) : rndD ((cfg w0).at cs36) 40 [] 40 (fnOf Tryz.f151).ntmps rel151 (lpB 0 (fnOf Tryz.f151).body) (st151 l r tm (i, sp, mn)) = tree151 l r tm i sp mn := by kernel_rfl
noncomputable def rel36 : List (Nat × Cv) := [(26, .id), (3, .id), (7, .bv IvK), (8, .bv intK), (0, .id)]
noncomputable def pre36 (l : TL) (r : Ru) : List D := [.fn 151 [] [.obox [.vec intK l], .obox [I r.1]], ruD r, .obox [.ovec IvK []], .obox [.ovec intK []], .vec intK l]
noncomputable def fin36 (l : TL) (r : Ru) (p : SM) : List D := [ruD r, .obox [.ovec IvK p.1], .obox [.ovec intK p.2], .vec intK l]
theorem iter36 (l : TL) (r : Ru) (tm : Option (Nat × Array Value)) (p : Int × SM) : bodyI ((cfg w0).at cs36) 40 [ldP 0 (fnOf Tryz.f151).ntmps rel151 .normal (st151 l r tm p)] 40 (fnOf Tryz.f151)
    (startI (fnOf Tryz.f151) (ldS (fnOf Tryz.f36).ntmps (rel36.map (·.1)) (pre36 l r)) #[] #[.pointer (some ⟨K0 + 1, 0, none⟩), .pointer (some ⟨K0 + 2, 0, none⟩)] (rfPs (fnOf Tryz.f36).body) (rfAs (fnOf Tryz.f36).body) (rfBd (fnOf Tryz.f36).body) tm) 0 [(3, .id), (7, .bv IvK), (8, .bv intK), (0, .id)] =
    some ([(ldP 0 (fnOf Tryz.f151).ntmps rel151 .normal (st151 l r tm p), .loop (lpB 0 (fnOf Tryz.f151).body), st151 l r tm (0, [], []))], .normal, tm, fin36 l r p.2) := by kernel_rfl
noncomputable def rf36 : Code := .rangeFunc (.tmp 26) (rfPs (fnOf Tryz.f36).body) (rfAs (fnOf Tryz.f36).body) (rfBd (fnOf Tryz.f36).body)
noncomputable def ld36 (l : TL) (r : Ru) (p : SM) : Ld := ldP 300026 (fnOf Tryz.f36).ntmps rel36 .normal (.val unk :: fin36 l r p)
noncomputable def rel36b : List (Nat × Cv) := [(0, .id), (3, .id), (8, .bv intK), (67, .ov IvK), (68, .id), (69, .id), (11, .ov evK)]
noncomputable def st36b (l : TL) (r : Ru) (p : SM) (a : Int × List (Tup evK)) : List D := [.vec intK l, ruD r, .obox [.ovec intK p.2], .ovec IvK p.1, I p.1.length, I a.1, .ovec evK a.2]
noncomputable def ld36b (l : TL) (r : Ru) (p : SM) (a : Int × List (Tup evK)) : Ld := ldP 2 (fnOf Tryz.f36).ntmps rel36b .normal (st36b l r p a)
noncomputable def ob36 (l : TL) (r : Ru) (p : SM) (a : Int × List (Tup evK)) : Obs := [(ld36b l r p a, .loop (lpB 2 (fnOf Tryz.f36).body), st36b l r p (0, [])), (ld36 l r p, rf36, pre36 l r)]
def e36 (l : TL) (r : Ru) : Int := bif chkR l != 0 then chkR l else bif ruE r.1 r.2.1 r.2.2 != 0 then ruE r.1 r.2.1 r.2.2 else 0
theorem body36 (l : TL) (r : Ru) (p : SM) (a : Int × List (Tup evK)) : bodyT ((cfg w0).at cs36) 40 [ld36 l r p, ld36b l r p a] 40 (fnOf Tryz.f36) [.vec intK l, .agg [I r.1, I r.2.1, I r.2.2]] =
    bif sm l then bif e36 l r != 0 then some ([], .tup [.val (.slice none 0 0), I (e36 l r)]) else
      bif Nat.ble a.2.length 100000 then bif a.2.any bgE then some (ob36 l r p a, .tup [.val (.slice none 0 0), I 4]) else some (ob36 l r p a, .tup [.vec evK a.2, I 0]) else none
    else none := by kernel_rfl
def evT (f t : Int) (x : A4) : Tup evK := (f, t, x.1, x.2.1, x.2.2.1, x.2.2.2, ())
def evS (l : TL) (s : Tup IvK) : Tup evK := evT (v1 s) (v2 s) (evP l (v1 s).toNat (v2 s).toNat)
def roomEv (o : List (Tup evK)) : Bool := Nat.ble (o.length * 48) 1000000000000 && Nat.ble o.length 1000000000000
theorem round36b (l : TL) (r : Ru) (sp : List (Tup IvK)) (mn : TL) (j : Int) (o : List (Tup evK)) : rndD ((cfg w0).at cs36) 40 [] 40 (fnOf Tryz.f36).ntmps rel36b (lpB 2 (fnOf Tryz.f36).body) (st36b l r (sp, mn) (j, o)) =
    bif decide (j < sp.length) then bif inV sp j then bif inO mn j then
      bif decide (i1 (nth mn j.toNat) ≥ r.2.2) then
        bif (sm l && inH (v1 (nth sp j.toNat)) (v2 (nth sp j.toNat)) l.length) then
          bif roomEv (o ++ [evS l (nth sp j.toNat)]) then some ([], .normal, st36b l r (sp, mn) (W (j + 1), o ++ [evS l (nth sp j.toNat)])) else none
        else none
      else some ([], .normal, st36b l r (sp, mn) (W (j + 1), o))
    else none else none else some ([], .exit 2, st36b l r (sp, mn) (j, o)) := by kernel_rfl
end
end Go.Proofs.YtifnpljmjhnbaaaGreatDoor

namespace Go.Proofs.YtifnpljmjhnbaaaGreatDoor
open Go Go.Am
set_option maxRecDepth 100000
variable {w0 : World}
noncomputable section


abbrev Gp := Int × Int × Int
def toSp (G : List Gp) : List (Tup IvK) := G.map fun g => pr g.1 g.2.1
def toMn (G : List Gp) : TL := G.map fun g => t1 g.2.2
def loudB (l : TL) (r : Ru) (i : Nat) : Bool := decide (i1 (nth l i) ≥ r.1)
def putG (gap : Int) (G : List Gp) (i : Int) : List Gp :=
  match G.getLast? with
  | some g => bif decide (i - g.2.1 ≤ gap) then G.dropLast ++ [(g.1, i + 1, g.2.2 + 1)] else G ++ [(i, i + 1, 1)]
  | none => [(i, i + 1, 1)]
theorem putG_nil (gap i : Int) : putG gap [] i = [(i, i + 1, 1)] := rfl
theorem putG_snoc (gap i : Int) (P : List Gp) (g : Gp) : putG gap (P ++ [g]) i = bif decide (i - g.2.1 ≤ gap) then P ++ [(g.1, i + 1, g.2.2 + 1)] else P ++ [g] ++ [(i, i + 1, 1)] := by
  unfold putG
  rw [List.getLast?_append]
  simp
def stepL (l : TL) (r : Ru) (G : List Gp) (i : Nat) : List Gp := bif loudB l r i then putG r.2.1 G i else G
def GG (l : TL) (r : Ru) (n : Nat) : List Gp := (List.range' 0 n).foldl (stepL l r) []
def stepSM (l : TL) (r : Ru) (i : Nat) (p : SM) : SM :=
  bif loudB l r i then bif decide (kk p.1 ≥ 0) && decide (IntKind.i64.wrap ((i : Int) - v2 (nth p.1 (kk p.1).toNat)) ≤ r.2.1) then (setS p.1 i, setM p.1 p.2) else (appS p.1 i, appM p.2) else p
def GInv (l : TL) (r : Ru) (i : Nat) (G : List Gp) : Prop := G.length ≤ i ∧ ∀ g ∈ G, 0 ≤ g.1 ∧ g.1 < g.2.1 ∧ g.2.1 ≤ i ∧ 1 ≤ g.2.2 ∧ g.2.2 ≤ i ∧ loudB l r g.1.toNat = true
theorem snoc_or {α : Type} (G : List α) : G = [] ∨ ∃ P g, G = P ++ [g] := by
  rcases List.eq_nil_or_concat G with h | ⟨P, g, h⟩
  · exact .inl h
  · exact .inr ⟨P, g, by rw [h, List.concat_eq_append]⟩
theorem GInv_step {l : TL} {r : Ru} {i : Nat} {G : List Gp} (h : GInv l r i G) : GInv l r (i + 1) (stepL l r G i) := by
  have up : ∀ g : Gp, (0 ≤ g.1 ∧ g.1 < g.2.1 ∧ g.2.1 ≤ i ∧ 1 ≤ g.2.2 ∧ g.2.2 ≤ i ∧ loudB l r g.1.toNat = true) → (0 ≤ g.1 ∧ g.1 < g.2.1 ∧ g.2.1 ≤ (i + 1 : Nat) ∧ 1 ≤ g.2.2 ∧ g.2.2 ≤ (i + 1 : Nat) ∧ loudB l r g.1.toNat = true) := fun g ⟨a, b, c, d, e, f⟩ => ⟨a, b, by omega, d, by omega, f⟩
  unfold stepL
  cases hl : loudB l r i with
  | false => exact ⟨by have := h.1; simp only [cond_false]; omega, fun g hg => up g (h.2 g hg)⟩
  | true =>
    simp only [cond_true]
    have new : (0 : Int) ≤ (i : Int) ∧ (i : Int) < (i : Int) + 1 ∧ (i : Int) + 1 ≤ ((i + 1 : Nat) : Int) ∧ (1 : Int) ≤ 1 ∧ (1 : Int) ≤ ((i + 1 : Nat) : Int) ∧ loudB l r ((i : Int)).toNat = true := ⟨by omega, by omega, by omega, by omega, by omega, by rw [Int.toNat_natCast]; exact hl⟩
    rcases snoc_or G with rfl | ⟨P, g, rfl⟩
    · rw [putG_nil]
      exact ⟨by simp, fun g hg => by rw [List.mem_singleton] at hg; rw [hg]; exact new⟩
    · rw [putG_snoc]
      obtain ⟨h1, h2⟩ := h
      rw [List.length_append, List.length_singleton] at h1
      have hg := h2 g (by simp)
      cases decide ((i : Int) - g.2.1 ≤ r.2.1) with
      | true =>
        refine ⟨by simp; omega, fun x hx => ?_⟩
        rcases List.mem_append.1 hx with hx | hx
        · exact up x (h2 x (by simp [hx]))
        · rw [List.mem_singleton] at hx
          rw [hx]
          exact ⟨hg.1, by show g.1 < (i : Int) + 1; omega, by show (i : Int) + 1 ≤ _; omega, by show 1 ≤ g.2.2 + 1; omega, by show g.2.2 + 1 ≤ _; omega, hg.2.2.2.2.2⟩
      | false =>
        refine ⟨by simp; omega, fun x hx => ?_⟩
        rcases List.mem_append.1 hx with hx | hx
        · exact up x (h2 x hx)
        · rw [List.mem_singleton] at hx
          rw [hx]
          exact new
theorem GG_inv (l : TL) (r : Ru) : ∀ n, GInv l r n (GG l r n)
  | 0 => ⟨by simp [GG], fun g hg => by simp [GG] at hg⟩
  | n + 1 => by
    have : GG l r (n + 1) = stepL l r (GG l r n) n := by
      unfold GG
      rw [List.range'_concat, List.foldl_append]
      simp
    rw [this]
    exact GInv_step (GG_inv l r n)
theorem GG_succ (l : TL) (r : Ru) (n : Nat) : GG l r (n + 1) = stepL l r (GG l r n) n := by
  unfold GG
  rw [List.range'_concat, List.foldl_append]
  simp
theorem set_snoc {α : Type} (xs : List α) (x y : α) : (xs ++ [x]).set xs.length y = xs ++ [y] := by
  induction xs with
  | nil => rfl
  | cons a xs ih => simp only [List.cons_append, List.length_cons, List.set_cons_succ, ih]
theorem nth_snoc {ks : List Kd} (xs : List (Tup ks)) (x : Tup ks) : nth (xs ++ [x]) xs.length = x := by simp [nth, List.getD_eq_getElem?_getD]
theorem kk_snoc {sp : List (Tup IvK)} {x : Tup IvK} (h : sp.length ≤ 100000) : kk (sp ++ [x]) = sp.length := by
  unfold kk
  rw [List.length_append, List.length_singleton, W_id (by omega) (by omega)]
  omega
theorem kk_nil : kk [] = -1 := by decide
theorem toSp_len (G : List Gp) : (toSp G).length = G.length := List.length_map ..
theorem toMn_len (G : List Gp) : (toMn G).length = G.length := List.length_map ..
theorem stepSM_eq {l : TL} {r : Ru} {i : Nat} {G : List Gp} (hi : i ≤ 100000) (h : GInv l r i G) : stepSM l r i (toSp G, toMn G) = (toSp (stepL l r G i), toMn (stepL l r G i)) := by
  obtain ⟨h1, h2⟩ := h
  unfold stepSM stepL
  cases hl : loudB l r i with
  | false => rfl
  | true =>
    simp only [cond_true]
    rcases snoc_or G with rfl | ⟨P, g, rfl⟩
    · show (bif decide (kk [] ≥ 0) && _ then _ else _) = _
      rw [kk_nil, putG_nil]
      show (appS [] i, appM []) = _
      unfold appS appM toSp toMn
      rw [W_id (by omega) (by omega)]
      rfl
    · rw [List.length_append, List.length_singleton] at h1
      obtain ⟨g1, g2, g3, g4, g5, _⟩ := h2 g (by simp)
      have es : toSp (P ++ [g]) = toSp P ++ [pr g.1 g.2.1] := by unfold toSp; rw [List.map_append]; rfl
      have em' : toMn (P ++ [g]) = toMn P ++ [t1 g.2.2] := by unfold toMn; rw [List.map_append]; rfl
      have ek : kk (toSp P ++ [pr g.1 g.2.1]) = (toSp P).length := kk_snoc (by rw [toSp_len]; omega)
      have en : nth (toSp P ++ [pr g.1 g.2.1]) (toSp P).length = pr g.1 g.2.1 := nth_snoc ..
      have en2 : nth (toMn P ++ [t1 g.2.2]) (toSp P).length = t1 g.2.2 := by rw [toSp_len, ← toMn_len]; exact nth_snoc ..
      rw [es, em', ek, Int.toNat_natCast, en, decide_eq_true (show (((toSp P).length : Nat) : Int) ≥ 0 by omega), Bool.true_and, putG_snoc]
      have e1 : decide (IntKind.i64.wrap ((i : Int) - v2 (pr g.1 g.2.1)) ≤ r.2.1) = decide ((i : Int) - g.2.1 ≤ r.2.1) := by
        show decide (IntKind.i64.wrap ((i : Int) - g.2.1) ≤ r.2.1) = _
        rw [W_id (by omega) (by omega)]
      rw [e1]
      cases decide ((i : Int) - g.2.1 ≤ r.2.1) with
      | true =>
        show (setS _ _, setM _ _) = _
        unfold setS setM
        rw [ek, Int.toNat_natCast, en, en2, set_snoc, toSp_len, ← toMn_len, set_snoc]
        show (toSp P ++ [pr g.1 (IntKind.i64.wrap ((i : Int) + 1))], toMn P ++ [t1 (IntKind.i64.wrap (g.2.2 + 1))]) = _
        rw [W_id (n := (i : Int) + 1) (by omega) (by omega), W_id (n := g.2.2 + 1) (by omega) (by omega)]
        unfold toSp toMn
        rw [cond_true, List.map_append, List.map_append]
        rfl
      | false =>
        show (appS _ _, appM _) = _
        unfold appS appM
        rw [W_id (n := (i : Int) + 1) (by omega) (by omega)]
        unfold toSp toMn
        rw [cond_false, List.map_append, List.map_append, List.map_append, List.map_append]
        rfl
theorem foldSM (l : TL) (r : Ru) : ∀ n, n ≤ 100000 → (List.range' 0 n).foldl (fun b (j : Nat) => stepSM l r j b) (([], []) : SM) = (toSp (GG l r n), toMn (GG l r n))
  | 0, _ => rfl
  | n + 1, h => by
    rw [List.range'_concat, List.foldl_append, foldSM l r n (by omega), GG_succ]
    simp only [Nat.one_mul, Nat.zero_add, List.foldl_cons, List.foldl_nil]
    exact stepSM_eq (by omega) (GG_inv l r n)
end
end Go.Proofs.YtifnpljmjhnbaaaGreatDoor
