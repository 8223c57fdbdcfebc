/-
  A part of the proof of the statement that the claim names: see the last file.
-/
import Derived.Test.YtifnpljmjhnbaaaGreatDoorV2
import Derived.Test.YtifnpljmjhnbaaaGreatDoorAm4
namespace Go.Proofs.YtifnpljmjhnbaaaGreatDoor
open Go Go.Am
set_option maxRecDepth 100000
variable {w0 : World}
noncomputable section


def gpEv (l : TL) (g : Gp) : Tup evK := evT g.1 g.2.1 (evP l g.1.toNat g.2.1.toNat)
def selG (r : Ru) (g : Gp) : Bool := decide (g.2.2 ≥ r.2.2)
def evsP (l : TL) (r : Ru) : List (Tup evK) := ((GG l r l.length).filter (selG r)).map (gpEv l)
abbrev EE := List (Tup evK) × Int
def eeD (x : EE) : D := .tup [.vec evK x.1, I x.2]
def ev36 (l : TL) (r : Ru) : EE := bif e36 l r != 0 then ([], e36 l r) else bif (evsP l r).any bgE then ([], 4) else (evsP l r, 0)
theorem fnD_nilE {g : FuncId} {ds : List D} {e : Int} (h : FnD (cfg w0) g ds (.tup [.val (.slice none 0 0), I e])) : FnD (cfg w0) g ds (eeD ([], e)) :=
  FnD.nil_vec (ks := evK) (vs := [iv e]) rfl (by decide) h
theorem inV_nat {sp : List (Tup IvK)} {j : Nat} (h : j < sp.length) : inV sp (j : Int) = true := inb 2 h
theorem sel_fold {α β : Type} (c : α → Bool) (f : α → β) : ∀ (l : List α) (o : List β), l.foldl (fun o g => bif c g then o ++ [f g] else o) o = o ++ (l.filter c).map f
  | [], o => by simp
  | g :: l, o => by
    rw [List.foldl_cons, List.filter_cons, sel_fold c f l]
    cases c g <;> simp
theorem range_fold {α β : Type} (h : β → α → β) (d : α) (l : List α) (o : β) : (List.range' 0 l.length).foldl (fun o j => h o (l.getD j d)) o = l.foldl h o := by
  have e : l = (List.range' 0 l.length).map (fun j => l.getD j d) := by
    apply List.ext_getElem?
    intro j
    rw [List.getElem?_map]
    by_cases hj : j < l.length
    · rw [List.getElem?_range' hj, List.getElem?_eq_getElem hj]
      simp [hj]
    · rw [List.getElem?_eq_none (by omega), List.getElem?_eq_none (by simp; omega)]
      rfl
  conv => rhs; rw [e, List.foldl_map]
def step36b (l : TL) (r : Ru) (p : SM) (j : Nat) (o : List (Tup evK)) : List (Tup evK) := bif decide (i1 (nth p.2 j) ≥ r.2.2) then o ++ [evS l (nth p.1 j)] else o
theorem nth_map {α : Type} {ks : List Kd} (f : α → Tup ks) (G : List α) (d : α) {j : Nat} (hj : j < G.length) : nth (G.map f) j = f (G.getD j d) := by
  simp [nth, List.getD_eq_getElem?_getD, hj]
theorem fold36b (l : TL) (r : Ru) (G : List Gp) : (List.range' 0 (toSp G).length).foldl (fun o (j : Nat) => step36b l r (toSp G, toMn G) j o) [] = (G.filter (selG r)).map (gpEv l) := by
  rw [toSp_len]
  rw [foldl_cong (G := fun o j => (fun (o : List (Tup evK)) (g : Gp) => bif selG r g then o ++ [gpEv l g] else o) o (G.getD j (0, 0, 0))) _ _ (fun o j hj => by
    rw [List.mem_range'_1] at hj
    unfold step36b toSp toMn
    rw [nth_map _ G (0, 0, 0) (by omega), nth_map _ G (0, 0, 0) (by omega)]
    rfl)]
  rw [range_fold (fun (o : List (Tup evK)) (g : Gp) => bif selG r g then o ++ [gpEv l g] else o) (0, 0, 0) G [], sel_fold]
  rfl
theorem cs36_gd (h0 : Lib0 w0) : Gds (cfg w0) cs36 := ⟨gd34 h0, gd106 h0, gd108 h0, gd109 h0, gd84 h0, trivial⟩
theorem filter_len {α : Type} (p : α → Bool) (l : List α) : (l.filter p).length ≤ l.length := List.length_filter_le ..
theorem rd151 {l : TL} {r : Ru} (hlen : l.length ≤ 100000) (tm : Option (Nat × Array Value)) {j : Nat} (hj : j < l.length) {Q : List Gp} (hQ : GInv l r j Q) :
    RdOK ((cfg w0).at cs36) (fnOf Tryz.f151).ntmps rel151 (lpB 0 (fnOf Tryz.f151).body) (st151 l r tm ((j : Int), (toSp Q, toMn Q))) .normal (st151 l r tm (nx j (X.normal, stepSM l r j (toSp Q, toMn Q)))) :=
  .leaf (by
    obtain ⟨hq1, hq2⟩ := hQ
    have ls : (toSp Q).length ≤ j := by rw [toSp_len]; exact hq1
    have lm : (toMn Q).length = (toSp Q).length := by rw [toSp_len, toMn_len]
    refine (round151 l r tm j (toSp Q) (toMn Q)).trans ?_
    have ha : app151 l r tm j (toSp Q) (toMn Q) = some ([], .normal, st151 l r tm (W ((j : Int) + 1), appS (toSp Q) j, appM (toMn Q))) := by
      unfold app151 roomI roomN appS appM
      rw [room (k := 16) (by omega) (by omega), room (k := 8) (by omega) (by omega)]
      rfl
    unfold tree151
    rw [inO_nat hj, lt_t hj, ha]
    unfold stepSM loudB
    rw [Int.toNat_natCast]
    cases decide (i1 (nth l j) ≥ r.1) with
    | false => rfl
    | true =>
      simp only [cond_true]
      cases hk : decide (kk (toSp Q) ≥ 0) with
      | false => rfl
      | true =>
        have hk' := of_decide_eq_true hk
        have hkl : (kk (toSp Q)).toNat < (toSp Q).length := by
          unfold kk at hk' ⊢
          rw [W_id (by omega) (by omega)] at hk' ⊢
          omega
        have hkn : kk (toSp Q) = (((kk (toSp Q)).toNat : Nat) : Int) := by omega
        have iv1 : inV (toSp Q) (kk (toSp Q)) = true := by rw [hkn]; exact inV_nat hkl
        have iv2 : inO (toMn Q) (kk (toSp Q)) = true := by rw [hkn]; exact inO_nat (by omega)
        rw [iv1, iv2]
        simp only [cond_true, Bool.true_and]
        cases decide (IntKind.i64.wrap ((j : Int) - v2 (nth (toSp Q) (kk (toSp Q)).toNat)) ≤ r.2.1) <;> rfl)
theorem fn36 (h0 : Lib0 w0) (l : TL) (r : Ru) (hg : sm l = true) : FnD (cfg w0) 36 [.vec intK l, .agg [I r.1, I r.2.1, I r.2.2]] (eeD (ev36 l r)) := by
  have hlen := sm_le hg
  have ok := at_ok (cfg_ok w0) cs36
  have sp := at_sp h0 (cs36_gd h0)
  have hG := GG_inv l r l.length
  generalize hGG : GG l r l.length = G at hG
  have hGl := hG.1
  have hel : (evsP l r).length ≤ 100000 := by
    unfold evsP
    rw [List.length_map, hGG]
    have := filter_len (selG r) G
    omega
  unfold ev36
  cases he : (e36 l r != 0) with
  | true =>
    have hb := body36 (w0 := w0) l r ([], []) (0, [])
    rw [hg, he] at hb
    exact fnD_nilE (fnD_t (cfg_ok w0) h0 (cs36_gd h0) (fd := fnOf Tryz.f36) rfl hb trivial)
  | false =>
    have hfin := foldSM l r l.length hlen
    rw [hGG] at hfin
    have lL : ∀ tm, LdT ((cfg w0).at cs36) (ldP 0 (fnOf Tryz.f151).ntmps rel151 .normal (st151 l r tm (((0 + l.length : Nat) : Int), (toSp G, toMn G)))) (.loop (lpB 0 (fnOf Tryz.f151).body)) (st151 l r tm (0, ([], []))) := fun tm => by
      have hrun : rgRun 0 (fun (j : Nat) (p : SM) => (X.normal, stepSM l r j p)) l.length 0 ([], []) = (.exit 0, (((0 + l.length : Nat) : Int), (toSp G, toMn G))) := by
        rw [rgRun_fold 0 (h := fun (j : Nat) (p : SM) => stepSM l r j p) _ _ _ (fun _ _ _ _ => rfl), hfin]
      exact ldT_rg ok sp (N := (fnOf Tryz.f151).ntmps) (rel := rel151) (B := lpB 0 (fnOf Tryz.f151).body) (id := 0) (k := l.length) (by omega) (st151 l r tm) (fun (j : Nat) (p : SM) => (X.normal, stepSM l r j p)) (fun j p => p = (toSp (GG l r j), toMn (GG l r j)))
        (fun j p hj hp => by rw [hp]; exact rd151 hlen tm hj (GG_inv l r j)) (fun j p p' hj hp h => by
          cases h
          rw [hp, GG_succ]
          exact stepSM_eq (by omega) (GG_inv l r j))
        (fun p _ => .leaf ((round151 l r tm _ p.1 p.2).trans (by unfold tree151; rw [ge_f]; rfl))) (a0 := ([], [])) rfl hrun
    have hR : LdT ((cfg w0).at cs36) (ld36 l r (toSp G, toMn G)) rf36 (pre36 l r) :=
      ldT_range (C := (cfg w0).at cs36) ok sp (id := 300026) (N := (fnOf Tryz.f36).ntmps) (rel := rel36) (pre := pre36 l r) (x := .normal) (ds' := fin36 l r (toSp G, toMn G)) (tf := 26) (rs := [(3, .id), (7, .bv IvK), (8, .bv intK), (0, .id)]) (fd := fnOf Tryz.f151) (py := 0) (xs := #[]) (ys := #[.pointer (some ⟨K0 + 1, 0, none⟩), .pointer (some ⟨K0 + 2, 0, none⟩)]) (g := 151) rfl (by kernel_rfl) rfl rfl
        fun tm => ⟨40, 40, _, _, iter36 l r tm (((0 + l.length : Nat) : Int), (toSp G, toMn G)), lL tm, trivial⟩
    have hB : LdT ((cfg w0).at cs36) (ld36b l r (toSp G, toMn G) (((0 + (toSp G).length : Nat) : Int), evsP l r)) (.loop (lpB 2 (fnOf Tryz.f36).body)) (st36b l r (toSp G, toMn G) (0, [])) := by
      have hrun : rgRun 2 (fun (j : Nat) (o : List (Tup evK)) => (X.normal, step36b l r (toSp G, toMn G) j o)) (toSp G).length 0 [] = (.exit 2, (((0 + (toSp G).length : Nat) : Int), evsP l r)) := by
        rw [rgRun_fold 2 (h := fun (j : Nat) (o : List (Tup evK)) => step36b l r (toSp G, toMn G) j o) _ _ _ (fun _ _ _ _ => rfl), fold36b]
        unfold evsP
        rw [hGG]
      exact ldT_rg ok sp (N := (fnOf Tryz.f36).ntmps) (rel := rel36b) (B := lpB 2 (fnOf Tryz.f36).body) (id := 2) (k := (toSp G).length) (by rw [toSp_len]; omega) (st36b l r (toSp G, toMn G)) (fun (j : Nat) (o : List (Tup evK)) => (X.normal, step36b l r (toSp G, toMn G) j o)) (fun j o => o.length ≤ j)
        (fun j o hj ho => .leaf (by
          have hjG : j < G.length := by rw [toSp_len] at hj; exact hj
          have hin : inH (v1 (nth (toSp G) j)) (v2 (nth (toSp G) j)) l.length = true := by
            unfold toSp
            rw [nth_map _ G (0, 0, 0) hjG]
            have hm : G.getD j (0, 0, 0) ∈ G := by
              rw [List.getD_eq_getElem?_getD, List.getElem?_eq_getElem hjG]
              exact List.getElem_mem hjG
            obtain ⟨g1, g2, g3, _⟩ := hG.2 _ hm
            show inH (G.getD j (0, 0, 0)).1 (G.getD j (0, 0, 0)).2.1 l.length = true
            simp only [inH, Bool.and_eq_true, decide_eq_true_eq]
            omega
          refine (round36b l r (toSp G) (toMn G) j o).trans ?_
          unfold step36b
          rw [inV_nat hj, inO_nat (show j < (toMn G).length by rw [toMn_len]; exact hjG), lt_t hj, Int.toNat_natCast, hg, hin]
          unfold roomEv
          rw [room (k := 48) (by have := toSp_len G; omega) (by omega)]
          simp only [cond_true, Bool.and_self]
          cases decide (i1 (nth (toMn G) j) ≥ r.2.2) <;> rfl)) (fun j o o' hj ho h => by
          cases h
          unfold step36b
          cases decide (i1 (nth (toMn G) j) ≥ r.2.2)
          · simp only [cond_false]; omega
          · simp only [cond_true, List.length_append, List.length_singleton]; omega)
        (fun o _ => .leaf ((round36b l r (toSp G) (toMn G) _ o).trans (by rw [ge_f]; rfl))) (a0 := []) (by simp) hrun
    have hb := body36 (w0 := w0) l r (toSp G, toMn G) (((0 + (toSp G).length : Nat) : Int), evsP l r)
    rw [hg, he, show Nat.ble (evsP l r).length 100000 = true from (Nat.ble_eq ..).mpr hel] at hb
    cases hz : (evsP l r).any bgE with
    | true =>
      rw [hz] at hb
      exact fnD_nilE (fnD_t (cfg_ok w0) h0 (cs36_gd h0) (fd := fnOf Tryz.f36) rfl hb ⟨hB, hR, trivial⟩)
    | false =>
      rw [hz] at hb
      exact fnD_t (cfg_ok w0) h0 (cs36_gd h0) (fd := fnOf Tryz.f36) rfl hb ⟨hB, hR, trivial⟩
def c36 : Ct := ct 36 [.v intK, .b ruK] fun a => .br (sm a.1) (.leaf (eeD (ev36 a.1 (a.2.1.1, a.2.1.2.1, a.2.1.2.2.1)))) .bad
theorem gd36 (h0 : Lib0 w0) : Gd (cfg w0) c36 := gd_sig fun a d hd => by
  obtain ⟨l, ⟨x, y, z, _⟩, u⟩ := a
  obtain ⟨hg, hd⟩ := br_run hd
  cases hd
  exact fn36 h0 l (x, y, z) hg
end
end Go.Proofs.YtifnpljmjhnbaaaGreatDoor

namespace Go.Proofs.YtifnpljmjhnbaaaGreatDoor
open Go Go.Am
set_option maxRecDepth 100000
variable {w0 : World}
noncomputable section


def rel38a : List (Nat × Cv) := [(0, .id), (3, .id), (7, .id), (6, .ov intK), (4, .id), (5, .id)]
def st38a (l : TL) (r : Ru) (a : Int × TL) : List D := [.vec intK l, ruD r, I a.1, .ovec intK a.2, nilD, I 0]
def cs38 : List Ct := [c103]
def rel38b : List (Nat × Cv) := [(0, .id), (3, .id), (6, .ov intK), (8, .ov evK), (9, .id), (10, .id), (4, .id), (5, .id)]
abbrev BO := Int × List (Tup evK) × Int
def st38b (l : TL) (r : Ru) (L : TL) (a : Int × BO) : List D := [.vec intK l, ruD r, .ovec intK L, .ovec evK a.2.2.1, I a.2.1, I a.1, nilD, I a.2.2.2]
theorem round38a (l : TL) (r : Ru) (j : Int) (o : TL) : rndD ((cfg w0).at cs38) 40 [] 40 (fnOf Tryz.f38).ntmps rel38a (lpB 0 (fnOf Tryz.f38).body) (st38a l r (j, o)) =
    bif decide (j < l.length) then bif inO l j then
      bif decide (i1 (nth l j.toNat) ≥ r.1) then bif roomN (o ++ [t1 j]) then some ([], .normal, st38a l r (W (j + 1), o ++ [t1 j])) else none else some ([], .normal, st38a l r (W (j + 1), o))
    else none else some ([], .exit 0, st38a l r (j, o)) := by kernel_rfl
def x1 (i : Int) : Int := IntKind.i64.wrap (i + 1)
def lv (L : TL) (i : Int) : Int := i1 (nth L i.toNat)
def joinR (r : Ru) (L : TL) (i : Int) : Bool := decide (IntKind.i64.wrap (IntKind.i64.wrap (lv L (x1 i) - lv L i) - 1) ≤ r.2.1)
def hrR (l L : TL) (i b : Int) : A4 := hrd l (lv L b).toNat (x1 (lv L i)).toNat
def tl38 (l : TL) (r : Ru) (L : TL) (i b : Int) (o : List (Tup evK)) (e : Int) : Rn :=
  bif decide (IntKind.i64.wrap (x1 i - b) ≥ r.2.2) then bif inO L b then bif inO L i then bif (sm l && inH (lv L b) (x1 (lv L i)) l.length) then
    bif decide ((hrR l L i b).1 > maxE) then some ([], .ret, st38b l r L (i, b, o, 4)) else
    bif roomEv (o ++ [evT (lv L b) (x1 (lv L i)) (hrR l L i b)]) then some ([], .normal, st38b l r L (x1 i, x1 i, o ++ [evT (lv L b) (x1 (lv L i)) (hrR l L i b)], e)) else none
  else none else none else none
  else some ([], .normal, st38b l r L (x1 i, x1 i, o, e))
theorem round38b (l : TL) (r : Ru) (L : TL) (i b : Int) (o : List (Tup evK)) (e : Int) : rndD ((cfg w0).at cs38) 40 [] 40 (fnOf Tryz.f38).ntmps rel38b (lpB 2 (fnOf Tryz.f38).body) (st38b l r L (i, b, o, e)) =
    bif decide (i < L.length) then
      bif decide (x1 i < L.length) then bif inO L (x1 i) then bif inO L i then
        bif joinR r L i then some ([], .normal, st38b l r L (x1 i, b, o, e)) else tl38 l r L i b o e
      else none else none else tl38 l r L i b o e
    else some ([], .exit 2, st38b l r L (i, b, o, e)) := by kernel_rfl
theorem body38 (l : TL) (r : Ru) (a : Int × TL) (x : X) (p : Int × BO) (hx : x = .ret ∨ x = .normal) : bodyT ((cfg w0).at cs38) 40 [ldP 0 (fnOf Tryz.f38).ntmps rel38a .normal (st38a l r a), ldP 2 (fnOf Tryz.f38).ntmps rel38b x (st38b l r a.2 p)] 40 (fnOf Tryz.f38) [.vec intK l, .agg [I r.1, I r.2.1, I r.2.2]] =
    some ([(ldP 2 (fnOf Tryz.f38).ntmps rel38b x (st38b l r a.2 p), .loop (lpB 2 (fnOf Tryz.f38).body), st38b l r a.2 (0, 0, [], 0)), (ldP 0 (fnOf Tryz.f38).ntmps rel38a .normal (st38a l r a), .loop (lpB 0 (fnOf Tryz.f38).body), st38a l r (0, []))], onX x (.tup [nilD, I p.2.2.2]) (.tup [.vec evK p.2.2.1, I 0])) := by
  rcases hx with rfl | rfl <;> kernel_rfl


def LN (l : TL) (r : Ru) (n : Nat) : List Nat := (List.range' 0 n).filter (loudB l r)
def ln1 (j : Nat) : Tup intK := t1 (j : Int)
def refG (gap : Int) : Int → Int → Int → List Nat → List Gp
  | f, c, x, [] => [(f, x + 1, c)]
  | f, c, x, y :: ys => bif decide ((y : Int) - x - 1 ≤ gap) then refG gap f (c + 1) y ys else (f, x + 1, c) :: refG gap y 1 y ys
theorem put_ref (gap : Int) : ∀ (ys : List Nat) (P : List Gp) (f c x : Int), ys.foldl (fun G (j : Nat) => putG gap G (j : Int)) (P ++ [(f, x + 1, c)]) = P ++ refG gap f c x ys
  | [], P, f, c, x => rfl
  | y :: ys, P, f, c, x => by
    rw [List.foldl_cons, putG_snoc]
    have e : decide ((y : Int) - (x + 1) ≤ gap) = decide ((y : Int) - x - 1 ≤ gap) := by rw [decide_eq_decide]; omega
    show List.foldl _ (bif decide ((y : Int) - (x + 1) ≤ gap) then P ++ [(f, (y : Int) + 1, c + 1)] else P ++ [(f, x + 1, c)] ++ [((y : Int), (y : Int) + 1, 1)]) ys = _
    unfold refG
    rw [e]
    cases decide ((y : Int) - x - 1 ≤ gap) with
    | true => simp only [cond_true]; exact put_ref gap ys P f (c + 1) y
    | false =>
      simp only [cond_false]
      rw [put_ref gap ys (P ++ [(f, x + 1, c)]) y 1 y]
      simp
def groups (gap : Int) : List Nat → List Gp
  | [] => []
  | x :: ys => refG gap x 1 x ys
theorem GG_groups (l : TL) (r : Ru) (n : Nat) : GG l r n = groups r.2.1 (LN l r n) := by
  have e : ∀ (xs : List Nat) (G : List Gp), xs.foldl (stepL l r) G = (xs.filter (loudB l r)).foldl (fun G (j : Nat) => putG r.2.1 G (j : Int)) G := fun xs => by
    induction xs with
    | nil => intro G; rfl
    | cons x xs ih =>
      intro G
      rw [List.foldl_cons, ih, List.filter_cons]
      unfold stepL
      cases loudB l r x <;> rfl
  unfold GG
  rw [e]
  show (LN l r n).foldl _ [] = _
  cases LN l r n with
  | nil => rfl
  | cons x ys =>
    rw [List.foldl_cons, putG_nil]
    exact put_ref r.2.1 ys [] x 1 x
def gpR (l : TL) (g : Gp) : Tup evK := evT g.1 g.2.1 (hrd l g.1.toNat g.2.1.toNat)
def nthN (N : List Nat) (i : Nat) : Nat := N.getD i 0
def step38 (l : TL) (r : Ru) (N : List Nat) (i : Nat) (a : BO) : X × BO :=
  bif decide (i + 1 < N.length) && decide (((nthN N (i + 1) : Nat) : Int) - (nthN N i : Nat) - 1 ≤ r.2.1) then (.normal, a) else
  bif decide ((i : Int) + 1 - a.1 ≥ r.2.2) then
    bif bgE (gpR l ((nthN N a.1.toNat : Nat), (nthN N i : Nat) + 1, (i : Int) + 1 - a.1)) then (.ret, (a.1, a.2.1, 4)) else (.normal, ((i : Int) + 1, a.2.1 ++ [gpR l ((nthN N a.1.toNat : Nat), (nthN N i : Nat) + 1, (i : Int) + 1 - a.1)], a.2.2))
  else (.normal, ((i : Int) + 1, a.2.1, a.2.2))
theorem drop_cons {N : List Nat} {i : Nat} (h : i < N.length) : N.drop i = nthN N i :: N.drop (i + 1) := by
  rw [List.drop_eq_getElem_cons h]
  simp [nthN, h]
theorem run38 (l : TL) (r : Ru) (N : List Nat) : ∀ (n i b : Nat) (o : List (Tup evK)), i + (n + 1) = N.length → b ≤ i →
    ∃ (q : Nat) (b' : Int) (o' : List (Tup evK)), rgRun 2 (step38 l r N) (n + 1) i ((b : Int), o, 0) =
      bif (((refG r.2.1 (nthN N b : Nat) ((i : Int) + 1 - b) (nthN N i : Nat) (N.drop (i + 1))).filter (selG r)).map (gpR l)).any bgE then (.ret, ((q : Int), (b', o', 4)))
      else (.exit 2, (((i + (n + 1) : Nat) : Int), (b', o ++ ((refG r.2.1 (nthN N b : Nat) ((i : Int) + 1 - b) (nthN N i : Nat) (N.drop (i + 1))).filter (selG r)).map (gpR l), 0)))
  | 0, i, b, o, h, hb => by
    unfold rgRun rgRun
    rw [List.drop_eq_nil_of_le (by omega)]
    unfold refG step38
    rw [decide_eq_false (show ¬ i + 1 < N.length by omega), Bool.false_and, cond_false, List.filter_cons, List.filter_nil]
    unfold selG
    simp only [Int.toNat_natCast]
    cases hc : decide ((i : Int) + 1 - b ≥ r.2.2) with
    | false => exact ⟨0, (i : Int) + 1, [], by simp⟩
    | true =>
      cases hg : bgE (gpR l ((nthN N b : Nat), (nthN N i : Nat) + 1, (i : Int) + 1 - b)) with
      | true => exact ⟨i, (b : Int), o, by simp [hg]⟩
      | false => exact ⟨0, (i : Int) + 1, [], by simp [hg]⟩
  | n + 1, i, b, o, h, hb => by
    have hd := drop_cons (N := N) (i := i + 1) (by omega)
    unfold rgRun
    rw [hd]
    unfold refG
    have hs : step38 l r N i ((b : Int), o, 0) = bif decide (((nthN N (i + 1) : Nat) : Int) - (nthN N i : Nat) - 1 ≤ r.2.1) then (.normal, ((b : Int), o, 0)) else
        bif decide ((i : Int) + 1 - b ≥ r.2.2) then
          bif bgE (gpR l ((nthN N b : Nat), (nthN N i : Nat) + 1, (i : Int) + 1 - b)) then (.ret, ((b : Int), o, 4)) else (.normal, ((i : Int) + 1, o ++ [gpR l ((nthN N b : Nat), (nthN N i : Nat) + 1, (i : Int) + 1 - b)], 0))
        else (.normal, ((i : Int) + 1, o, 0)) := by
      unfold step38
      rw [decide_eq_true (show i + 1 < N.length by omega), Bool.true_and]
      simp only [Int.toNat_natCast]
    rw [hs]
    have c1 : (i : Int) + 1 - (b : Int) + 1 = ((i + 1 : Nat) : Int) + 1 - (b : Int) := by omega
    have c2 : (1 : Int) = ((i + 1 : Nat) : Int) + 1 - ((i + 1 : Nat) : Int) := by omega
    have c3 : (i : Int) + 1 = ((i + 1 : Nat) : Int) := by omega
    have hlen : i + 1 + (n + 1) = i + (n + 1 + 1) := by omega
    cases hj : decide (((nthN N (i + 1) : Nat) : Int) - (nthN N i : Nat) - 1 ≤ r.2.1) with
    | true =>
      obtain ⟨q, b', o', hq⟩ := run38 l r N n (i + 1) b o (by omega) (by omega)
      refine ⟨q, b', o', ?_⟩
      simp only [cond_true]
      rw [hq, c1, hlen]
    | false =>
      simp only [cond_false]
      rw [List.filter_cons]
      have hsel : selG r ((nthN N b : Nat), (nthN N i : Nat) + 1, (i : Int) + 1 - b) = decide ((i : Int) + 1 - b ≥ r.2.2) := rfl
      rw [hsel]
      cases hc : decide ((i : Int) + 1 - b ≥ r.2.2) with
      | false =>
        obtain ⟨q, b', o', hq⟩ := run38 l r N n (i + 1) (i + 1) o (by omega) (by omega)
        refine ⟨q, b', o', ?_⟩
        rw [← c2] at hq
        simp only [cond_false]
        rw [c3, hq, hlen]
        rfl
      | true =>
        simp only [cond_true, if_true, List.map_cons, List.any_cons]
        cases hg : bgE (gpR l ((nthN N b : Nat), (nthN N i : Nat) + 1, (i : Int) + 1 - b)) with
        | true => exact ⟨i, (b : Int), o, by simp⟩
        | false =>
          obtain ⟨q, b', o', hq⟩ := run38 l r N n (i + 1) (i + 1) (o ++ [gpR l ((nthN N b : Nat), (nthN N i : Nat) + 1, (i : Int) + 1 - b)]) (by omega) (by omega)
          refine ⟨q, b', o', ?_⟩
          rw [← c2] at hq
          simp only [cond_false, Bool.false_or]
          rw [show (((i : Int) + 1, o ++ [gpR l ((nthN N b : Nat), (nthN N i : Nat) + 1, (i : Int) + 1 - b)], (0 : Int)) : BO) = (((i + 1 : Nat) : Int), o ++ [gpR l ((nthN N b : Nat), (nthN N i : Nat) + 1, (i : Int) + 1 - b)], 0) by rw [c3]]
          rw [hq, hlen, List.append_assoc]
          rfl
end
end Go.Proofs.YtifnpljmjhnbaaaGreatDoor
