/-
 A part of the proof of the statement that the claim names: see the last file.
-/
import Derived.Test.YthcpfignhalffaaGreatDoorP3
namespace Go.Proofs.YthcpfignhalffaaGreatDoor
open Go Go.Am
set_option maxRecDepth 100000
variable {w0 : World}
noncomputable section
theorem mkI_ok {n : Nat} (h : n ≤ 100000) : mkI n = true := by
 unfold mkI
 simp only [Int.toNat_natCast, Bool.and_eq_true, decide_eq_true_eq, Nat.ble_eq]
 exact ⟨by omega, trivial, by omega, by omega, by omega⟩
theorem inK_nat {g : Gr} {j : Nat} (h : j < g.l.length) : inK g (j : Int) = true := inb 1 h
theorem GI_eq {j : Int} {k : Rn} : ∀ {gs : List Gr}, inAll gs j = true → GI j k gs = k
 | [], _ => rfl
 | g :: gs, h => by
   unfold inAll at h
   rw [List.all_cons, Bool.and_eq_true] at h
   unfold GI
   rw [h.1, GI_eq (gs := gs) h.2]; rfl
theorem rgRun_set {id : Nat} {p : Nat → Bool} {f : Nat → List (Tup intK) → List (Tup intK)} {c : Int} : ∀ (k i : Nat) (o : List (Tup intK)) (e : Int), ∃ (q : Nat) (o' : List (Tup intK)), rgRun id (fun j (a : List (Tup intK) × Int) => bif p j then (X.ret, (f j a.1, c)) else (.normal, (f j a.1, a.2))) k i (o, e) =
  bif (List.range' i k).any p then (.ret, ((q : Int), (o', c))) else (.exit id, (((i + k : Nat) : Int), ((List.range' i k).foldl (fun o j => f j o) o, e)))
 | 0, i, o, e => ⟨0, [], rfl⟩
 | k + 1, i, o, e => by
   obtain ⟨q, o', hq⟩ := rgRun_set (id := id) (p := p) (f := f) (c := c) k (i + 1) (f i o) e
   unfold rgRun
   rw [List.range'_succ, List.any_cons, List.foldl_cons]
   cases hp : p i with
   | true => exact ⟨i, f i o, by simp⟩
   | false =>
     refine ⟨q, o', ?_⟩
     simp only [cond_false, Bool.false_or]
     rw [hq, show i + 1 + k = i + (k + 1) by omega]
theorem updL_map (f : Nat → Tup intK) (z : Tup intK) (n : Nat) : updL (fun j _ => f j) 0 (List.replicate n z) = (List.range' 0 n).map f := by
 apply List.ext_getElem?
 intro j
 rw [updL_get, List.getElem?_map]
 rcases Nat.lt_or_ge j n with h | h
 ·rw [List.getElem?_replicate, if_pos h, List.getElem?_range' h]
  simp
 ·rw [List.getElem?_eq_none (by simpa using h), List.getElem?_eq_none (by simpa using h)]; rfl
theorem nth_set {o : List (Tup intK)} {j : Nat} {v : Tup intK} (h : j < o.length) : nth (o.set j v) j = v := by
 simp [nth, h]
def large (gs : List Gr) : Bool := (List.range' 0 (hdL gs)).any fun j => decide (sumI gs j > maxE)
def sumL (gs : List Gr) : List (Tup intK) := (List.range' 0 (hdL gs)).map fun j => t1 (sumI gs j)
def eqLn (gs : List Gr) : Bool := gs.all fun g => Nat.beq g.l.length (hdL gs)
def g128 (gs : List Gr) : Bool := len4 gs && (Nat.blt 0 gs.length && (eqLn gs && Nat.ble (hdL gs) 100000))
theorem inAll_nat {gs : List Gr} (h : eqLn gs = true) {j : Nat} (hj : j < hdL gs) : inAll gs (j : Int) = true := by
 unfold inAll
 unfold eqLn at h
 rw [List.all_eq_true] at h ⊢
 exact fun g hg => inK_nat (by rw [Nat.eq_of_beq_eq_true (h g hg)]; exact hj)
def sumD (gs : List Gr) : D := bif large gs then .tup [nilD, I 4] else .tup [.vec intK (sumL gs), I 0]
theorem fn128 (h0 : Lib0 w0) {gs : List Gr} (he : eqLn gs = true) (hl : hdL gs ≤ 100000)
  (hr : ∀ n j e o, rndD ((cfg w0).at []) 60 [] 60 (fnOf Tryz.f128).ntmps rel128 (lpB 0 (fnOf Tryz.f128).body) (st128 gs n (j, o, e)) = tree128 gs n j o e)
  (hn : ∀ p, bodyT ((cfg w0).at []) 40 [ldP 0 (fnOf Tryz.f128).ntmps rel128 .normal (st128 gs (hdL gs) p)] 40 (fnOf Tryz.f128) [slG gs] = tb128 gs .normal p)
  (ht : ∀ p, bodyT ((cfg w0).at []) 40 [ldP 0 (fnOf Tryz.f128).ntmps rel128 .ret (st128 gs (hdL gs) p)] 40 (fnOf Tryz.f128) [slG gs] = tb128 gs .ret p) : FnD (cfg w0) 128 [slG gs] (sumD gs) := by
 refine fn_rg h0 (cs := []) trivial (fd := fnOf Tryz.f128) rfl rel128 (hdL gs) (by omega) (st128 gs (hdL gs)) (fun j a => bif decide (sumI gs j > maxE) then (X.ret, (set128 gs j a.1, 4)) else (.normal, (set128 gs j a.1, a.2)))
  (fun _ a => a.1.length = hdL gs) (a0 := (zerI (hdL gs), 0)) (by simp [zerI])
  (fun j a hj hi => .leaf (by
   have hi : a.1.length = hdL gs := hi
   obtain ⟨o, e⟩ := a
   refine (hr _ _ _ _).trans ?_
   unfold tree128
   rw [lt_t hj, GI_eq (inAll_nat he hj), inO_nat (by simp only at hi; omega), Int.toNat_natCast]
   simp only [cond_true]
   unfold set128
   rw [nth_set (by simp only at hi; omega)]
   show (bif decide (sumI gs j > maxE) then _ else _) = _
   cases decide (sumI gs j > maxE) <;> rfl))
  (fun j a a' hj hi h => by
   have hi : a.1.length = hdL gs := hi
   cases hc : decide (sumI gs j > maxE) with
   | true => simp only [hc, cond_true] at h; cases h
   | false => simp only [hc, cond_false] at h; cases h; simpa [set128] using hi)
  (fun a _ => .leaf ((hr _ _ _ _).trans (by unfold tree128; rw [ge_f]; rfl))) fun x p hx => ?_
 obtain ⟨q, o', hq⟩ := rgRun_set (id := 0) (p := fun j => decide (sumI gs j > maxE)) (f := set128 gs) (c := 4) (hdL gs) 0 (zerI (hdL gs)) 0
 rw [hq] at hx
 have hL : (List.range' 0 (hdL gs)).any (fun j => decide (sumI gs j > maxE)) = large gs := rfl
 rw [hL] at hx
 unfold sumD
 cases hc : large gs with
 | true =>
   rw [hc] at hx
   cases hx
   refine (ht _).trans ?_
   unfold tb128
   rw [mkI_ok hl]; rfl
 | false =>
   rw [hc] at hx
   cases hx
   refine (hn _).trans ?_
   unfold tb128
   rw [mkI_ok hl]
   have := fold_upd (fun j _ => t1 (sumI gs j)) (zerI (hdL gs)) [] 0 rfl
   rw [List.nil_append, List.nil_append] at this
   simp only [zerI, Int.toNat_natCast, List.length_replicate, updL_map] at this
   have e : (List.range' 0 (hdL gs)).foldl (fun o j => set128 gs j o) (zerI (hdL gs)) = sumL gs := by
    simp only [zerI, Int.toNat_natCast]
    exact this
   simp only [cond_true, e]
   rfl
def c128 : Ct := gsK 128 [] fun gs _ => .br (g128 gs) (.br (large gs) (.leaf (.tup [nilD, I 4])) (.leaf (.tup [.vec intK (sumL gs), I 0]))) .bad
theorem gd128 (h0 : Lib0 w0) : Gd (cfg w0) c128 := gd_gs (fun _ _ h => by cases h) (fun _ _ h => by cases h) fun gs hne a d hd => by
 obtain ⟨hg, hd⟩ := br_run hd
 unfold g128 at hg
 simp only [Bool.and_eq_true, Nat.ble_eq] at hg
 obtain ⟨h4, _, he, hl⟩ := hg
 have key : ∀ {x}, FnD (cfg w0) 128 [slG gs] (sumD gs) → x = sumD gs → FnD (cfg w0) 128 [slG gs] x := fun h e => e ▸ h
 have hd' : d = sumD gs := by
  unfold sumD
  cases hL : large gs with
  | true => rw [hL] at hd; cases hd; rfl
  | false => rw [hL] at hd; cases hd; rfl
 refine key ?_ hd'
 rcases four h4 hne with ⟨a, rfl⟩ | ⟨a, b, rfl⟩ | ⟨a, b, c, rfl⟩ | ⟨a, b, c, e, rfl⟩
 ·exact fn128 h0 he hl (fun n j e o => round128_1 ..) (fun p => body128_1n ..) (fun p => body128_1r ..)
 ·exact fn128 h0 he hl (fun n j e o => round128_2 ..) (fun p => body128_2n ..) (fun p => body128_2r ..)
 ·exact fn128 h0 he hl (fun n j e o => round128_3 ..) (fun p => body128_3n ..) (fun p => body128_3r ..)
 ·exact fn128 h0 he hl (fun n j e o => round128_4 ..) (fun p => body128_4n ..) (fun p => body128_4r ..)
def loudP (i : Nat) : Int → Int → Int → List Gr → Int
 | _, b, _, [] => b
 | k, b, m, g :: gs => bif decide (i1 (nth g.l i) > m) then loudP i (W (k + 1)) k (i1 (nth g.l i)) gs else loudP i (W (k + 1)) b m gs
def loudL (gs : List Gr) : List (Tup intK) := (List.range' 0 (hdL gs)).map fun i => t1 (loudP i 0 (-1) 0 gs)
theorem roomI_ok {o : List (Tup intK)} {x : Tup intK} (h : o.length ≤ 1000000) : roomI (o ++ [x]) = true := room h (by omega)
theorem G46_eq {all : List Gr} {n : Int} {j : Nat} {o : List (Tup intK)} (ho : o.length ≤ 1000000) : ∀ {gs : List Gr} (k b m : Int), inAll gs (j : Int) = true → G46 all n j o k b m gs = some ([], .normal, st46 all n (W (j + 1), o ++ [t1 (loudP j k b m gs)]))
 | [], k, b, m, _ => by
   unfold G46 loudP
   rw [roomI_ok ho]; rfl
 | g :: gs, k, b, m, h => by
   unfold inAll at h
   rw [List.all_cons, Bool.and_eq_true] at h
   unfold G46 loudP
   rw [h.1, G46_eq ho (gs := gs) _ _ _ h.2, G46_eq ho (gs := gs) _ _ _ h.2, Int.toNat_natCast]
   cases decide (i1 (nth g.l j) > m) <;> rfl
theorem cs46_gd (h0 : Lib0 w0) : Gds (cfg w0) cs46 := ⟨gd127 h0, trivial⟩
theorem fn46 (h0 : Lib0 w0) {gs : List Gr} (he : eqLn gs = true) (hl : hdL gs ≤ 100000) (hs : smGs gs = true) (hc : chkGs gs = 0)
  (hr : ∀ n j o, rndD ((cfg w0).at cs46) 60 [] 60 (fnOf Tryz.f46).ntmps rel46 (lpB 0 (fnOf Tryz.f46).body) (st46 gs n (j, o)) = tree46 gs n j o)
  (hn : ∀ p, bodyT ((cfg w0).at cs46) 40 [ldP 0 (fnOf Tryz.f46).ntmps rel46 .normal (st46 gs (hdL gs) p)] 40 (fnOf Tryz.f46) [slG gs] = tb46 gs p) : FnD (cfg w0) 46 [slG gs] (.tup [.vec intK (loudL gs), I 0]) := by
 refine fn_rg h0 (cs46_gd h0) (fd := fnOf Tryz.f46) rfl rel46 (hdL gs) (by omega) (st46 gs (hdL gs)) (fun j a => (X.normal, a ++ [t1 (loudP j 0 (-1) 0 gs)])) (fun j a => a.length = j) (a0 := []) rfl
  (fun j a hj hi => .leaf (by
   have hi : a.length = j := hi
   refine (hr _ _ _).trans ?_
   unfold tree46
   rw [lt_t hj, G46_eq (by omega) _ _ _ (inAll_nat he hj)]; rfl))
  (fun j a a' hj hi h => by cases h; simp [hi])
  (fun a _ => .leaf ((hr _ _ _).trans (by unfold tree46; rw [ge_f]; rfl))) fun x p hx => ?_
 rw [rgRun_fold 0 (h := fun j out => out ++ [t1 (loudP j 0 (-1) 0 gs)]) _ _ _ (fun _ _ _ _ => rfl), foldl_snoc (fun j => t1 (loudP j 0 (-1) 0 gs))] at hx
 cases hx
 refine (hn _).trans ?_
 unfold tb46
 rw [hs, hc]; rfl
end
end Go.Proofs.YthcpfignhalffaaGreatDoor
namespace Go.Proofs.YthcpfignhalffaaGreatDoor
open Go Go.Am
set_option maxRecDepth 100000
variable {w0 : World}
noncomputable section
def gSum (wo : Int) : Nat → List (Tup intK) → List Gr → List (Tup intK)
 | _, o, [] => o
 | k, o, g :: gs => bif (k : Int) == wo then gSum wo (k + 1) o gs else gSum wo (k + 1) (updL (adE g) 0 o) gs
def refL (gs : List Gr) (wo : Int) : List (Tup intK) := gSum wo 0 (List.replicate (hdL gs) (t1 0)) gs
def anyL (l : List (Tup intK)) : Bool := (List.range' 0 l.length).any fun j => decide (i1 (nth l j) > maxE)
end
end Go.Proofs.YthcpfignhalffaaGreatDoor
namespace Go.Proofs.YthcpfignhalffaaGreatDoor
open Go Go.Am
set_option maxRecDepth 100000
variable {w0 : World}
noncomputable section
def gc (a b : Int) : Int := ((Nat.gcd a.toNat b.toNat : Nat) : Int)
def nextG (p : Int × Int) : X × (Int × Int) := bif decide (p.2 > 0) then (.normal, (p.2, p.1.tmod p.2)) else (.exit 0, p)
theorem gcd_iter : ∀ (b a : Nat), ∃ f, iterN nextG f ((a : Int), (b : Int)) = some (.exit 0, (((Nat.gcd a b : Nat) : Int), 0))
 | 0, a => ⟨1, by simp [iterN, nextG]⟩
 | b + 1, a => by
   obtain ⟨f, hf⟩ := gcd_iter (a % (b + 1)) (b + 1)
   refine ⟨f + 1, ?_⟩
   have hd : decide (((b + 1 : Nat) : Int) > 0) = true := by simp
   have hn : nextG ((a : Int), ((b + 1 : Nat) : Int)) = (.normal, (((b + 1 : Nat) : Int), (a : Int).tmod ((b + 1 : Nat) : Int))) := by
    unfold nextG; rw [hd]; rfl
   unfold iterN
   rw [hn]
   show iterN nextG f (((b + 1 : Nat) : Int), (a : Int).tmod ((b + 1 : Nat) : Int)) = _
   rw [← Int.ofNat_tmod, hf, Nat.gcd_comm (b + 1), ← Nat.gcd_rec, Nat.gcd_comm]
 termination_by b => b
 decreasing_by exact Nat.mod_lt _ (by omega)
theorem nextG_inv {p q : Int × Int} (h : 0 ≤ p.1 ∧ 0 ≤ p.2) (hn : nextG p = (.normal, q)) : 0 ≤ q.1 ∧ 0 ≤ q.2 := by
 unfold nextG at hn
 cases hd : decide (p.2 > 0) with
 | false => rw [hd] at hn; cases hn
 | true =>
   rw [hd] at hn
   cases hn
   exact ⟨h.2, Int.tmod_nonneg _ h.1⟩
def rel135 : List (Nat × Cv) := [(0, .id), (1, .id), (5, .id), (6, .id), (4, .id)]
def st135 (x y : Int) (p : Int × Int) : List D := [I x, I y, I p.1, I p.2, .obox [I 0, I 0]]
theorem round135 (x y a b : Int) : rndD ((cfg w0).at []) 40 [] 40 (fnOf Tryz.f135).ntmps rel135 (lpB 0 (fnOf Tryz.f135).body) (st135 x y (a, b)) =
  bif decide (b > 0) then bif decide (b = 0) then none else some ([], .normal, st135 x y (b, a.tmod b)) else some ([], .exit 0, st135 x y (a, b)) := by kernel_rfl
theorem body135 (x y : Int) (p : Int × Int) : bodyT ((cfg w0).at []) 40 [ldP 0 (fnOf Tryz.f135).ntmps rel135 .normal (st135 x y p)] 40 (fnOf Tryz.f135) [I x, I y] =
  bif decide (p.1 = 0) then none else bif decide (p.1 = 0) then none else
   some ([(ldP 0 (fnOf Tryz.f135).ntmps rel135 .normal (st135 x y p), .loop (lpB 0 (fnOf Tryz.f135).body), st135 x y (x, y))], .agg [I (W (x.tdiv p.1)), I (W (y.tdiv p.1))]) := by kernel_rfl
abbrev big : Int := 1000000000000000
def pos2 (a b : Int) : Bool := decide (0 ≤ a) && (decide (0 < b) && (decide (a ≤ big) && decide (b ≤ big)))
theorem pos2_ok {a b : Int} (h : pos2 a b = true) : 0 ≤ a ∧ 0 < b ∧ a ≤ big ∧ b ≤ big := by
 unfold pos2 at h
 simp only [Bool.and_eq_true, decide_eq_true_eq] at h
 exact h
theorem W_big {n : Int} (h : 0 ≤ n ∧ n ≤ big) : W n = n := IntWalk.i64_in _ ⟨by have : big = 1000000000000000 := rfl; omega, by have : big = 1000000000000000 := rfl; omega⟩
theorem gc_pos {a b : Int} (hb : 0 < b) : 0 < gc a b := by
 unfold gc
 have := Nat.gcd_pos_of_pos_right a.toNat (show 0 < b.toNat by omega)
 omega
theorem tdiv_big {x g : Int} (h : 0 ≤ x ∧ x ≤ big) (hg : 0 < g) : W (x.tdiv g) = x.tdiv g := by
 apply W_big
 rw [Int.tdiv_eq_ediv_of_nonneg h.1]
 exact ⟨Int.ediv_nonneg h.1 (by omega), Int.le_trans (Int.ediv_le_self _ h.1) h.2⟩
def ratT (a b : Int) : Tup ptK := (a.tdiv (gc a b), b.tdiv (gc a b), ())
def ratD (a b : Int) : D := .agg [I (a.tdiv (gc a b)), I (b.tdiv (gc a b))]
theorem fn135 (h0 : Lib0 w0) {x y : Int} (hp : pos2 x y = true) : FnD (cfg w0) 135 [I x, I y] (ratD x y) := by
 obtain ⟨h1, h2, h3, h4⟩ := pos2_ok hp
 obtain ⟨f, hf⟩ := gcd_iter y.toNat x.toNat
 rw [Int.toNat_of_nonneg h1, Int.toNat_of_nonneg (show 0 ≤ y by omega)] at hf
 have hL := ldT_iter (at_ok (cfg_ok w0) []) (at_sp h0 (cs := []) trivial) (N := (fnOf Tryz.f135).ntmps) (rel := rel135) (B := lpB 0 (fnOf Tryz.f135).body) (id := 0) (st135 x y) nextG (fun p => 0 ≤ p.1 ∧ 0 ≤ p.2)
  (fun p hp => .leaf (by
   refine (round135 x y p.1 p.2).trans ?_
   unfold nextG
   cases hd : decide (p.2 > 0) with
   | false => rfl
   | true =>
     have : ¬ p.2 = 0 := by have := of_decide_eq_true hd; omega
     rw [decide_eq_false this]; rfl)) (fun p q hp hn => nextG_inv hp hn) (a0 := (x, y)) (b := (gc x y, 0)) (x := .exit 0) (f := f) ⟨h1, by show 0 ≤ y; omega⟩ hf
 refine fnD_lp (cfg_ok w0) h0 (cs := []) trivial (fd := fnOf Tryz.f135) rfl ((body135 x y (gc x y, 0)).trans ?_) hL
 have hg := gc_pos (a := x) h2
 rw [decide_eq_false (show ¬ gc x y = 0 by omega), tdiv_big ⟨h1, h3⟩ hg, tdiv_big ⟨by omega, h4⟩ hg]
 rfl
def lowC (g : Nat) : Ct := ct g [.c ik, .c ik] fun a => .br (pos2 a.1 a.2.1) (.leaf (ratD a.1 a.2.1)) .bad
theorem gd135 (h0 : Lib0 w0) : Gd (cfg w0) (lowC 135) := gd_sig fun a d hd => by
 obtain ⟨hg, hd⟩ := br_run hd
 cases hd
 exact fn135 h0 hg
end
end Go.Proofs.YthcpfignhalffaaGreatDoor
