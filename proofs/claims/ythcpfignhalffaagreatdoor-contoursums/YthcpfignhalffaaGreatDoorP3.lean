/-
  A part of the proof of the statement that the claim names: see the last file.
-/
import Derived.Test.YthcpfignhalffaaGreatDoorP2
namespace Go.Proofs.YthcpfignhalffaaGreatDoor
open Go Go.Am
set_option maxRecDepth 100000
variable {w0 : World}
noncomputable section


theorem seventeen {gs : List Gr} (h : gs.length = 17) : ∃ g1 g2 g3 g4 g5 g6 g7 g8 g9 g10 g11 g12 g13 g14 g15 g16 g17 : Gr, gs = [g1, g2, g3, g4, g5, g6, g7, g8, g9, g10, g11, g12, g13, g14, g15, g16, g17] := by
  match gs, h with
  | [g1, g2, g3, g4, g5, g6, g7, g8, g9, g10, g11, g12, g13, g14, g15, g16, g17], _ => exact ⟨g1, g2, g3, g4, g5, g6, g7, g8, g9, g10, g11, g12, g13, g14, g15, g16, g17, rfl⟩
def len17 (gs : List Gr) : Bool := len4 gs || Nat.beq gs.length 17

theorem gd_run17 (h0 : Lib0 w0) {cs : List Ct} (hcs : Gds (cfg w0) cs) {g : Nat} {fd : AFn} (hfd : fnTr.get g = some fd) {ss : List Sh} {F : List Gr → ArgT ss → FT D} {T : List Gr → ArgT ss → Option D}
    (hF : ∀ gs a d, (F gs a).run = some d → len17 gs = true ∧ T gs a = some d)
    (rn : ∀ x, bodyK ((cfg w0).at cs) 60 fd (nilD :: toShs ss x) = T [] x) (re : ∀ x, bodyK ((cfg w0).at cs) 60 fd (.emp 3 :: toShs ss x) = T [] x)
    (r1 : ∀ a x, bodyK ((cfg w0).at cs) 60 fd (slG [a] :: toShs ss x) = T [a] x) (r2 : ∀ a b x, bodyK ((cfg w0).at cs) 60 fd (slG [a, b] :: toShs ss x) = T [a, b] x)
    (r3 : ∀ a b c x, bodyK ((cfg w0).at cs) 60 fd (slG [a, b, c] :: toShs ss x) = T [a, b, c] x) (r4 : ∀ a b c d x, bodyK ((cfg w0).at cs) 60 fd (slG [a, b, c, d] :: toShs ss x) = T [a, b, c, d] x)
    (r17 : ∀ gs, gs.length = 17 → ∀ x, bodyK ((cfg w0).at cs) 60 fd (slG gs :: toShs ss x) = T gs x) : Gd (cfg w0) (gsK g ss F) := by
  have go := fun {ds : List D} {d : D} (h : bodyK ((cfg w0).at cs) 60 fd ds = some d) => fnD_k (cfg_ok w0) h0 hcs (g := g) hfd h
  refine gd_gs (fun x d hd => go ((rn x).trans (hF _ _ _ hd).2)) (fun x d hd => go ((re x).trans (hF _ _ _ hd).2)) fun gs hne x d hd => ?_
  obtain ⟨h4, hT⟩ := hF _ _ _ hd
  unfold len17 at h4
  rw [Bool.or_eq_true] at h4
  rcases h4 with h4 | h4
  · rcases four h4 hne with ⟨a, rfl⟩ | ⟨a, b, rfl⟩ | ⟨a, b, c, rfl⟩ | ⟨a, b, c, e, rfl⟩
    · exact go ((r1 a x).trans hT)
    · exact go ((r2 a b x).trans hT)
    · exact go ((r3 a b c x).trans hT)
    · exact go ((r4 a b c e x).trans hT)
  · exact go ((r17 gs (Nat.eq_of_beq_eq_true h4) x).trans hT)


theorem T42_eq : ∀ gs : List Gr, T42 gs = some (Bo (gs.all few))
  | [] => rfl
  | g :: gs => by
    unfold T42
    rw [T42_eq gs, List.all_cons]
    cases few g <;> rfl
def c42 : Ct := gsK 42 [] fun gs _ => .br (len17 gs) (.leaf (Bo (gs.all few))) .bad
theorem gd42 (h0 : Lib0 w0) : Gd (cfg w0) c42 := gd_run17 h0 (cs := []) trivial (fd := fnOf Tryz.f42) rfl (ss := []) (T := fun gs _ => T42 gs)
  (fun gs a d hd => by obtain ⟨hg, hd⟩ := br_run hd; cases hd; exact ⟨hg, T42_eq gs⟩)
  (fun _ => run42_n) (fun _ => run42_e) (fun a _ => run42_1 a) (fun a b _ => run42_2 a b) (fun a b c _ => run42_3 a b c) (fun a b c d _ => run42_4 a b c d)
  (fun gs h _ => by obtain ⟨g1, g2, g3, g4, g5, g6, g7, g8, g9, g10, g11, g12, g13, g14, g15, g16, g17, rfl⟩ := seventeen h; exact run42_17 ..)


theorem G44_eq (k : Option D) : ∀ {gs : List Gr}, smGs gs = true → G44 k gs = k
  | [], _ => rfl
  | g :: gs, h => by
    unfold smGs at h
    rw [List.all_cons, Bool.and_eq_true] at h
    unfold G44
    rw [h.1, G44_eq k (gs := gs) h.2]; rfl
def c44 : Ct := gsK 44 [] fun gs _ => .br (len17 gs && smGs gs) (.leaf (outG gs)) .bad
theorem gd44 (h0 : Lib0 w0) : Gd (cfg w0) c44 := gd_run17 h0 (cs := [ownC 16]) ⟨gd16 h0, trivial⟩ (fd := fnOf Tryz.f44) rfl (ss := []) (T := fun gs _ => T44 gs)
  (fun gs a d hd => by
    obtain ⟨hg, hd⟩ := br_run hd
    cases hd
    rw [Bool.and_eq_true] at hg
    exact ⟨hg.1, G44_eq _ hg.2⟩)
  (fun _ => run44_n) (fun _ => run44_e) (fun a _ => run44_1 a) (fun a b _ => run44_2 a b) (fun a b c _ => run44_3 a b c) (fun a b c d _ => run44_4 a b c d)
  (fun gs h _ => by obtain ⟨g1, g2, g3, g4, g5, g6, g7, g8, g9, g10, g11, g12, g13, g14, g15, g16, g17, rfl⟩ := seventeen h; exact run44_17 ..)


theorem cs127_gd (h0 : Lib0 w0) : Gds (cfg w0) cs127 := ⟨gd73 h0, gd132 h0, gd99 h0, trivial⟩
theorem cs48_gd (h0 : Lib0 w0) : Gds (cfg w0) cs48 := ⟨gd20 h0, gd49 h0, gd109 h0, gd61 h0, trivial⟩
def chkGsC (g : Nat) : Ct := gsK g [] fun gs _ => .br (len17 gs && smGs gs) (.leaf (I (chkGs gs))) .bad
theorem T127_eq {gs : List Gr} (h : smGs gs = true) : T127 gs = some (I (chkGs gs)) := by
  cases gs with
  | nil => rfl
  | cons g r =>
    show (bif Nat.blt 16 (g :: r).length then some (I 5) else G44 (some (I (firstZ ((g :: r).map (errG g))))) (g :: r)) = some (I (bif Nat.blt 16 (g :: r).length then 5 else firstZ ((g :: r).map (errG g))))
    rw [G44_eq _ h]
    generalize Nat.blt 16 (g :: r).length = b
    cases b <;> rfl
theorem gd127 (h0 : Lib0 w0) : Gd (cfg w0) (chkGsC 127) := gd_run17 h0 (cs127_gd h0) (fd := fnOf Tryz.f127) rfl (ss := []) (T := fun gs _ => T127 gs)
  (fun gs a d hd => by
    obtain ⟨hg, hd⟩ := br_run hd
    cases hd
    rw [Bool.and_eq_true] at hg
    exact ⟨hg.1, T127_eq hg.2⟩)
  (fun _ => run127_n) (fun _ => run127_e) (fun a _ => run127_1 a) (fun a b _ => run127_2 a b) (fun a b c _ => run127_3 a b c) (fun a b c d _ => run127_4 a b c d)
  (fun gs h _ => by obtain ⟨g1, g2, g3, g4, g5, g6, g7, g8, g9, g10, g11, g12, g13, g14, g15, g16, g17, rfl⟩ := seventeen h; exact run127_17 ..)
theorem sizeB_comm (a b : Gr) : sizeB a b = sizeB b a := by
  unfold sizeB
  rw [Bool.eq_iff_iff]
  simp only [Bool.and_true, Bool.and_eq_true, beq_iff_eq]
  exact ⟨fun h => ⟨h.1.symm, h.2.symm⟩, fun h => ⟨h.1.symm, h.2.symm⟩⟩
theorem err_eq (a b : Gr) : errG a b = errR a b := by unfold errG errR; rw [sizeB_comm]
theorem G48_eq (a : Gr) : ∀ {gs : List Gr}, smGs gs = true → G48 a gs = some (I (firstZ (gs.map (errG a))))
  | [], _ => rfl
  | g :: gs, h => by
    unfold smGs at h
    rw [List.all_cons, Bool.and_eq_true] at h
    show (bif smG g then bif errR a g != 0 then some (I (errR a g)) else G48 a gs else none) = some (I (bif errG a g != 0 then errG a g else firstZ (gs.map (errG a))))
    rw [h.1, G48_eq a (gs := gs) h.2, ← err_eq]
    generalize (errG a g != 0) = b
    cases b <;> rfl
theorem T48_eq {gs : List Gr} (h : smGs gs = true) : T48 gs = some (I (chkGs gs)) := by
  cases gs with
  | nil => rfl
  | cons g r =>
    show (bif Nat.blt 16 (g :: r).length then some (I 5) else G48 g (g :: r)) = some (I (bif Nat.blt 16 (g :: r).length then 5 else firstZ ((g :: r).map (errG g))))
    rw [G48_eq g h]
    generalize Nat.blt 16 (g :: r).length = b
    cases b <;> rfl
theorem gd48 (h0 : Lib0 w0) : Gd (cfg w0) (chkGsC 48) := gd_run17 h0 (cs48_gd h0) (fd := fnOf Tryz.f48) rfl (ss := []) (T := fun gs _ => T48 gs)
  (fun gs a d hd => by
    obtain ⟨hg, hd⟩ := br_run hd
    cases hd
    rw [Bool.and_eq_true] at hg
    exact ⟨hg.1, T48_eq hg.2⟩)
  (fun _ => run48_n) (fun _ => run48_e) (fun a _ => run48_1 a) (fun a b _ => run48_2 a b) (fun a b c _ => run48_3 a b c) (fun a b c d _ => run48_4 a b c d)
  (fun gs h _ => by obtain ⟨g1, g2, g3, g4, g5, g6, g7, g8, g9, g10, g11, g12, g13, g14, g15, g16, g17, rfl⟩ := seventeen h; exact run48_17 ..)


def sumZ (i : Nat) : Int → List Gr → Int
  | s, [] => s
  | s, g :: gs => sumZ i (W (s + i1 (nth g.l i))) gs
def sumI (gs : List Gr) (i : Nat) : Int := sumZ i 0 gs
def inAll (gs : List Gr) (i : Int) : Bool := gs.all fun g => inK g i
theorem G131_eq (i : Int) : ∀ {gs : List Gr} (s : Int), inAll gs i = true → G131 i s gs = some (I (sumZ i.toNat s gs))
  | [], _, _ => rfl
  | g :: gs, s, h => by
    unfold inAll at h
    rw [List.all_cons, Bool.and_eq_true] at h
    unfold G131 sumZ
    rw [h.1, G131_eq i (gs := gs) _ h.2]; rfl
def c131 : Ct := gsK 131 [.c ik] fun gs a => .br (len4 gs && inAll gs a.1) (.leaf (I (sumI gs (show Int from a.1).toNat))) .bad
theorem gd131 (h0 : Lib0 w0) : Gd (cfg w0) c131 := gd_run4 h0 (cs := []) trivial (fd := fnOf Tryz.f131) rfl (ss := [.c ik]) (T := fun gs a => T131 gs a.1)
  (fun gs a d hd => by
    obtain ⟨hg, hd⟩ := br_run hd
    cases hd
    rw [Bool.and_eq_true] at hg
    refine ⟨hg.1, ?_⟩
    cases gs with
    | nil => rfl
    | cons g r => exact G131_eq _ _ hg.2)
  (fun x => run131_n x.1) (fun x => run131_e x.1) (fun a x => run131_1 a x.1) (fun a b x => run131_2 a b x.1) (fun a b c x => run131_3 a b c x.1) (fun a b c d x => run131_4 a b c d x.1)
end
end Go.Proofs.YthcpfignhalffaaGreatDoor

namespace Go.Proofs.YthcpfignhalffaaGreatDoor
open Go Go.Am
set_option maxRecDepth 100000
variable {w0 : World}
noncomputable section


abbrev Rn := Option (Obs × X × List D)
def inO (o : List (Tup intK)) (j : Int) : Bool := Nat.beq 1 1 && (decide (0 ≤ j) && decide (j < o.length))
def GI (j : Int) (k : Rn) : List Gr → Rn
  | [] => k
  | g :: gs => bif inK g j then GI j k gs else none
def roomI (o : List (Tup intK)) : Bool := Nat.ble (o.length * 8) 1000000000000 && Nat.ble o.length 1000000000000
def mkI (n : Nat) : Bool := decide (0 ≤ (n : Int)) && (decide ((n : Int) = (n : Int)) && (decide ((n : Int) ≤ 10000000) && (Nat.ble ((n : Int).toNat * 1) 10000000 && Nat.ble ((n : Int).toNat * 8) 1000000000000)))
def zerI (n : Nat) : List (Tup intK) := List.replicate (n : Int).toNat (t1 0)
def hdL (gs : List Gr) : Nat := match gs with
  | [] => 0
  | g :: _ => g.l.length


def rel128 : List (Nat × Cv) := [(0, .id), (4, .id), (13, .id), (14, .id), (2, .id), (3, .id)]
def st128 (gs : List Gr) (n : Int) (p : Int × (List (Tup intK) × Int)) : List D := [slG gs, .ovec intK p.2.1, I n, I p.1, nilD, I p.2.2]
def set128 (gs : List Gr) (j : Nat) (o : List (Tup intK)) : List (Tup intK) := o.set j (t1 (sumI gs j))
def tree128 (gs : List Gr) (n j : Int) (o : List (Tup intK)) (e : Int) : Rn :=
  bif decide (j < n) then GI j (bif inO o j then bif inO o j then
      bif decide (i1 (nth (set128 gs j.toNat o) j.toNat) > maxE) then some ([], .ret, st128 gs n (j, set128 gs j.toNat o, 4)) else some ([], .normal, st128 gs n (W (j + 1), set128 gs j.toNat o, e))
    else none else none) gs
  else some ([], .exit 0, st128 gs n (j, o, e))
def tb128 (gs : List Gr) (x : X) (p : Int × (List (Tup intK) × Int)) : Option (Obs × D) :=
  bif mkI (hdL gs) then some ([(ldP 0 (fnOf Tryz.f128).ntmps rel128 x (st128 gs (hdL gs) p), .loop (lpB 0 (fnOf Tryz.f128).body), st128 gs (hdL gs) (0, zerI (hdL gs), 0))], onX x (.tup [nilD, I p.2.2]) (.tup [.vec intK p.2.1, I 0])) else none


def cs46 : List Ct := [chkGsC 127]
def rel46 : List (Nat × Cv) := [(0, .id), (21, .id), (22, .id), (5, .ov intK)]
def st46 (gs : List Gr) (n : Int) (p : Int × List (Tup intK)) : List D := [slG gs, I n, I p.1, .ovec intK p.2]
def G46 (all : List Gr) (n j : Int) (o : List (Tup intK)) : Int → Int → Int → List Gr → Rn
  | _, b, _, [] => bif roomI (o ++ [t1 b]) then some ([], .normal, st46 all n (W (j + 1), o ++ [t1 b])) else none
  | k, b, m, g :: gs => bif inK g j then
      bif decide (i1 (nth g.l j.toNat) > m) then G46 all n j o (W (k + 1)) k (i1 (nth g.l j.toNat)) gs else G46 all n j o (W (k + 1)) b m gs
    else none
def tree46 (gs : List Gr) (n j : Int) (o : List (Tup intK)) : Rn := bif decide (j < n) then G46 gs n j o 0 (-1) 0 gs else some ([], .exit 0, st46 gs n (j, o))
def tb46 (gs : List Gr) (p : Int × List (Tup intK)) : Option (Obs × D) :=
  bif smGs gs then
    bif chkGs gs != 0 then some ([], .tup [nilD, I (chkGs gs)]) else
    some ([(ldP 0 (fnOf Tryz.f46).ntmps rel46 .normal (st46 gs (hdL gs) p), .loop (lpB 0 (fnOf Tryz.f46).body), st46 gs (hdL gs) (0, []))], .tup [.vec intK p.2, I 0])
  else none

def rel52 : List (Nat × Cv) := [(0, .id), (4, .id), (3, .ov intK)]
def st52 (gs : List Gr) (p : Int × List (Tup intK)) : List D := [slG gs, I p.1, .ovec intK p.2]
def G52 (all : List Gr) (j : Int) (o : List (Tup intK)) : Int → Option (Int × Gr) → List Gr → Rn
  | _, b, [] => bif roomI (o ++ [t1 (match b with | none => -1 | some p => p.1)]) then some ([], .normal, st52 all (W (j + 1), o ++ [t1 (match b with | none => -1 | some p => p.1)])) else none
  | k, b, g :: gs => bif inK g j then
      bif decide (i1 (nth g.l j.toNat) > 0) then
        match b with
        | none => G52 all j o (W (k + 1)) (some (k, g)) gs
        | some p => bif inK p.2 j then bif decide (i1 (nth g.l j.toNat) > i1 (nth p.2.l j.toNat)) then G52 all j o (W (k + 1)) (some (k, g)) gs else G52 all j o (W (k + 1)) b gs else none
      else G52 all j o (W (k + 1)) b gs
    else none
def tree52 (gs : List Gr) (j : Int) (o : List (Tup intK)) : Rn := bif decide (j < hdL gs) then G52 gs j o 0 none gs else some ([], .exit 0, st52 gs (j, o))
def tb52 (gs : List Gr) (p : Int × List (Tup intK)) : Option (Obs × D) :=
  some ([(ldP 0 (fnOf Tryz.f52).ntmps rel52 .normal (st52 gs p), .loop (lpB 0 (fnOf Tryz.f52).body), st52 gs (0, []))], .vec intK p.2)


def rel136 : List (Nat × Cv) := [(0, .id), (1, .id), (5, .id), (6, .id), (7, .id)]
def st136 (gs : List Gr) (wo : Int) (k : Int) (p : Int × List (Tup intK)) : List D := [slG gs, I wo, .ovec intK p.2, I k, I p.1]
def adE (g : Gr) (j : Nat) (x : Tup intK) : Tup intK := t1 (W (i1 x + i1 (nth g.l j)))
def tree136 (gs : List Gr) (wo k : Int) (g : Gr) (j : Int) (o : List (Tup intK)) : Rn :=
  bif decide (j < o.length) then bif inO o j then bif inK g j then bif inO o j then
      some ([], .normal, st136 gs wo k (W (j + 1), o.set j.toNat (adE g j.toNat (nth o j.toNat))))
    else none else none else none
  else some ([], .exit 2, st136 gs wo k (j, o))
def rnd136 (gs : List Gr) (wo k j : Int) (o : List (Tup intK)) := rndD ((cfg w0).at []) 60 [] 60 (fnOf Tryz.f136).ntmps rel136 (lpB 2 (fnOf Tryz.f136).body) (st136 gs wo k (j, o))
noncomputable def ld136 : Ld := ⟨2, (fnOf Tryz.f136).ntmps, rel136, fun ds => match ds with
  | [d, .val (.int .i64 wo), .ovec ks o, .val (.int .i64 k), .val (.int .i64 _)] => match asGs d, recast ks intK o with
    | some gs, some o => match gs[k.toNat]? with
      | some g => .br (Nat.beq g.l.length o.length && Nat.ble o.length 100000) (.leaf (.normal, st136 gs wo k (o.length, updL (adE g) 0 o))) .bad
      | none => .bad
    | _, _ => .bad
  | _ => .bad⟩
noncomputable def G136 (all : List Gr) (wo : Int) : Int → List (Tup intK) → Obs → List Gr → Option (Obs × D)
  | _, o, ob, [] => some (ob, .vec intK o)
  | k, o, ob, g :: gs => bif k == wo then G136 all wo (W (k + 1)) o ob gs else
      bif Nat.beq g.l.length o.length && Nat.ble o.length 100000 then G136 all wo (W (k + 1)) (updL (adE g) 0 o) ((ld136, .loop (lpB 2 (fnOf Tryz.f136).body), st136 all wo k (0, o)) :: ob) gs else none
noncomputable def T136 (gs : List Gr) (wo : Int) : Option (Obs × D) := bif mkI (hdL gs) then G136 gs wo 0 (zerI (hdL gs)) [] gs else none
theorem round128_1 (g1 : Gr) (n j e : Int) (o : List (Tup intK)) : rndD ((cfg w0).at []) 60 [] 60 (fnOf Tryz.f128).ntmps rel128 (lpB 0 (fnOf Tryz.f128).body) (st128 [g1] n (j, o, e)) = tree128 [g1] n j o e := by kernel_rfl
theorem body128_1n (g1 : Gr) (p : Int × (List (Tup intK) × Int)) : bodyT ((cfg w0).at []) 40 [ldP 0 (fnOf Tryz.f128).ntmps rel128 .normal (st128 [g1] g1.l.length p)] 40 (fnOf Tryz.f128) [slG [g1]] = tb128 [g1] .normal p := by kernel_rfl
theorem body128_1r (g1 : Gr) (p : Int × (List (Tup intK) × Int)) : bodyT ((cfg w0).at []) 40 [ldP 0 (fnOf Tryz.f128).ntmps rel128 .ret (st128 [g1] g1.l.length p)] 40 (fnOf Tryz.f128) [slG [g1]] = tb128 [g1] .ret p := by kernel_rfl
theorem round46_1 (g1 : Gr) (n j : Int) (o : List (Tup intK)) : rndD ((cfg w0).at cs46) 60 [] 60 (fnOf Tryz.f46).ntmps rel46 (lpB 0 (fnOf Tryz.f46).body) (st46 [g1] n (j, o)) = tree46 [g1] n j o := by kernel_rfl
theorem body46_1 (g1 : Gr) (p : Int × List (Tup intK)) : bodyT ((cfg w0).at cs46) 40 [ldP 0 (fnOf Tryz.f46).ntmps rel46 .normal (st46 [g1] g1.l.length p)] 40 (fnOf Tryz.f46) [slG [g1]] = tb46 [g1] p := by kernel_rfl
theorem round52_1 (g1 : Gr) (j : Int) (o : List (Tup intK)) : rndD ((cfg w0).at []) 60 [] 60 (fnOf Tryz.f52).ntmps rel52 (lpB 0 (fnOf Tryz.f52).body) (st52 [g1] (j, o)) = tree52 [g1] j o := by kernel_rfl
theorem body52_1 (g1 : Gr) (p : Int × List (Tup intK)) : bodyT ((cfg w0).at []) 40 [ldP 0 (fnOf Tryz.f52).ntmps rel52 .normal (st52 [g1] p)] 40 (fnOf Tryz.f52) [slG [g1]] = tb52 [g1] p := by kernel_rfl
theorem round136_1_0 (g1 : Gr) (wo j : Int) (o : List (Tup intK)) : rnd136 (w0 := w0) [g1] wo 0 j o = tree136 [g1] wo 0 g1 j o := by kernel_rfl
theorem run136_1 (g1 : Gr) (wo : Int) : bodyT ((cfg w0).at []) 60 [ld136] 60 (fnOf Tryz.f136) [slG [g1], I wo] = T136 [g1] wo := by kernel_rfl
theorem round128_2 (g1 g2 : Gr) (n j e : Int) (o : List (Tup intK)) : rndD ((cfg w0).at []) 60 [] 60 (fnOf Tryz.f128).ntmps rel128 (lpB 0 (fnOf Tryz.f128).body) (st128 [g1, g2] n (j, o, e)) = tree128 [g1, g2] n j o e := by kernel_rfl
theorem body128_2n (g1 g2 : Gr) (p : Int × (List (Tup intK) × Int)) : bodyT ((cfg w0).at []) 40 [ldP 0 (fnOf Tryz.f128).ntmps rel128 .normal (st128 [g1, g2] g1.l.length p)] 40 (fnOf Tryz.f128) [slG [g1, g2]] = tb128 [g1, g2] .normal p := by kernel_rfl
theorem body128_2r (g1 g2 : Gr) (p : Int × (List (Tup intK) × Int)) : bodyT ((cfg w0).at []) 40 [ldP 0 (fnOf Tryz.f128).ntmps rel128 .ret (st128 [g1, g2] g1.l.length p)] 40 (fnOf Tryz.f128) [slG [g1, g2]] = tb128 [g1, g2] .ret p := by kernel_rfl
theorem round46_2 (g1 g2 : Gr) (n j : Int) (o : List (Tup intK)) : rndD ((cfg w0).at cs46) 60 [] 60 (fnOf Tryz.f46).ntmps rel46 (lpB 0 (fnOf Tryz.f46).body) (st46 [g1, g2] n (j, o)) = tree46 [g1, g2] n j o := by kernel_rfl
theorem body46_2 (g1 g2 : Gr) (p : Int × List (Tup intK)) : bodyT ((cfg w0).at cs46) 40 [ldP 0 (fnOf Tryz.f46).ntmps rel46 .normal (st46 [g1, g2] g1.l.length p)] 40 (fnOf Tryz.f46) [slG [g1, g2]] = tb46 [g1, g2] p := by kernel_rfl
theorem round52_2 (g1 g2 : Gr) (j : Int) (o : List (Tup intK)) : rndD ((cfg w0).at []) 60 [] 60 (fnOf Tryz.f52).ntmps rel52 (lpB 0 (fnOf Tryz.f52).body) (st52 [g1, g2] (j, o)) = tree52 [g1, g2] j o := by kernel_rfl
theorem body52_2 (g1 g2 : Gr) (p : Int × List (Tup intK)) : bodyT ((cfg w0).at []) 40 [ldP 0 (fnOf Tryz.f52).ntmps rel52 .normal (st52 [g1, g2] p)] 40 (fnOf Tryz.f52) [slG [g1, g2]] = tb52 [g1, g2] p := by kernel_rfl
theorem round136_2_0 (g1 g2 : Gr) (wo j : Int) (o : List (Tup intK)) : rnd136 (w0 := w0) [g1, g2] wo 0 j o = tree136 [g1, g2] wo 0 g1 j o := by kernel_rfl
theorem round136_2_1 (g1 g2 : Gr) (wo j : Int) (o : List (Tup intK)) : rnd136 (w0 := w0) [g1, g2] wo 1 j o = tree136 [g1, g2] wo 1 g2 j o := by kernel_rfl
theorem run136_2 (g1 g2 : Gr) (wo : Int) : bodyT ((cfg w0).at []) 60 [ld136] 60 (fnOf Tryz.f136) [slG [g1, g2], I wo] = T136 [g1, g2] wo := by kernel_rfl
theorem round128_3 (g1 g2 g3 : Gr) (n j e : Int) (o : List (Tup intK)) : rndD ((cfg w0).at []) 60 [] 60 (fnOf Tryz.f128).ntmps rel128 (lpB 0 (fnOf Tryz.f128).body) (st128 [g1, g2, g3] n (j, o, e)) = tree128 [g1, g2, g3] n j o e := by kernel_rfl
theorem body128_3n (g1 g2 g3 : Gr) (p : Int × (List (Tup intK) × Int)) : bodyT ((cfg w0).at []) 40 [ldP 0 (fnOf Tryz.f128).ntmps rel128 .normal (st128 [g1, g2, g3] g1.l.length p)] 40 (fnOf Tryz.f128) [slG [g1, g2, g3]] = tb128 [g1, g2, g3] .normal p := by kernel_rfl
theorem body128_3r (g1 g2 g3 : Gr) (p : Int × (List (Tup intK) × Int)) : bodyT ((cfg w0).at []) 40 [ldP 0 (fnOf Tryz.f128).ntmps rel128 .ret (st128 [g1, g2, g3] g1.l.length p)] 40 (fnOf Tryz.f128) [slG [g1, g2, g3]] = tb128 [g1, g2, g3] .ret p := by kernel_rfl
theorem round46_3 (g1 g2 g3 : Gr) (n j : Int) (o : List (Tup intK)) : rndD ((cfg w0).at cs46) 60 [] 60 (fnOf Tryz.f46).ntmps rel46 (lpB 0 (fnOf Tryz.f46).body) (st46 [g1, g2, g3] n (j, o)) = tree46 [g1, g2, g3] n j o := by kernel_rfl
theorem body46_3 (g1 g2 g3 : Gr) (p : Int × List (Tup intK)) : bodyT ((cfg w0).at cs46) 40 [ldP 0 (fnOf Tryz.f46).ntmps rel46 .normal (st46 [g1, g2, g3] g1.l.length p)] 40 (fnOf Tryz.f46) [slG [g1, g2, g3]] = tb46 [g1, g2, g3] p := by kernel_rfl
theorem round52_3 (g1 g2 g3 : Gr) (j : Int) (o : List (Tup intK)) : rndD ((cfg w0).at []) 60 [] 60 (fnOf Tryz.f52).ntmps rel52 (lpB 0 (fnOf Tryz.f52).body) (st52 [g1, g2, g3] (j, o)) = tree52 [g1, g2, g3] j o := by kernel_rfl
theorem body52_3 (g1 g2 g3 : Gr) (p : Int × List (Tup intK)) : bodyT ((cfg w0).at []) 40 [ldP 0 (fnOf Tryz.f52).ntmps rel52 .normal (st52 [g1, g2, g3] p)] 40 (fnOf Tryz.f52) [slG [g1, g2, g3]] = tb52 [g1, g2, g3] p := by kernel_rfl
theorem round136_3_0 (g1 g2 g3 : Gr) (wo j : Int) (o : List (Tup intK)) : rnd136 (w0 := w0) [g1, g2, g3] wo 0 j o = tree136 [g1, g2, g3] wo 0 g1 j o := by kernel_rfl
theorem round136_3_1 (g1 g2 g3 : Gr) (wo j : Int) (o : List (Tup intK)) : rnd136 (w0 := w0) [g1, g2, g3] wo 1 j o = tree136 [g1, g2, g3] wo 1 g2 j o := by kernel_rfl
theorem round136_3_2 (g1 g2 g3 : Gr) (wo j : Int) (o : List (Tup intK)) : rnd136 (w0 := w0) [g1, g2, g3] wo 2 j o = tree136 [g1, g2, g3] wo 2 g3 j o := by kernel_rfl
theorem run136_3 (g1 g2 g3 : Gr) (wo : Int) : bodyT ((cfg w0).at []) 60 [ld136] 60 (fnOf Tryz.f136) [slG [g1, g2, g3], I wo] = T136 [g1, g2, g3] wo := by kernel_rfl
theorem round128_4 (g1 g2 g3 g4 : Gr) (n j e : Int) (o : List (Tup intK)) : rndD ((cfg w0).at []) 60 [] 60 (fnOf Tryz.f128).ntmps rel128 (lpB 0 (fnOf Tryz.f128).body) (st128 [g1, g2, g3, g4] n (j, o, e)) = tree128 [g1, g2, g3, g4] n j o e := by kernel_rfl
theorem body128_4n (g1 g2 g3 g4 : Gr) (p : Int × (List (Tup intK) × Int)) : bodyT ((cfg w0).at []) 40 [ldP 0 (fnOf Tryz.f128).ntmps rel128 .normal (st128 [g1, g2, g3, g4] g1.l.length p)] 40 (fnOf Tryz.f128) [slG [g1, g2, g3, g4]] = tb128 [g1, g2, g3, g4] .normal p := by kernel_rfl
theorem body128_4r (g1 g2 g3 g4 : Gr) (p : Int × (List (Tup intK) × Int)) : bodyT ((cfg w0).at []) 40 [ldP 0 (fnOf Tryz.f128).ntmps rel128 .ret (st128 [g1, g2, g3, g4] g1.l.length p)] 40 (fnOf Tryz.f128) [slG [g1, g2, g3, g4]] = tb128 [g1, g2, g3, g4] .ret p := by kernel_rfl
theorem round46_4 (g1 g2 g3 g4 : Gr) (n j : Int) (o : List (Tup intK)) : rndD ((cfg w0).at cs46) 60 [] 60 (fnOf Tryz.f46).ntmps rel46 (lpB 0 (fnOf Tryz.f46).body) (st46 [g1, g2, g3, g4] n (j, o)) = tree46 [g1, g2, g3, g4] n j o := by kernel_rfl
theorem body46_4 (g1 g2 g3 g4 : Gr) (p : Int × List (Tup intK)) : bodyT ((cfg w0).at cs46) 40 [ldP 0 (fnOf Tryz.f46).ntmps rel46 .normal (st46 [g1, g2, g3, g4] g1.l.length p)] 40 (fnOf Tryz.f46) [slG [g1, g2, g3, g4]] = tb46 [g1, g2, g3, g4] p := by kernel_rfl
theorem round52_4 (g1 g2 g3 g4 : Gr) (j : Int) (o : List (Tup intK)) : rndD ((cfg w0).at []) 60 [] 60 (fnOf Tryz.f52).ntmps rel52 (lpB 0 (fnOf Tryz.f52).body) (st52 [g1, g2, g3, g4] (j, o)) = tree52 [g1, g2, g3, g4] j o := by kernel_rfl
theorem body52_4 (g1 g2 g3 g4 : Gr) (p : Int × List (Tup intK)) : bodyT ((cfg w0).at []) 40 [ldP 0 (fnOf Tryz.f52).ntmps rel52 .normal (st52 [g1, g2, g3, g4] p)] 40 (fnOf Tryz.f52) [slG [g1, g2, g3, g4]] = tb52 [g1, g2, g3, g4] p := by kernel_rfl
theorem round136_4_0 (g1 g2 g3 g4 : Gr) (wo j : Int) (o : List (Tup intK)) : rnd136 (w0 := w0) [g1, g2, g3, g4] wo 0 j o = tree136 [g1, g2, g3, g4] wo 0 g1 j o := by kernel_rfl
theorem round136_4_1 (g1 g2 g3 g4 : Gr) (wo j : Int) (o : List (Tup intK)) : rnd136 (w0 := w0) [g1, g2, g3, g4] wo 1 j o = tree136 [g1, g2, g3, g4] wo 1 g2 j o := by kernel_rfl
theorem round136_4_2 (g1 g2 g3 g4 : Gr) (wo j : Int) (o : List (Tup intK)) : rnd136 (w0 := w0) [g1, g2, g3, g4] wo 2 j o = tree136 [g1, g2, g3, g4] wo 2 g3 j o := by kernel_rfl
theorem round136_4_3 (g1 g2 g3 g4 : Gr) (wo j : Int) (o : List (Tup intK)) : rnd136 (w0 := w0) [g1, g2, g3, g4] wo 3 j o = tree136 [g1, g2, g3, g4] wo 3 g4 j o := by kernel_rfl
theorem run136_4 (g1 g2 g3 g4 : Gr) (wo : Int) : bodyT ((cfg w0).at []) 60 [ld136] 60 (fnOf Tryz.f136) [slG [g1, g2, g3, g4], I wo] = T136 [g1, g2, g3, g4] wo := by kernel_rfl
end
end Go.Proofs.YthcpfignhalffaaGreatDoor
