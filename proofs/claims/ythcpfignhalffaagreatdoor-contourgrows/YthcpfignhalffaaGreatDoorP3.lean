/-
 A part of the proof of the statement that the claim names: see the last file.
-/
import Derived.Test.YthcpfignhalffaaGreatDoorC7
import Derived.Test.YthcpfignhalffaaGreatDoorP2
namespace Go.Proofs.YthcpfignhalffaaGreatDoor
open Go Go.Am
set_option maxRecDepth 100000
variable {w0 : World}
noncomputable section
abbrev Rn := Option (Obs × X × List D)
def inO (o : List (Tup intK)) (j : Int) : Bool := Nat.beq 1 1 && (decide (0 ≤ j) && decide (j < o.length))
theorem inO_nat {o : List (Tup intK)} {j : Nat} (h : j < o.length) : inO o (j : Int) = true := inb 1 h
abbrev flK : List Kd := [boK]
def b1 (x : Tup flK) : Bool := x.1
def tb1 (b : Bool) : Tup flK := (b, ())
def abE (n : Int) (x : Tup intK) : Tup flK := tb1 (decide (levR (i1 x) ≥ n))
def relAb : List (Nat × Cv) := [(8, .id), (9, .id), (10, .id), (5, .ov flK), (1, .id)]
def stAb (n : Int) (l : List (Tup intK)) (a : Int × List (Tup flK)) : List D := [.vec intK l, I l.length, I a.1, .ovec flK a.2, .fn 168 [] [.box [I n]]]
theorem round167 (n j : Int) (l : List (Tup intK)) (o : List (Tup flK)) : rndD ((cfg w0).at [c124]) 40 [] 40 (fnOf Tryz.f167).ntmps relAb (lpB 0 (fnOf Tryz.f167).body) (stAb n l (j, o)) =
  bif decide (j < l.length) then bif inO l j then
   bif (Nat.ble ((o ++ [abE n (nth l j.toNat)]).length * 1) 1000000000000 && Nat.ble (o ++ [abE n (nth l j.toNat)]).length 1000000000000) then some ([], .normal, stAb n l (W (j + 1), o ++ [abE n (nth l j.toNat)])) else none
  else none else some ([], .exit 0, stAb n l (j, o)) := by kernel_rfl
theorem body167 (n : Int) (l : List (Tup intK)) (p : Int × List (Tup flK)) : bodyT ((cfg w0).at [c124]) 40 [ldP 0 (fnOf Tryz.f167).ntmps relAb .normal (stAb n l p)] 40 (fnOf Tryz.f167) [.vec intK l, .fn 168 [] [.box [I n]]] =
  some ([(ldP 0 (fnOf Tryz.f167).ntmps relAb .normal (stAb n l p), .loop (lpB 0 (fnOf Tryz.f167).body), stAb n l (0, []))], .vec flK p.2) := by kernel_rfl
theorem fn167 (h0 : Lib0 w0) (n : Int) (l : List (Tup intK)) (hg : l.length ≤ 100000) : FnD (cfg w0) 167 [.vec intK l, .fn 168 [] [.box [I n]]] (.vec flK (l.map (abE n))) := by
 refine fn_ls h0 (cs := [c124]) ⟨gd124 h0, trivial⟩ (fd := fnOf Tryz.f167) rfl relAb l (by omega) (stAb n l) (fun w a => (X.normal, a ++ [abE n w])) (fun j a => a.length = j) (a0 := []) rfl
  (fun j a hj hi => .leaf (by
   have hi : a.length = j := hi
   rw [round167, inO_nat hj, lt_t hj, Int.toNat_natCast, room (by omega) (by omega)]
   rfl)) (fun j a a' _ hi h => by cases h; simp [hi])
  (fun a _ => .leaf (by rw [round167, ge_f]; rfl)) fun x p hx => ?_
 rw [lsRun_fold (h := fun w b => b ++ [abE n w]) 0 l 0 [] (fun _ _ _ => rfl), foldl_snoc (abE n)] at hx
 cases hx
 exact body167 n l _
def asCl (d : D) : Option Int := match d with
 | .fn 168 [] [.box [.val (.int .i64 n)]] => some n
 | _ => none
theorem asCl_eq {d : D} {n : Int} (h : asCl d = some n) : d = .fn 168 [] [.box [I n]] := by
 unfold asCl at h
 split at h
 ·cases h; rfl
 ·cases h
def c167 : Ct := ct 167 [.v intK, .x] fun a => match asCl a.2.1 with
 | some n => .br (Nat.ble (a.1 : List (Tup intK)).length 100000) (.leaf (.vec flK ((a.1 : List (Tup intK)).map (abE n)))) .bad
 | none => .bad
theorem gd167 (h0 : Lib0 w0) : Gd (cfg w0) c167 := gd_sig fun a d hd => by
 obtain ⟨l, f, u⟩ := a
 simp only at hd
 cases hb : asCl f with
 | none => rw [hb] at hd; cases hd
 | some n =>
   rw [hb] at hd
   obtain ⟨hg, hd⟩ := br_run hd
   cases hd
   cases asCl_eq hb
   exact fn167 h0 n l (Nat.le_of_ble_eq_true hg)
theorem run102 (g : Gr) (n : Int) : bodyK ((cfg w0).at [c167]) 40 (fnOf Tryz.f102) [gD g, I n] = bif smG g then some (.vec flK (g.l.map (abE n))) else none := by cases g; kernel_rfl
def c102 : Ct := gC 102 [.c ik] fun g a => .br (smG g) (.leaf (.vec flK (g.l.map (abE a.1)))) .bad
theorem gd102 (h0 : Lib0 w0) : Gd (cfg w0) c102 := gd_g fun g a d hd => by
 obtain ⟨hg, hd⟩ := br_run hd
 cases hd
 refine fnD_k (cfg_ok w0) h0 (cs := [c167]) ⟨gd167 h0, trivial⟩ (fd := fnOf Tryz.f102) rfl (n := 40) ((run102 g a.1).trans ?_)
 rw [hg]; rfl
end
end Go.Proofs.YthcpfignhalffaaGreatDoor
namespace Go.Proofs.YthcpfignhalffaaGreatDoor
open Go Go.Am
set_option maxRecDepth 100000
variable {w0 : World}
noncomputable section
def GI (j : Int) (k : Rn) : List Gr → Rn
 | [] => k
 | g :: gs => bif inK g j then GI j k gs else none
def roomI (o : List (Tup intK)) : Bool := Nat.ble (o.length * 8) 1000000000000 && Nat.ble o.length 1000000000000
def mkI (n : Nat) : Bool := decide (0 ≤ (n : Int)) && (decide ((n : Int) = (n : Int)) && (decide ((n : Int) ≤ 10000000) && (Nat.ble ((n : Int).toNat * 1) 10000000 && Nat.ble ((n : Int).toNat * 8) 1000000000000)))
def zerI (n : Nat) : List (Tup intK) := List.replicate (n : Int).toNat (t1 0)
def hdL (gs : List Gr) : Nat := match gs with
 | [] => 0
 | g :: _ => g.l.length
def rel128 : List (Nat × Cv) := [(0, .id), (4, .id), (13, .id), (14, .id), (2, .id), (3, .id)]
def st128 (gs : List Gr) (n : Int) (p : Int × (List (Tup intK) × Int)) : List D := [slG gs, .ovec intK p.2.1, I n, I p.1, nilD, I p.2.2]
def set128 (gs : List Gr) (j : Nat) (o : List (Tup intK)) : List (Tup intK) := o.set j (t1 (sumI gs j))
def tree128 (gs : List Gr) (n j : Int) (o : List (Tup intK)) (e : Int) : Rn :=
 bif decide (j < n) then GI j (bif inO o j then bif inO o j then
   bif decide (i1 (nth (set128 gs j.toNat o) j.toNat) > maxE) then some ([], .ret, st128 gs n (j, set128 gs j.toNat o, 4)) else some ([], .normal, st128 gs n (W (j + 1), set128 gs j.toNat o, e))
  else none else none) gs
 else some ([], .exit 0, st128 gs n (j, o, e))
def tb128 (gs : List Gr) (x : X) (p : Int × (List (Tup intK) × Int)) : Option (Obs × D) :=
 bif mkI (hdL gs) then some ([(ldP 0 (fnOf Tryz.f128).ntmps rel128 x (st128 gs (hdL gs) p), .loop (lpB 0 (fnOf Tryz.f128).body), st128 gs (hdL gs) (0, zerI (hdL gs), 0))], onX x (.tup [nilD, I p.2.2]) (.tup [.vec intK p.2.1, I 0])) else none
def cs46 : List Ct := [chkGsC 127]
def rel46 : List (Nat × Cv) := [(0, .id), (21, .id), (22, .id), (5, .ov intK)]
def st46 (gs : List Gr) (n : Int) (p : Int × List (Tup intK)) : List D := [slG gs, I n, I p.1, .ovec intK p.2]
def G46 (all : List Gr) (n j : Int) (o : List (Tup intK)) : Int → Int → Int → List Gr → Rn
 | _, b, _, [] => bif roomI (o ++ [t1 b]) then some ([], .normal, st46 all n (W (j + 1), o ++ [t1 b])) else none
 | k, b, m, g :: gs => bif inK g j then
   bif decide (i1 (nth g.l j.toNat) > m) then G46 all n j o (W (k + 1)) k (i1 (nth g.l j.toNat)) gs else G46 all n j o (W (k + 1)) b m gs
  else none
def tree46 (gs : List Gr) (n j : Int) (o : List (Tup intK)) : Rn := bif decide (j < n) then G46 gs n j o 0 (-1) 0 gs else some ([], .exit 0, st46 gs n (j, o))
def tb46 (gs : List Gr) (p : Int × List (Tup intK)) : Option (Obs × D) :=
 bif smGs gs then
  bif chkGs gs != 0 then some ([], .tup [nilD, I (chkGs gs)]) else
  some ([(ldP 0 (fnOf Tryz.f46).ntmps rel46 .normal (st46 gs (hdL gs) p), .loop (lpB 0 (fnOf Tryz.f46).body), st46 gs (hdL gs) (0, []))], .tup [.vec intK p.2, I 0])
 else none
def adE (g : Gr) (j : Nat) (x : Tup intK) : Tup intK := t1 (W (i1 x + i1 (nth g.l j)))
theorem round128_1 (g1 : Gr) (n j e : Int) (o : List (Tup intK)) : rndD ((cfg w0).at []) 60 [] 60 (fnOf Tryz.f128).ntmps rel128 (lpB 0 (fnOf Tryz.f128).body) (st128 [g1] n (j, o, e)) = tree128 [g1] n j o e := by kernel_rfl
theorem body128_1n (g1 : Gr) (p : Int × (List (Tup intK) × Int)) : bodyT ((cfg w0).at []) 40 [ldP 0 (fnOf Tryz.f128).ntmps rel128 .normal (st128 [g1] g1.l.length p)] 40 (fnOf Tryz.f128) [slG [g1]] = tb128 [g1] .normal p := by kernel_rfl
theorem body128_1r (g1 : Gr) (p : Int × (List (Tup intK) × Int)) : bodyT ((cfg w0).at []) 40 [ldP 0 (fnOf Tryz.f128).ntmps rel128 .ret (st128 [g1] g1.l.length p)] 40 (fnOf Tryz.f128) [slG [g1]] = tb128 [g1] .ret p := by kernel_rfl
theorem round46_1 (g1 : Gr) (n j : Int) (o : List (Tup intK)) : rndD ((cfg w0).at cs46) 60 [] 60 (fnOf Tryz.f46).ntmps rel46 (lpB 0 (fnOf Tryz.f46).body) (st46 [g1] n (j, o)) = tree46 [g1] n j o := by kernel_rfl
theorem body46_1 (g1 : Gr) (p : Int × List (Tup intK)) : bodyT ((cfg w0).at cs46) 40 [ldP 0 (fnOf Tryz.f46).ntmps rel46 .normal (st46 [g1] g1.l.length p)] 40 (fnOf Tryz.f46) [slG [g1]] = tb46 [g1] p := by kernel_rfl
theorem round128_2 (g1 g2 : Gr) (n j e : Int) (o : List (Tup intK)) : rndD ((cfg w0).at []) 60 [] 60 (fnOf Tryz.f128).ntmps rel128 (lpB 0 (fnOf Tryz.f128).body) (st128 [g1, g2] n (j, o, e)) = tree128 [g1, g2] n j o e := by kernel_rfl
theorem body128_2n (g1 g2 : Gr) (p : Int × (List (Tup intK) × Int)) : bodyT ((cfg w0).at []) 40 [ldP 0 (fnOf Tryz.f128).ntmps rel128 .normal (st128 [g1, g2] g1.l.length p)] 40 (fnOf Tryz.f128) [slG [g1, g2]] = tb128 [g1, g2] .normal p := by kernel_rfl
theorem body128_2r (g1 g2 : Gr) (p : Int × (List (Tup intK) × Int)) : bodyT ((cfg w0).at []) 40 [ldP 0 (fnOf Tryz.f128).ntmps rel128 .ret (st128 [g1, g2] g1.l.length p)] 40 (fnOf Tryz.f128) [slG [g1, g2]] = tb128 [g1, g2] .ret p := by kernel_rfl
theorem round46_2 (g1 g2 : Gr) (n j : Int) (o : List (Tup intK)) : rndD ((cfg w0).at cs46) 60 [] 60 (fnOf Tryz.f46).ntmps rel46 (lpB 0 (fnOf Tryz.f46).body) (st46 [g1, g2] n (j, o)) = tree46 [g1, g2] n j o := by kernel_rfl
theorem body46_2 (g1 g2 : Gr) (p : Int × List (Tup intK)) : bodyT ((cfg w0).at cs46) 40 [ldP 0 (fnOf Tryz.f46).ntmps rel46 .normal (st46 [g1, g2] g1.l.length p)] 40 (fnOf Tryz.f46) [slG [g1, g2]] = tb46 [g1, g2] p := by kernel_rfl
theorem round128_3 (g1 g2 g3 : Gr) (n j e : Int) (o : List (Tup intK)) : rndD ((cfg w0).at []) 60 [] 60 (fnOf Tryz.f128).ntmps rel128 (lpB 0 (fnOf Tryz.f128).body) (st128 [g1, g2, g3] n (j, o, e)) = tree128 [g1, g2, g3] n j o e := by kernel_rfl
theorem body128_3n (g1 g2 g3 : Gr) (p : Int × (List (Tup intK) × Int)) : bodyT ((cfg w0).at []) 40 [ldP 0 (fnOf Tryz.f128).ntmps rel128 .normal (st128 [g1, g2, g3] g1.l.length p)] 40 (fnOf Tryz.f128) [slG [g1, g2, g3]] = tb128 [g1, g2, g3] .normal p := by kernel_rfl
theorem body128_3r (g1 g2 g3 : Gr) (p : Int × (List (Tup intK) × Int)) : bodyT ((cfg w0).at []) 40 [ldP 0 (fnOf Tryz.f128).ntmps rel128 .ret (st128 [g1, g2, g3] g1.l.length p)] 40 (fnOf Tryz.f128) [slG [g1, g2, g3]] = tb128 [g1, g2, g3] .ret p := by kernel_rfl
theorem round46_3 (g1 g2 g3 : Gr) (n j : Int) (o : List (Tup intK)) : rndD ((cfg w0).at cs46) 60 [] 60 (fnOf Tryz.f46).ntmps rel46 (lpB 0 (fnOf Tryz.f46).body) (st46 [g1, g2, g3] n (j, o)) = tree46 [g1, g2, g3] n j o := by kernel_rfl
theorem body46_3 (g1 g2 g3 : Gr) (p : Int × List (Tup intK)) : bodyT ((cfg w0).at cs46) 40 [ldP 0 (fnOf Tryz.f46).ntmps rel46 .normal (st46 [g1, g2, g3] g1.l.length p)] 40 (fnOf Tryz.f46) [slG [g1, g2, g3]] = tb46 [g1, g2, g3] p := by kernel_rfl
theorem round128_4 (g1 g2 g3 g4 : Gr) (n j e : Int) (o : List (Tup intK)) : rndD ((cfg w0).at []) 60 [] 60 (fnOf Tryz.f128).ntmps rel128 (lpB 0 (fnOf Tryz.f128).body) (st128 [g1, g2, g3, g4] n (j, o, e)) = tree128 [g1, g2, g3, g4] n j o e := by kernel_rfl
theorem body128_4n (g1 g2 g3 g4 : Gr) (p : Int × (List (Tup intK) × Int)) : bodyT ((cfg w0).at []) 40 [ldP 0 (fnOf Tryz.f128).ntmps rel128 .normal (st128 [g1, g2, g3, g4] g1.l.length p)] 40 (fnOf Tryz.f128) [slG [g1, g2, g3, g4]] = tb128 [g1, g2, g3, g4] .normal p := by kernel_rfl
theorem body128_4r (g1 g2 g3 g4 : Gr) (p : Int × (List (Tup intK) × Int)) : bodyT ((cfg w0).at []) 40 [ldP 0 (fnOf Tryz.f128).ntmps rel128 .ret (st128 [g1, g2, g3, g4] g1.l.length p)] 40 (fnOf Tryz.f128) [slG [g1, g2, g3, g4]] = tb128 [g1, g2, g3, g4] .ret p := by kernel_rfl
theorem round46_4 (g1 g2 g3 g4 : Gr) (n j : Int) (o : List (Tup intK)) : rndD ((cfg w0).at cs46) 60 [] 60 (fnOf Tryz.f46).ntmps rel46 (lpB 0 (fnOf Tryz.f46).body) (st46 [g1, g2, g3, g4] n (j, o)) = tree46 [g1, g2, g3, g4] n j o := by kernel_rfl
theorem body46_4 (g1 g2 g3 g4 : Gr) (p : Int × List (Tup intK)) : bodyT ((cfg w0).at cs46) 40 [ldP 0 (fnOf Tryz.f46).ntmps rel46 .normal (st46 [g1, g2, g3, g4] g1.l.length p)] 40 (fnOf Tryz.f46) [slG [g1, g2, g3, g4]] = tb46 [g1, g2, g3, g4] p := by kernel_rfl
end
end Go.Proofs.YthcpfignhalffaaGreatDoor
