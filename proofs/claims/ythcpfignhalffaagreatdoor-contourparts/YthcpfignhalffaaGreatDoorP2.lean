/-
 A part of the proof of the statement that the claim names: see the last file.
-/
import Derived.Test.YthcpfignhalffaaGreatDoorP1
import Derived.Test.YthcpfignhalffaaGreatDoorAm5
import Derived.Test.YthcpfignhalffaaGreatDoorC6
namespace Go.Proofs.YthcpfignhalffaaGreatDoor
open Go Go.Am Go.RowKit
set_option maxRecDepth 100000
variable {w0 : World}
noncomputable section
abbrev lsK : List Kd := [.list intK]
abbrev Rws := List (Tup lsK)
abbrev cgN (w0 : World) : Cfg := (cfg w0).onH [nmC]
def wGrid : ByteArray := ⟨#[103, 114, 105, 100]⟩
def wRow : ByteArray := ⟨#[114, 111, 119]⟩
def keep2 : List Nat := [2, 3, 4, 6, 7, 8, 11, 12]
theorem cgN_ok (w0 : World) : CfgOk (cgN w0) := Cfg.onH_ok (cfg_ok w0) [nmC]
theorem cgN_sp (h0 : Lib0 w0) : SpecOK (cgN w0) := specs_onH h0 ⟨gdH160 h0, trivial⟩
abbrev Rn' := Option (Obs × X × List D)
def gN (b : Bool) (k : Rn') : Rn' := bif b then k else none
def rmI (o : List (Tup intK)) : Bool := Nat.ble (o.length * 8) 1000000000000 && Nat.ble o.length 1000000000000
abbrev Wst := List (Tup intK) × SLs × Bool
def nxW (a : Wst) : Wst := (a.1 ++ [t1 (isN a.2.1 0).1], (a.2.1.drop (0 + 1)).take (a.2.1.length - 1), nmB a.2.1 0 a.2.2)
abbrev N87 : Nat := (fnOf Tryz.f87).ntmps
def rel2 : List (Nat × Cv) := relH 54 53 15 14000014 intK keep2
def B2 : Code := lpB 2 (rfBd (fnOf Tryz.f87).body)
def cgR (w0 : World) : Cfg := { (cgN w0).at [] with inr := true }
theorem cgR_ok (w0 : World) : CfgOk (cgR w0) := have ok := at_ok (cgN_ok w0) []; ⟨ok.ty, ok.fn, ok.mixed⟩
theorem cgR_sp (h0 : Lib0 w0) : SpecOK (cgR w0) := (at_sp (cgN_sp h0) (cs := []) trivial : SpecOK ((cgN w0).at []))
def xW (i n : Int) (a : Wst) : HkX intK sK1 := ⟨.int .i64 i, .int .i64 n, a.1, a.2.1, .bool a.2.2⟩
theorem round2 (n i : Int) (a : Wst) (u1 u2 u3 u4 u5 u6 u7 u8 : Value) : rndD (cgR w0) 40 [] 40 N87 rel2 B2 (stH 160 (xW i n a) [u1, u2, u3, u4, u5, u6, u7, u8]) =
  bif decide (i < n) then gN (Nat.blt 0 a.2.1.length) (gN (rmI (a.1 ++ [t1 (isN a.2.1 0).1])) (some ([], .normal, stH 160 (xW (IntKind.i64.wrap (i + 1)) n (nxW a)) [u1, u2, u3, u4, u5, u6, u7, u8]))) else some ([], .exit 2, stH 160 (xW i n a) [u1, u2, u3, u4, u5, u6, u7, u8]) := by
 kernel_rfl
end
end Go.Proofs.YthcpfignhalffaaGreatDoor
namespace Go.Proofs.YthcpfignhalffaaGreatDoor
open Go Go.Am Go.RowKit
set_option maxRecDepth 100000
variable {w0 : World}
noncomputable section
abbrev lsQ : List Kd := [.list intK]
abbrev RwQ := List (Tup lsQ)
def rl161a : List (Nat × Cv) := [(11, .id), (10, .id), (3, .id), (9, .id), (0, .id)]
def st161a (rows : RwQ) (a : Int × Int) : List D := [I a.1, I (rows.length : Nat), I a.2, .vec lsQ rows, .vec lsQ rows]
def rl161b : List (Nat × Cv) := [(27, .id), (26, .id), (25, .id), (6, .pt)]
def st161b (rows : RwQ) (a : Int × List (Tup intK) × Nat) : List D := [I a.1, I (rows.length : Nat), .vec lsQ rows, .opt intK a.2.1 a.2.2]
def inRq (rows : RwQ) (i : Int) : Bool := Nat.beq 1 1 && (decide (0 ≤ i) && decide (i < rows.length))
def rwN (rows : RwQ) (i : Int) : List (Tup intK) := (nth rows (i.toNat + 0)).1
end
end Go.Proofs.YthcpfignhalffaaGreatDoor
namespace Go.Proofs.YthcpfignhalffaaGreatDoor
open Go Go.Am Go.RowKit
set_option maxRecDepth 100000
variable {w0 : World}
noncomputable section
def cfgQ (w0 : World) : Cfg := (cfg w0).onI [196]
theorem cfgQ_ok (w0 : World) : CfgOk (cfgQ w0) := Cfg.onI_ok (cfg_ok w0) [196]
theorem cfgQ_sp (h0 : Lib0 w0) : SpecOK (cfgQ w0) := specs_onI h0 [196]
abbrev TLi := List (Tup intK)
def rowQ (x : Tup lsQ) : TLi := x.1
def flQ : RwQ → TLi
 | [] => []
 | r :: rows => rowQ r ++ flQ rows
theorem flQ_app : ∀ (a b : RwQ), flQ (a ++ b) = flQ a ++ flQ b
 | [], b => rfl
 | r :: a, b => by
   show rowQ r ++ flQ (a ++ b) = (rowQ r ++ flQ a) ++ flQ b
   rw [flQ_app a b, List.append_assoc]
theorem flQ_nil : flQ [] = [] := rfl
theorem Wid {n : Int} (h1 : -9223372036854775808 ≤ n) (h2 : n ≤ 9223372036854775807) : IntKind.i64.wrap n = n := by
 rw [IntKind.wrap_i64]
 omega
theorem round161a' (rows : RwQ) (i n : Int) : rndD ((cfgQ w0).at []) 40 [] 40 (fnOf Tryz.f161).ntmps rl161a (lpB 0 (fnOf Tryz.f161).body) (st161a rows (i, n)) =
  bif decide (i < (rows.length : Nat)) then bif inRq rows i then bif decide (IntKind.i64.wrap (n + ((rwN rows i).length : Nat)) < 0) then none else some ([], .normal, st161a rows (IntKind.i64.wrap (i + 1), IntKind.i64.wrap (n + ((rwN rows i).length : Nat)))) else none
  else some ([], .exit 0, st161a rows (i, n)) := by kernel_rfl
theorem round161b' (rows : RwQ) (i : Int) (l : List (Tup intK)) (n : Nat) : rndD ((cfgQ w0).at []) 40 [] 40 (fnOf Tryz.f161).ntmps rl161b (lpB 2 (fnOf Tryz.f161).body) (st161b rows (i, l, n)) =
  bif decide (i < (rows.length : Nat)) then bif inRq rows i then bif Nat.ble (0 + n + (rwN rows i).length) l.length then some ([], .normal, st161b rows (IntKind.i64.wrap (i + 1), setAt l (0 + n) (rwN rows i), n + (rwN rows i).length)) else none else none
  else some ([], .exit 2, st161b rows (i, l, n)) := by kernel_rfl
def rl161c : List (Nat × Cv) := [(27, .id), (26, .id), (25, .id), (6, .ov intK)]
def st161c (rows : RwQ) (a : Int × TLi) : List D := [I a.1, I (rows.length : Nat), .vec lsQ rows, .ovec intK a.2]
def rmQ (o : TLi) : Bool := Nat.ble (o.length * 8) 1000000000000 && Nat.ble o.length 1000000000000
theorem round161c (rows : RwQ) (i : Int) (l : TLi) : rndD ((cfgQ w0).at []) 40 [] 40 (fnOf Tryz.f161).ntmps rl161c (lpB 2 (fnOf Tryz.f161).body) (st161c rows (i, l)) =
  bif decide (i < (rows.length : Nat)) then bif inRq rows i then bif rmQ (l ++ rwN rows i) then some ([], .normal, st161c rows (IntKind.i64.wrap (i + 1), l ++ rwN rows i)) else none else none
  else some ([], .exit 2, st161c rows (i, l)) := by kernel_rfl
def wzQ (n : Int) : Int := IntKind.i64.wrap (n - IntKind.i64.wrap (((0 : Nat) : Int) - ((0 : Nat) : Int)))
def mkQ (n : Int) : Bool := decide (0 < wzQ n) && (decide (wzQ n ≤ 10000000) && Nat.ble ((wzQ n).toNat * 8) 1000000000000)
def zsQ (n : Int) : TLi := List.replicate (wzQ n).toNat (((0 : Int), ()) : Tup intK)
def ldQa (rows : RwQ) (i n : Int) : Ld := ldP 0 (fnOf Tryz.f161).ntmps rl161a .normal (st161a rows (i, n))
def ldQb (rows : RwQ) (j : Int) (l : TLi) (m : Nat) : Ld := ldP 2 (fnOf Tryz.f161).ntmps rl161b .normal (st161b rows (j, l, m))
def ldQc (rows : RwQ) (j : Int) (l : TLi) : Ld := ldP 2 (fnOf Tryz.f161).ntmps rl161c .normal (st161c rows (j, l))
def lQ1 : Code := .loop (lpB 0 (fnOf Tryz.f161).body)
def lQ2 : Code := .loop (lpB 2 (fnOf Tryz.f161).body)
theorem body161p (rows : RwQ) (i n j : Int) (l : TLi) (m : Nat) : bodyT ((cfgQ w0).at []) 40 [ldQa rows i n, ldQb rows j l (m + 1)] 40 (fnOf Tryz.f161) [.vec lsQ rows] =
  bif decide (n < 0) then none else bif decide (wzQ n > 0) then bif mkQ n then
   some ([(ldQb rows j l (m + 1), lQ2, st161b rows (0, zsQ n, 0)), (ldQa rows i n, lQ1, st161a rows (0, 0))], .vec intK (List.take (m + 1) (List.drop 0 l))) else none else none := by kernel_rfl
theorem body161z (rows : RwQ) (i j : Int) (l : TLi) : bodyT ((cfgQ w0).at []) 40 [ldQa rows i 0, ldQc rows j l] 40 (fnOf Tryz.f161) [.vec lsQ rows] =
  some ([(ldQc rows j l, lQ2, st161c rows (0, [])), (ldQa rows i 0, lQ1, st161a rows (0, 0))], .vec intK l) := by kernel_rfl
theorem flQ_cons (r : Tup lsQ) (rows : RwQ) : flQ (r :: rows) = rowQ r ++ flQ rows := rfl
def stepQa (x : Tup lsQ) (a : Int) : X × Int := (.normal, a + (((rowQ x).length : Nat) : Int))
theorem foldQa : ∀ (rows : RwQ) (a : Int), rows.foldl (fun (b : Int) (x : Tup lsQ) => b + (((rowQ x).length : Nat) : Int)) a = a + ((flQ rows).length : Nat)
 | [], a => by simp [flQ_nil]
 | r :: rows, a => by rw [List.foldl_cons, foldQa rows, flQ_cons, List.length_append]; omega
theorem nthQ {rows : RwQ} {j : Nat} (hj : j < rows.length) : nth rows j = rows[j] := by
 unfold nth
 rw [List.getD_eq_getElem?_getD, List.getElem?_eq_getElem hj]; rfl
theorem flQ_take {rows : RwQ} {j : Nat} (hj : j < rows.length) : flQ (rows.take (j + 1)) = flQ (rows.take j) ++ rowQ (nth rows j) := by
 rw [nthQ hj, List.take_succ_eq_append_getElem hj, flQ_app, flQ_cons, flQ_nil, List.append_nil]
theorem flQ_take_le (rows : RwQ) (j : Nat) : (flQ (rows.take j)).length ≤ (flQ rows).length := by
 conv => rhs; rw [← List.take_append_drop j rows]
 rw [flQ_app, List.length_append]
 omega
theorem inRq_nat {rows : RwQ} {j : Nat} (hj : j < rows.length) : inRq rows (j : Int) = true := by
 unfold inRq
 rw [decide_eq_true (show (0 : Int) ≤ (j : Int) by omega), decide_eq_true (show (j : Int) < (rows.length : Nat) by omega)]
 rfl
theorem rwN_nat (rows : RwQ) (j : Nat) : rwN rows (j : Int) = rowQ (nth rows j) := by unfold rwN; rw [Int.toNat_natCast]; rfl
theorem ldA (h0 : Lib0 w0) (rows : RwQ) (hr : rows.length ≤ 100000) (hn : (flQ rows).length ≤ 100000) :
  LdT ((cfgQ w0).at []) (ldQa rows (rows.length : Nat) ((flQ rows).length : Nat)) lQ1 (st161a rows (0, 0)) := by
 have hx : lsRun 0 stepQa rows 0 0 = (.exit 0, (((0 + rows.length : Nat) : Int), (((flQ rows).length : Nat) : Int))) := by
  rw [lsRun_fold (g := stepQa) (h := fun (x : Tup lsQ) (b : Int) => b + (((rowQ x).length : Nat) : Int)) 0 rows 0 0 (fun _ _ _ => rfl), foldQa, Int.zero_add]
 have := ldT_ls (at_ok (cfgQ_ok w0) []) (at_sp (cfgQ_sp h0) (cs := []) trivial) (N := (fnOf Tryz.f161).ntmps) (rel := rl161a) (B := lpB 0 (fnOf Tryz.f161).body) (id := 0) rows (by omega) (st161a rows) stepQa
  (fun j a => a = (((flQ (rows.take j)).length : Nat) : Int))
  (fun j a hj ha => .leaf (by
   have e := flQ_take hj
   have e2 := flQ_take_le rows (j + 1)
   have e3 : (flQ (rows.take (j + 1))).length = (flQ (rows.take j)).length + (rowQ (nth rows j)).length := by rw [e, List.length_append]
   rw [round161a', inRq_nat hj, decide_eq_true (show (j : Int) < (rows.length : Nat) by omega), rwN_nat, Wid (n := a + _) (by omega) (by omega), decide_eq_false (by omega)]
   rfl))
  (fun j a a' hj ha hs => by
   cases hs
   have e := flQ_take hj
   have e3 : (flQ (rows.take (j + 1))).length = (flQ (rows.take j)).length + (rowQ (nth rows j)).length := by rw [e, List.length_append]
   rw [e3, ha]
   omega)
  (fun a _ => .leaf (by rw [round161a', decide_eq_false (by omega)]; rfl)) (a0 := 0) rfl hx
 rw [Nat.zero_add] at this
 exact this
def stepQb (x : Tup lsQ) (a : TLi × Nat) : X × (TLi × Nat) := (.normal, (setAt a.1 (0 + a.2) (rowQ x), a.2 + (rowQ x).length))
theorem foldQb (z : Tup intK) : ∀ (rows : RwQ) (p : TLi) (r : Nat), rows.foldl (fun (a : TLi × Nat) (x : Tup lsQ) => (setAt a.1 (0 + a.2) (rowQ x), a.2 + (rowQ x).length)) (p ++ List.replicate ((flQ rows).length + r) z, p.length) = (p ++ (flQ rows ++ List.replicate r z), (p ++ flQ rows).length)
 | [], p, r => by simp [flQ_nil]
 | x :: rows, p, r => by
   rw [List.foldl_cons]
   have e : setAt (p ++ List.replicate ((flQ (x :: rows)).length + r) z) (0 + p.length) (rowQ x) = (p ++ rowQ x) ++ List.replicate ((flQ rows).length + r) z := by
    unfold setAt
    rw [Nat.zero_add, List.take_append_of_le_length (Nat.le_refl _), List.take_length, List.drop_append, List.drop_eq_nil_of_le (by omega), flQ_cons, List.length_append, List.nil_append, List.drop_replicate]
    rw [show (rowQ x).length + (flQ rows).length + r - (p.length + (rowQ x).length - p.length) = (flQ rows).length + r by omega, List.append_assoc]
   rw [e]
   have e2 : p.length + (rowQ x).length = (p ++ rowQ x).length := (List.length_append ..).symm
   simp only [e2]
   rw [foldQb z rows, flQ_cons]
   rw [List.append_assoc, List.append_assoc, List.append_assoc]
theorem ldB (h0 : Lib0 w0) (rows : RwQ) (z : Tup intK) (hr : rows.length ≤ 100000) :
  LdT ((cfgQ w0).at []) (ldQb rows (rows.length : Nat) (flQ rows) (flQ rows).length) lQ2 (st161b rows (0, List.replicate (flQ rows).length z, 0)) := by
 have hx : lsRun 2 stepQb rows 0 (List.replicate (flQ rows).length z, 0) = (.exit 2, (((0 + rows.length : Nat) : Int), (flQ rows, (flQ rows).length))) := by
  rw [lsRun_fold (g := stepQb) (h := fun (x : Tup lsQ) (a : TLi × Nat) => (setAt a.1 (0 + a.2) (rowQ x), a.2 + (rowQ x).length)) 2 rows 0 _ (fun _ _ _ => rfl)]
  have := foldQb z rows [] 0
  simp only [List.nil_append, List.length_nil, Nat.add_zero, List.replicate_zero, List.append_nil] at this
  rw [this]
 have := ldT_ls (at_ok (cfgQ_ok w0) []) (at_sp (cfgQ_sp h0) (cs := []) trivial) (N := (fnOf Tryz.f161).ntmps) (rel := rl161b) (B := lpB 2 (fnOf Tryz.f161).body) (id := 2) rows (by omega) (fun p => st161b rows (p.1, p.2.1, p.2.2)) stepQb
  (fun j a => a.2 = (flQ (rows.take j)).length ∧ a.1.length = (flQ rows).length)
  (fun j a hj ⟨ha, hl⟩ => .leaf (by
   have e := flQ_take hj
   have e2 := flQ_take_le rows (j + 1)
   have e3 : (flQ (rows.take (j + 1))).length = (flQ (rows.take j)).length + (rowQ (nth rows j)).length := by rw [e, List.length_append]
   refine (round161b' rows (j : Int) a.1 a.2).trans ?_
   rw [inRq_nat hj, decide_eq_true (show (j : Int) < (rows.length : Nat) by omega), rwN_nat, (Nat.ble_eq ..).mpr (show 0 + a.2 + (rowQ (nth rows j)).length ≤ a.1.length by omega)]
   rfl))
  (fun j a a' hj ⟨ha, hl⟩ hs => by
   cases hs
   have e := flQ_take hj
   have e2 := flQ_take_le rows (j + 1)
   have e3 : (flQ (rows.take (j + 1))).length = (flQ (rows.take j)).length + (rowQ (nth rows j)).length := by rw [e, List.length_append]
   refine ⟨by simp only; omega, ?_⟩
   simp only
   unfold setAt
   rw [List.length_append, List.length_append, List.length_take, List.length_drop]
   omega)
  (fun a _ => .leaf ((round161b' rows _ a.1 a.2).trans (by rw [decide_eq_false (by omega)]; rfl))) (a0 := (List.replicate (flQ rows).length z, 0)) ⟨by simp [flQ_nil], by simp⟩ hx
 rw [Nat.zero_add] at this
 exact this
def stepQc (x : Tup lsQ) (a : TLi) : X × TLi := (.normal, a ++ rowQ x)
theorem foldQc : ∀ (rows : RwQ) (a : TLi), rows.foldl (fun (b : TLi) (x : Tup lsQ) => b ++ rowQ x) a = a ++ flQ rows
 | [], a => by simp [flQ_nil]
 | r :: rows, a => by rw [List.foldl_cons, foldQc rows, flQ_cons, List.append_assoc]
theorem ldC (h0 : Lib0 w0) (rows : RwQ) (hr : rows.length ≤ 100000) (hn : (flQ rows).length ≤ 100000) :
  LdT ((cfgQ w0).at []) (ldQc rows (rows.length : Nat) (flQ rows)) lQ2 (st161c rows (0, [])) := by
 have hx : lsRun 2 stepQc rows 0 [] = (.exit 2, (((0 + rows.length : Nat) : Int), flQ rows)) := by
  rw [lsRun_fold (g := stepQc) (h := fun (x : Tup lsQ) (b : TLi) => b ++ rowQ x) 2 rows 0 _ (fun _ _ _ => rfl), foldQc, List.nil_append]
 have := ldT_ls (at_ok (cfgQ_ok w0) []) (at_sp (cfgQ_sp h0) (cs := []) trivial) (N := (fnOf Tryz.f161).ntmps) (rel := rl161c) (B := lpB 2 (fnOf Tryz.f161).body) (id := 2) rows (by omega) (st161c rows) stepQc
  (fun j a => a = flQ (rows.take j))
  (fun j a hj ha => .leaf (by
   have e := flQ_take hj
   have e2 := flQ_take_le rows (j + 1)
   refine (round161c rows (j : Int) a).trans ?_
   have hm : rmQ (a ++ rowQ (nth rows j)) = true := by
    unfold rmQ
    rw [ha, ← e, (Nat.ble_eq ..).mpr (by omega), (Nat.ble_eq ..).mpr (by omega)]
    rfl
   rw [inRq_nat hj, decide_eq_true (show (j : Int) < (rows.length : Nat) by omega), rwN_nat, hm]
   rfl))
  (fun j a a' hj ha hs => by
   cases hs
   rw [flQ_take hj, ha])
  (fun a _ => .leaf ((round161c rows _ a).trans (by rw [decide_eq_false (by omega)]; rfl))) (a0 := []) (by simp [flQ_nil]) hx
 rw [Nat.zero_add] at this
 exact this
theorem fn161 (h0 : Lib0 w0) (rows : RwQ) (hr : rows.length ≤ 100000) (hn : (flQ rows).length ≤ 100000) : FnD (cfg w0) 161 [.vec lsQ rows] (.vec intK (flQ rows)) := by
 show FnD (cfgQ w0) 161 [.vec lsQ rows] (.vec intK (flQ rows))
 have hA := ldA h0 rows hr hn
 cases hz : (flQ rows).length with
 | zero =>
   have hC := ldC h0 rows hr hn
   rw [hz] at hA
   exact fnD_t (cfgQ_ok w0) (cfgQ_sp h0) (cs := []) trivial (fd := fnOf Tryz.f161) rfl (body161z rows (rows.length : Nat) (rows.length : Nat) (flQ rows)) ⟨hC, hA, trivial⟩
 | succ m =>
   have hB := ldB h0 rows (((0 : Int), ()) : Tup intK) hr
   rw [hz] at hA hB
   have hw : wzQ ((m + 1 : Nat) : Int) = ((m + 1 : Nat) : Int) := by
    unfold wzQ
    rw [show IntKind.i64.wrap (((0 : Nat) : Int) - ((0 : Nat) : Int)) = 0 from rfl, Wid (by omega) (by omega)]
    omega
   have hzs : zsQ ((m + 1 : Nat) : Int) = List.replicate (m + 1) (((0 : Int), ()) : Tup intK) := by unfold zsQ; rw [hw]; rfl
   have hb := body161p (w0 := w0) rows (rows.length : Nat) ((m + 1 : Nat) : Int) (rows.length : Nat) (flQ rows) m
   have hmk : mkQ ((m + 1 : Nat) : Int) = true := by
    unfold mkQ
    rw [hw, Int.toNat_natCast, decide_eq_true (by omega), decide_eq_true (by omega), (Nat.ble_eq ..).mpr (by omega)]
    rfl
   rw [hw, hzs, hmk, decide_eq_false (by omega), decide_eq_true (by omega)] at hb
   simp only [cond_true, cond_false, List.drop_zero] at hb
   rw [List.take_of_length_le (by omega)] at hb
   exact fnD_t (cfgQ_ok w0) (cfgQ_sp h0) (cs := []) trivial (fd := fnOf Tryz.f161) rfl hb ⟨hB, hA, trivial⟩
def smQ (rows : RwQ) : Bool := Nat.ble rows.length 100000 && Nat.ble (flQ rows).length 100000
def c161 : Ct := ct 161 [.v lsQ] fun a => .br (smQ a.1) (.leaf (.vec intK (flQ a.1))) .bad
theorem gd161 (h0 : Lib0 w0) : Gd (cfg w0) c161 := gd_sig fun a d hd => by
 obtain ⟨hg, hd⟩ := br_run hd
 cases hd
 simp only [smQ, Bool.and_eq_true, Nat.ble_eq] at hg
 exact fn161 h0 a.1 hg.1 hg.2
end
end Go.Proofs.YthcpfignhalffaaGreatDoor
namespace Go.Proofs.YthcpfignhalffaaGreatDoor
open Go Go.Am Go.RowKit
set_option maxRecDepth 100000
variable {w0 : World}
noncomputable section
def fC (g : Gr) : D := .fn 163 [] [.box (gcs g)]
def rl197 : List (Nat × Cv) := [(0, .id), (1, .id), (7, .id), (8, .id), (4, .id)]
def st197 (rows : RwQ) (g : Gr) (a : Int × Int) : List D := [.vec lsQ rows, fC g, I (rows.length : Nat), I a.1, I a.2]
def neQ (g : Gr) (x : Tup lsQ) : Bool := (((rowQ x).length : Nat) : Int) != g.w
def neN (g : Gr) (rows : RwQ) (i : Int) : Bool := (((rwN rows i).length : Nat) : Int) != g.w
theorem round197 (rows : RwQ) (g : Gr) (i r : Int) : rndD ((cfg w0).at []) 40 [] 40 (fnOf Tryz.f197).ntmps rl197 (lpB 0 (fnOf Tryz.f197).body) (st197 rows g (i, r)) =
  bif decide (i < (rows.length : Nat)) then bif inRq rows i then bif neN g rows i then some ([], .ret, st197 rows g (i, i)) else some ([], .normal, st197 rows g (IntKind.i64.wrap (i + 1), r)) else none
  else some ([], .exit 0, st197 rows g (i, r)) := by cases g; kernel_rfl
def ld197 (rows : RwQ) (g : Gr) (x : X) (a : Int × Int) : Ld := ldP 0 (fnOf Tryz.f197).ntmps rl197 x (st197 rows g a)
theorem body197 (rows : RwQ) (g : Gr) (x : X) (a : Int × Int) (hx : x = .ret ∨ x = .normal) : bodyT ((cfg w0).at []) 40 [ld197 rows g x a] 40 (fnOf Tryz.f197) [.vec lsQ rows, fC g] =
  some ([(ld197 rows g x a, .loop (lpB 0 (fnOf Tryz.f197).body), st197 rows g (0, 0))], onX x (I a.2) (I (-1))) := by
 cases g; rcases hx with rfl | rfl <;> kernel_rfl
def ixQ (g : Gr) : RwQ → Nat → Int
 | [], _ => -1
 | x :: xs, i => bif neQ g x then (i : Int) else ixQ g xs (i + 1)
theorem ixQ_any (g : Gr) : ∀ (l : RwQ) (i : Nat), decide (ixQ g l i ≥ 0) = l.any (neQ g)
 | [], i => rfl
 | x :: xs, i => by
   unfold ixQ
   rw [List.any_cons]
   cases neQ g x with
   | true => simp
   | false => simpa using ixQ_any g xs (i + 1)
theorem ixQ_neg (g : Gr) : ∀ (l : RwQ) (i : Nat), l.any (neQ g) = false → ixQ g l i = -1
 | [], i, _ => rfl
 | x :: xs, i, h => by
   rw [List.any_cons, Bool.or_eq_false_iff] at h
   unfold ixQ
   rw [h.1]
   exact ixQ_neg g xs (i + 1) h.2
def stepQi (rows : RwQ) (g : Gr) (j : Nat) (a : Int) : X × Int := bif neQ g (nth rows j) then (.ret, (j : Int)) else (.normal, a)
theorem runQi (rows : RwQ) (g : Gr) : ∀ (f j : Nat) (a : Int), j + f = rows.length → ∃ q : Int, rgRun 0 (stepQi rows g) f j a = bif (rows.drop j).any (neQ g) then (.ret, (q, ixQ g (rows.drop j) j)) else (.exit 0, (((j + f : Nat) : Int), a))
 | 0, j, a, h => by
   rw [List.drop_eq_nil_of_le (by omega)]
   exact ⟨0, rfl⟩
 | f + 1, j, a, h => by
   have hj : j < rows.length := by omega
   obtain ⟨q, hq⟩ := runQi rows g f (j + 1) a (by omega)
   rw [List.drop_eq_getElem_cons hj, ← nthQ hj]
   unfold rgRun stepQi ixQ
   rw [List.any_cons]
   cases hx : neQ g (nth rows j) with
   | true => exact ⟨(j : Int), rfl⟩
   | false =>
     refine ⟨q, ?_⟩
     show rgRun 0 (stepQi rows g) f (j + 1) a = _
     rw [hq, show j + 1 + f = j + (f + 1) by omega]
     rfl
theorem fn197 (h0 : Lib0 w0) (rows : RwQ) (g : Gr) (hr : rows.length ≤ 100000) : FnD (cfg w0) 197 [.vec lsQ rows, fC g] (I (ixQ g rows 0)) := by
 refine fn_rg h0 (cs := []) trivial (fd := fnOf Tryz.f197) rfl rl197 rows.length (by omega) (st197 rows g) (stepQi rows g) (fun _ _ => True) (a0 := 0) trivial
  (fun j a hj _ => .leaf (by
   rw [round197, inRq_nat hj, decide_eq_true (show (j : Int) < (rows.length : Nat) by omega)]
   unfold neN stepQi
   rw [rwN_nat]
   show (bif neQ g (nth rows j) then _ else _) = _
   cases neQ g (nth rows j) <;> rfl)) (fun _ _ _ _ _ _ => trivial)
  (fun a _ => .leaf (by rw [round197, decide_eq_false (by omega)]; rfl)) fun x p hx => ?_
 obtain ⟨q, hq⟩ := runQi rows g rows.length 0 0 (by omega)
 rw [hq, List.drop_zero] at hx
 cases ha : rows.any (neQ g) with
 | true => rw [ha] at hx; cases hx; exact body197 rows g _ _ (.inl rfl)
 | false =>
   rw [ha] at hx
   cases hx
   rw [ixQ_neg g rows 0 ha]
   exact body197 rows g _ _ (.inr rfl)
def asC (d : D) : Option Gr := match d with
 | .fn 163 [] [.box [.val (.int .i64 w), .val (.int .i64 h), .vec ks l]] => match recast ks intK l with
   | some l => some ⟨w, h, l⟩
   | none => none
 | _ => none
theorem asC_eq {d : D} {g : Gr} (h : asC d = some g) : d = fC g := by
 unfold asC at h
 split at h
 ·split at h
  ·rename_i hr
   cases h
   obtain ⟨e, rfl⟩ := recast_eq hr
   subst e
   rfl
  ·cases h
 ·cases h
def clQ (n : Nat) (F : RwQ → Gr → D) : Ct := ct n [.v lsQ, .x] fun a => match asC a.2.1 with
 | some g => .br (Nat.ble (a.1 : RwQ).length 100000) (.leaf (F a.1 g)) .bad
 | none => .bad
theorem gdClQ {n : Nat} {F : RwQ → Gr → D} (h : ∀ (rows : RwQ) (g : Gr), rows.length ≤ 100000 → FnD (cfg w0) n [.vec lsQ rows, fC g] (F rows g)) : Gd (cfg w0) (clQ n F) := gd_sig fun a d hd => by
 obtain ⟨l, f, u⟩ := a
 simp only at hd
 cases hb : asC f with
 | none => rw [hb] at hd; cases hd
 | some g =>
   rw [hb] at hd
   obtain ⟨hg, hd⟩ := br_run hd
   cases hd
   cases asC_eq hb
   exact h l g (Nat.le_of_ble_eq_true hg)
def c197 : Ct := clQ 197 fun rows g => I (ixQ g rows 0)
theorem gd197 (h0 : Lib0 w0) : Gd (cfg w0) c197 := gdClQ (fun rows g hr => fn197 h0 rows g hr)
def smR (rows : RwQ) : Bool := Nat.ble rows.length 100000
theorem run162 (rows : RwQ) (g : Gr) : bodyK ((cfg w0).at [c197]) 40 (fnOf Tryz.f162) [.vec lsQ rows, fC g] =
  bif smR rows then some (Bo (decide (ixQ g rows 0 ≥ 0))) else none := by cases g; kernel_rfl
def c162 : Ct := clQ 162 fun rows g => Bo (rows.any (neQ g))
theorem gd162 (h0 : Lib0 w0) : Gd (cfg w0) c162 := gdClQ fun rows g hr => by
 refine fnD_k (cfg_ok w0) h0 (cs := [c197]) ⟨gd197 h0, trivial⟩ (fd := fnOf Tryz.f162) rfl (n := 40) ((run162 rows g).trans ?_)
 rw [show smR rows = true from (Nat.ble_eq ..).mpr hr, ixQ_any]
 rfl
end
end Go.Proofs.YthcpfignhalffaaGreatDoor
namespace Go.Proofs.YthcpfignhalffaaGreatDoor
open Go Go.Am Go.RowKit
set_option maxRecDepth 100000
variable {w0 : World}
noncomputable section
def goW : SLs → List (Tup intK) → Bool → List (Tup intK) × Bool
 | [], l, wr => (l, wr)
 | x :: ws, l, wr => goW ws (l ++ [t1 (intL (bl x.1)).1]) (bif wr then true else !(intL (bl x.1)).2)
theorem nxW_cons (l : List (Tup intK)) (x : Tup sK1) (ws : SLs) (wr : Bool) : nxW (l, x :: ws, wr) = (l ++ [t1 (intL (bl x.1)).1], ws, bif wr then true else !(intL (bl x.1)).2) := by
 have h1 : isN (x :: ws) 0 = intL (bl x.1) := rfl
 unfold nxW nmB
 simp only [h1]
 rw [show (List.drop (0 + 1) (x :: ws)).take ((x :: ws).length - 1) = ws by show ws.take ws.length = ws; exact List.take_length]
theorem goW_len : ∀ (ws : SLs) (l : List (Tup intK)) (wr : Bool), (goW ws l wr).1.length = l.length + ws.length
 | [], l, wr => rfl
 | x :: ws, l, wr => by
   show (goW ws _ _).1.length = _
   rw [goW_len ws, List.length_append, List.length_singleton, List.length_cons]; omega
theorem goW_run : ∀ (f i : Nat) (ws : SLs) (l : List (Tup intK)) (wr : Bool), ws.length = f → rgRun 2 (fun (_ : Nat) (a : Wst) => (X.normal, nxW a)) f i (l, ws, wr) = (.exit 2, (((i + f : Nat) : Int), ((goW ws l wr).1, [], (goW ws l wr).2)))
 | 0, i, [], l, wr, _ => rfl
 | f + 1, i, x :: ws, l, wr, h => by
   show rgRun 2 _ f (i + 1) (nxW (l, x :: ws, wr)) = _
   rw [nxW_cons, goW_run f (i + 1) ws _ _ (by simpa using h), show i + 1 + f = i + (f + 1) by omega]
   rfl
def told2 (x : HkX intK sK1) : FT (HkX intK sK1) :=
 match x.vi, x.vn, x.c with
 | .int .i64 i, .int .i64 n, .bool wr => .br (decide (i = 0) && (decide (n = x.ws.length) && (Nat.ble x.ws.length 100000 && (Nat.beq x.l.length 0 && !wr))))
   (.leaf ⟨.int .i64 (x.ws.length : Nat), .int .i64 n, (goW x.ws x.l wr).1, [], .bool (goW x.ws x.l wr).2⟩) .bad
 | _, _, _ => .bad
theorem told2_inv {x y : HkX intK sK1} (h : (told2 x).run = some y) : ∃ ws : SLs, ws.length ≤ 100000 ∧ x = xW 0 (ws.length : Nat) ([], ws, false) ∧ y = xW (ws.length : Nat) (ws.length : Nat) ((goW ws [] false).1, [], (goW ws [] false).2) := by
 obtain ⟨vi, vn, l, ws, c⟩ := x
 unfold told2 at h
 simp only at h
 split at h
 ·rename_i i n wr
  cases hb : (decide (i = 0) && (decide (n = (ws.length : Nat)) && (Nat.ble ws.length 100000 && (Nat.beq l.length 0 && !wr)))) with
  | false => rw [hb] at h; cases h
  | true =>
    rw [hb] at h
    cases h
    simp only [Bool.and_eq_true, decide_eq_true_eq, Nat.ble_eq, Nat.beq_eq, Bool.not_eq_true'] at hb
    obtain ⟨h1, h2, h3, h4, h5⟩ := hb
    subst h1 h2 h5
    have h4 : l = [] := List.length_eq_zero_iff.1 h4
    subst h4
    exact ⟨ws, h3, rfl, rfl⟩
 ·cases h
theorem ld2 (h0 : Lib0 w0) (x y : HkX intK sK1) (us : List Value) (ht : (told2 x).run = some y) (hu : us.length = keep2.length) : LdT (cgR w0) (ldP 2 N87 rel2 .normal (stH 160 y us)) (.loop B2) (stH 160 x us) := by
 obtain ⟨ws, hk, rfl, rfl⟩ := told2_inv ht
 obtain ⟨u1, u2, u3, u4, u5, u6, u7, u8, rfl⟩ : ∃ u1 u2 u3 u4 u5 u6 u7 u8, us = [u1, u2, u3, u4, u5, u6, u7, u8] := by
  match us, hu with
  | [u1, u2, u3, u4, u5, u6, u7, u8], _ => exact ⟨_, _, _, _, _, _, _, _, rfl⟩
 have := ldT_rg (cgR_ok w0) (cgR_sp h0) (N := N87) (rel := rel2) (B := B2) (id := 2) (k := ws.length) (by omega)
  (fun (p : Int × Wst) => stH 160 (xW p.1 (ws.length : Nat) p.2) [u1, u2, u3, u4, u5, u6, u7, u8]) (fun (_ : Nat) (a : Wst) => (X.normal, nxW a)) (fun j a => a.2.1.length = ws.length - j ∧ a.1.length = j)
  (fun j a hj ⟨h1, h2⟩ => RdOK.leaf (n := 40) (m := 40) (L := []) ((round2 (w0 := w0) _ _ a u1 u2 u3 u4 u5 u6 u7 u8).trans (by
   obtain ⟨l, w, b⟩ := a
   simp only at h1 h2
   rw [decide_eq_true (show (j : Int) < (ws.length : Nat) by omega)]
   unfold gN rmI
   rw [show Nat.blt 0 w.length = true by rw [Nat.blt_eq]; omega]
   simp only [List.length_append, List.length_singleton]
   rw [(Nat.ble_eq ..).mpr (show (l.length + 1) * 8 ≤ 1000000000000 by omega), (Nat.ble_eq ..).mpr (show l.length + 1 ≤ 1000000000000 by omega)]
   rfl)))
  (fun j a a' hj ⟨h1, h2⟩ hs => by
   cases hs
   obtain ⟨l, w, b⟩ := a
   simp only at h1 h2
   unfold nxW
   simp only [List.length_take, List.length_drop, List.length_append, List.length_singleton]
   omega)
  (fun a _ => RdOK.leaf (n := 40) (m := 40) (L := []) ((round2 (w0 := w0) _ _ a u1 u2 u3 u4 u5 u6 u7 u8).trans (by
   rw [decide_eq_false (by omega)]; rfl)))
  (a0 := ([], ws, false)) ⟨by simp, rfl⟩ (goW_run ws.length 0 ws [] false rfl)
 rw [Nat.zero_add] at this
 exact this
def hk2 (h0 : Lib0 w0) : Hook (cgR w0).P (cgR w0).G (cgR w0).GB := hookOf (b := .loop B2) 2 N87 54 53 15 14000014 keep2 [12] 160 told2 rfl rfl rfl (by decide) rfl
 (fun x y h => by obtain ⟨ws, _, _, rfl⟩ := told2_inv h; rfl) (fun x y us h hu => ld2 h0 x y us h hu)
def cs87 : List Ct := [c224, c158, c159, c161, c162, chkC 73, whenC 132, firstC 99]
def lp87 (st : LoopState) (pd : Option Code) (tm : Option (Nat × Array Value)) : ALoop := { state := st, pending := pd, fn := 0, tmps := [], params := rfPs (fnOf Tryz.f87).body, assign := rfAs (fnOf Tryz.f87).body, body := rfBd (fnOf Tryz.f87).body, tm := tm }
def rs87 : List (Nat × Cw) := [(2, .bv intK), (3, .id), (4, .id), (6, .id), (7, .id), (8, .bv lsK)]
def bx87 (rows : Rws) (i e : Int) : List D := [.obox [I 0, I 0, .ovec intK []], .obox [I i], .obox [I e], .obox [St_ wGrid, .fn 155 [] []], .obox [St_ wRow, .fn 156 [] []], .obox [.ovec lsK rows]]
def yl87 (st : LoopState) (pd : Option Code) (tm : Option (Nat × Array Value)) (rows : Rws) (i e : Int) : D := .yl N87 (lp87 st pd tm) [2, 3, 4, 6, 7, 8] (bx87 rows i e)
def rel191 : List (Nat × Cv) := [(0, .yl rs87), (1, .id)]
def st191 (tm : Option (Nat × Array Value)) (rows : Rws) (s : ByteArray) : List D := [yl87 .ready none tm rows 0 0, .obox [St_ s]]
def cgL (h0 : Lib0 w0) : Cfg := { (cgN w0).at cs87 with hk := [hk2 h0] }
end
end Go.Proofs.YthcpfignhalffaaGreatDoor
namespace Go.Proofs.YthcpfignhalffaaGreatDoor
open Go Go.Am Go.RowKit
set_option maxRecDepth 100000
variable {w0 : World}
noncomputable section
def rt87 (tm : Option (Nat × Array Value)) (rows : Rws) (r : ByteArray) : Rn' := some ([], .ret, [yl87 .done (some .ret) tm rows (rows.length : Nat) 25, .obox [St_ r]])
def nm87 (tm : Option (Nat × Array Value)) (rows : Rws) (r : ByteArray) : Rn' := some ([], .normal, [yl87 .ready none tm rows 0 0, .obox [St_ r]])
def w0L (W : SLs) : ByteArray := (nth W (Int.toNat 0 + 0)).1
def wsL (W : SLs) : SLs := List.take (((W.length : Nat) : Int).toNat - Int.toNat 1) (List.drop (0 + Int.toNat 1) W)
def hk1c : Bool := sameC (.loop B2) (.loop B2)
def hk2c (W : SLs) : Bool := decide ((0 : Int) = 0) && (decide (IntKind.i64.wrap (((W.length : Nat) : Int) - 1) = ((wsL W).length : Nat)) && (Nat.ble (wsL W).length 100000 && (Nat.beq ([] : List (Tup intK)).length 0 && !false)))
def rowT (l : List (Tup intK)) : Tup lsK := (l, ())
def rmR (o : Rws) : Bool := Nat.ble (o.length * 24) 1000000000000 && Nat.ble o.length 1000000000000
def goL (W : SLs) : List (Tup intK) × Bool := goW (wsL W) [] false
def endL' (tm : Option (Nat × Array Value)) (rows : Rws) (e : Bool) (r : ByteArray) (W : SLs) (word : ByteArray) (may : Bool) : Rn' :=
 bif !e then rt87 tm rows r else gN (inL W 0) (bif !((w0L W).toList == word.toList) then rt87 tm rows r else bif (goL W).2 then rt87 tm rows r else bif !may then rt87 tm rows r else gN (rmR (rows ++ [rowT (goL W).1])) (nm87 tm (rows ++ [rowT (goL W).1]) r))
def lineT (tm : Option (Nat × Array Value)) (rows : Rws) (line r : ByteArray) (W : SLs) : Rn' :=
 gN (smS line) (gN (smS (cutN line)) (gN (cutM W.length) (gN hk1c (gN (hk2c W) (
  bif ((rows.length : Nat) : Int) == 0 then endL' tm rows (endL (bl line)) r W wGrid ((((goL W).1.length : Nat) : Int) == 2) else endL' tm rows (endL (bl line)) r W wRow (decide ((((goL W).1.length : Nat) : Int) > 0)))))))
def ix1 (s : ByteArray) : Int := IntKind.i64.wrap (ixI s 10 + 1)
def tree191 (tm : Option (Nat × Array Value)) (rows : Rws) (s : ByteArray) : Rn' :=
 bif decide (((s.size : Nat) : Int) > 0) then bif decide (ixI s 10 ≥ 0) then gN (cutOk s (ix1 s)) (gN (cutOk s (ix1 s)) (lineT tm rows (s.extract 0 (ix1 s).toNat) (s.extract (ix1 s).toNat s.size) (splT (cutN (s.extract 0 (ix1 s).toNat)))))
  else lineT tm rows s mtL (splT (cutN s))
 else some ([], .exit 0, st191 tm rows s)
theorem round191 (h0 : Lib0 w0) (tm : Option (Nat × Array Value)) (rows : Rws) (s : ByteArray) : rndD (cgL h0) 40 [] 40 (fnOf Tryz.f191).ntmps rel191 (lpB 0 (fnOf Tryz.f191).body) (st191 tm rows s) = tree191 tm rows s := by kernel_rfl
end
end Go.Proofs.YthcpfignhalffaaGreatDoor
namespace Go.Proofs.YthcpfignhalffaaGreatDoor
open Go Go.Am Go.RowKit
set_option maxRecDepth 100000
variable {w0 : World}
noncomputable section
def rel87 : List (Nat × Cv) := [(36, .id), (2, .bv intK), (3, .id), (4, .id), (6, .id), (7, .id), (8, .bv lsK)]
def pre87 (s : ByteArray) : List D := .fn 191 [] [.obox [St_ s]] :: bx87 [] 0 0
def rf87 : Code := .rangeFunc (.tmp 36) (rfPs (fnOf Tryz.f87).body) (rfAs (fnOf Tryz.f87).body) (rfBd (fnOf Tryz.f87).body)
def st191r (tm : Option (Nat × Array Value)) (rows : Rws) (i e : Int) (s : ByteArray) : List D := [yl87 .done (some .ret) tm rows i e, .obox [St_ s]]
def B191 : Code := lpB 0 (fnOf Tryz.f191).body
theorem iter87n (h0 : Lib0 w0) (s : ByteArray) (tm : Option (Nat × Array Value)) (rows : Rws) (r : ByteArray) : bodyI (cgL h0) 40 [ldP 0 (fnOf Tryz.f191).ntmps rel191 .normal (st191 tm rows r)] 40 (fnOf Tryz.f191)
  (startI (fnOf Tryz.f191) (ldS N87 (rel87.map (·.1)) (pre87 s)) #[] #[.pointer (some ⟨K0 + 0, 0, none⟩)] (rfPs (fnOf Tryz.f87).body) (rfAs (fnOf Tryz.f87).body) (rfBd (fnOf Tryz.f87).body) tm) 0 rs87 =
  some ([(ldP 0 (fnOf Tryz.f191).ntmps rel191 .normal (st191 tm rows r), .loop B191, st191 tm [] s)], .normal, tm, bx87 rows 0 0) := by kernel_rfl
theorem iter87r (h0 : Lib0 w0) (s : ByteArray) (tm : Option (Nat × Array Value)) (rows : Rws) (i e : Int) (r : ByteArray) : bodyI (cgL h0) 40 [ldP 0 (fnOf Tryz.f191).ntmps rel191 .ret (st191r tm rows i e r)] 40 (fnOf Tryz.f191)
  (startI (fnOf Tryz.f191) (ldS N87 (rel87.map (·.1)) (pre87 s)) #[] #[.pointer (some ⟨K0 + 0, 0, none⟩)] (rfPs (fnOf Tryz.f87).body) (rfAs (fnOf Tryz.f87).body) (rfBd (fnOf Tryz.f87).body) tm) 0 rs87 =
  some ([(ldP 0 (fnOf Tryz.f191).ntmps rel191 .ret (st191r tm rows i e r), .loop B191, st191 tm [] s)], .ret, tm, bx87 rows i e) := by kernel_rfl
end
end Go.Proofs.YthcpfignhalffaaGreatDoor
namespace Go.Proofs.YthcpfignhalffaaGreatDoor
open Go Go.Am Go.RowKit
set_option maxRecDepth 100000
variable {w0 : World}
noncomputable section
def wordL (rows : Rws) : ByteArray := bif Nat.beq rows.length 0 then wGrid else wRow
def mayL (rows : Rws) (W : SLs) : Bool := bif Nat.beq rows.length 0 then Nat.beq (goL W).1.length 2 else Nat.blt 0 (goL W).1.length
def lineOk (rows : Rws) (e : Bool) (W : SLs) : Bool := e && (((w0L W).toList == (wordL rows).toList) && (!(goL W).2 && mayL rows W))
def lineE (rows : Rws) (W : SLs) : Rws := rows ++ [rowT (goL W).1]
theorem wsL_eq (W : SLs) : wsL W = W.drop 1 := by
 unfold wsL
 rw [Int.toNat_natCast]
 show (W.drop 1).take (W.length - 1) = W.drop 1
 rw [List.take_of_length_le (by rw [List.length_drop]; omega)]
theorem lineT_eq {tm : Option (Nat × Array Value)} {rows : Rws} {line r : ByteArray} {W : SLs} (h1 : smS line = true) (h2 : smS (cutN line) = true) (hW : 0 < W.length) (hW2 : W.length ≤ 100000) (ho : rows.length ≤ 100000) :
  lineT tm rows line r W = bif lineOk rows (endL (bl line)) W then nm87 tm (lineE rows W) r else rt87 tm rows r := by
 have hc : cutM W.length = true := by
  unfold cutM
  rw [decide_eq_true (show (0 : Int) ≤ 1 by omega), decide_eq_true (show (1 : Int) ≤ (W.length : Nat) by omega), decide_eq_true (show ((W.length : Nat) : Int) ≤ (W.length : Nat) by omega)]
  rfl
 have hk : hk2c W = true := by
  unfold hk2c
  rw [wsL_eq, List.length_drop, W_id (by omega) (by omega), decide_eq_true (show (0 : Int) = 0 from rfl), decide_eq_true (show ((W.length : Nat) : Int) - 1 = ((W.length - 1 : Nat) : Int) by omega), (Nat.ble_eq ..).mpr (show W.length - 1 ≤ 100000 by omega)]
  rfl
 have hr : rmR (rows ++ [rowT (goL W).1]) = true := by
  unfold rmR
  rw [List.length_append, List.length_singleton, (Nat.ble_eq ..).mpr (show (rows.length + 1) * 24 ≤ 1000000000000 by omega), (Nat.ble_eq ..).mpr (show rows.length + 1 ≤ 1000000000000 by omega)]
  rfl
 have key : ∀ (word : ByteArray) (may : Bool), endL' tm rows (endL (bl line)) r W word may = bif (endL (bl line)) && (((w0L W).toList == word.toList) && (!(goL W).2 && may)) then nm87 tm (lineE rows W) r else rt87 tm rows r := fun word may => by
  unfold endL' gN lineE
  rw [show inL W 0 = true from inL_nat hW, hr]
  cases endL (bl line) <;> cases ((w0L W).toList == word.toList) <;> cases (goL W).2 <;> cases may <;> rfl
 unfold lineT gN
 rw [h1, h2, hc, show hk1c = true from sameC_self _, hk, key, key]
 simp only [cond_true]
 unfold lineOk wordL mayL
 by_cases h0 : rows.length = 0
 ·rw [h0, show (((0 : Nat) : Int) == 0) = true from rfl, show Nat.beq 0 0 = true from rfl]
  simp only [cond_true]
  rw [show ((((goL W).1.length : Nat) : Int) == 2) = Nat.beq (goL W).1.length 2 by
   cases hx : Nat.beq (goL W).1.length 2 with
   | true => rw [Nat.beq_eq] at hx; rw [hx]; rfl
   | false => rw [beq_eq_false_iff_ne]; intro e; have : (goL W).1.length = 2 := by omega
              rw [this] at hx; cases hx]
 ·rw [show (((rows.length : Nat) : Int) == 0) = false by rw [beq_eq_false_iff_ne]; omega, show Nat.beq rows.length 0 = false by cases hx : Nat.beq rows.length 0 with | false => rfl | true => rw [Nat.beq_eq] at hx; omega]
  simp only [cond_false]
  rw [show decide ((((goL W).1.length : Nat) : Int) > 0) = Nat.blt 0 (goL W).1.length by
   cases hx : Nat.blt 0 (goL W).1.length with
   | true => rw [Nat.blt_eq] at hx; exact decide_eq_true (by omega)
   | false => refine decide_eq_false fun h => ?_; have : Nat.blt 0 (goL W).1.length = true := by rw [Nat.blt_eq]; omega
              rw [this] at hx; cases hx]
inductive Sx where
 | go (rows : Rws) (s : ByteArray)
 | er (rows : Rws) (s : ByteArray)
def st87 (tm : Option (Nat × Array Value)) : Sx → List D
 | .go p s => st191 tm p s
 | .er p s => st191r tm p (p.length : Nat) 25 s
def lnS (s : ByteArray) : ByteArray := bif Nat.beq ((bl s).count 10) 0 then s else mkB ((bl s).take ((ixI s 10).toNat + 1))
def rsS (s : ByteArray) : ByteArray := bif Nat.beq ((bl s).count 10) 0 then mtL else mkB ((bl s).drop ((ixI s 10).toNat + 1))
def wS (s : ByteArray) : SLs := splT (cutN (lnS s))
def nx87 : Sx → X × Sx
 | .go p s => bif Nat.beq s.size 0 then (.exit 0, .go p s) else
   bif lineOk p (endL (bl (lnS s))) (wS s) then (.normal, .go (lineE p (wS s)) (rsS s)) else (.ret, .er p (rsS s))
 | a => (.exit 0, a)
theorem splT_len (s : ByteArray) : (splT s).length = (bl s).count 32 + 1 := by unfold splT; rw [List.length_map, spl_len]
theorem cutN_size (s : ByteArray) : (cutN s).size ≤ s.size := by
 unfold cutN
 cases endL (bl s)
 ·exact Nat.le_refl _
 ·show (mkB _).size ≤ _
  rw [← bl_len, bl_mkB, List.length_dropLast, bl_len]; omega
theorem lnS_size (s : ByteArray) : (lnS s).size ≤ s.size := by
 unfold lnS
 cases Nat.beq ((bl s).count 10) 0
 ·show (mkB _).size ≤ _
  rw [← bl_len, bl_mkB, List.length_take, bl_len]; omega
 ·exact Nat.le_refl _
theorem rsS_size {s : ByteArray} (h : s.size ≠ 0) : (rsS s).size < s.size := by
 unfold rsS
 cases Nat.beq ((bl s).count 10) 0
 ·show (mkB _).size < _
  rw [← bl_len, bl_mkB, List.length_drop, bl_len]; omega
 ·show mtL.size < _
  have : mtL.size = 0 := rfl
  omega
theorem tree191_eq {tm : Option (Nat × Array Value)} {p : Rws} {s : ByteArray} (hs : s.size ≤ 5000) (ho : p.length ≤ 5000) :
  tree191 tm p s = some ([], (nx87 (.go p s)).1, st87 tm (nx87 (.go p s)).2) := by
 unfold tree191 nx87
 by_cases h0 : s.size = 0
 ·have hb : Nat.beq s.size 0 = true := by rw [Nat.beq_eq]; exact h0
  rw [decide_eq_false (show ¬ ((s.size : Nat) : Int) > 0 by omega)]
  simp only [hb]
  rfl
 ·have hb : Nat.beq s.size 0 = false := by cases hx : Nat.beq s.size 0 with | false => rfl | true => rw [Nat.beq_eq] at hx; omega
  rw [decide_eq_true (show ((s.size : Nat) : Int) > 0 by omega)]
  simp only [hb, cond_true, cond_false]
  have fin : ∀ line r : ByteArray, line = lnS s → r = rsS s → lineT tm p line r (splT (cutN line)) = some ([], (bif lineOk p (endL (bl (lnS s))) (wS s) then ((.normal : X), Sx.go (lineE p (wS s)) (rsS s)) else (.ret, .er p (rsS s))).1, st87 tm (bif lineOk p (endL (bl (lnS s))) (wS s) then ((.normal : X), Sx.go (lineE p (wS s)) (rsS s)) else (.ret, .er p (rsS s))).2) := fun line r e1 e2 => by
   subst e1 e2
   have k1 := lnS_size s
   have k2 := cutN_size (lnS s)
   have k3 : (bl (cutN (lnS s))).count 32 ≤ (bl (cutN (lnS s))).length := List.count_le_length
   rw [bl_len] at k3
   rw [lineT_eq ((Nat.ble_eq ..).mpr (by omega)) ((Nat.ble_eq ..).mpr (by omega)) (by rw [splT_len]; omega) (by rw [splT_len]; omega) (by omega)]
   show (bif lineOk p (endL (bl (lnS s))) (wS s) then nm87 tm (lineE p (wS s)) (rsS s) else rt87 tm p (rsS s)) = _
   cases lineOk p (endL (bl (lnS s))) (wS s) <;> rfl
  by_cases hc : (bl s).count 10 = 0
  ·have hi : ixI s 10 = -1 := ix_none hc
   have hcb : Nat.beq ((bl s).count 10) 0 = true := by rw [Nat.beq_eq]; exact hc
   rw [hi]
   exact fin s mtL (by unfold lnS; rw [hcb]; rfl) (by unfold rsS; rw [hcb]; rfl)
  ·obtain ⟨m, h1, h2, _⟩ := ix_cut (c := 10) (l := bl s) (by omega)
   have hi : ixI s 10 = (m : Int) := h1
   rw [bl_len] at h2
   have hcb : Nat.beq ((bl s).count 10) 0 = false := by cases hx : Nat.beq ((bl s).count 10) 0 with | false => rfl | true => rw [Nat.beq_eq] at hx; omega
   have hx1 : ix1 s = ((m + 1 : Nat) : Int) := by unfold ix1; rw [hi, W_id (by omega) (by omega)]; omega
   have hk : cutOk s ((m + 1 : Nat) : Int) = true := by unfold cutOk; rw [decide_eq_true (show (0 : Int) ≤ ((m + 1 : Nat) : Int) by omega), decide_eq_true (show ((m + 1 : Nat) : Int) ≤ s.size by omega)]; rfl
   rw [hx1, hk, hi, decide_eq_true (show (m : Int) ≥ 0 by omega), Int.toNat_natCast, ext_0, ext_e]
   exact fin _ _ (by unfold lnS; rw [hcb, hi, Int.toNat_natCast]; rfl) (by unfold rsS; rw [hcb, hi, Int.toNat_natCast]; rfl)
def splW (l : List UInt8) : SLs := (spl 32 l).map tupS
def nxP (p : Rws) (l : List UInt8) : Rws := lineE p (splW l)
inductive Rz where
 | bad (p : Rws)
 | good (p : Rws)
def goP : List (List UInt8) → Rws → Rz
 | [], p => .good p
 | [l], p => match l with
   | [] => .good p
   | _ :: _ => .bad p
 | l :: ls, p => bif lineOk p true (splW l) then goP ls (nxP p l) else .bad p
theorem getLast_no {l : List UInt8} (h : l.count 10 = 0) : endL l = false := by
 unfold endL
 cases hx : l.getLast? with
 | none => rfl
 | some x =>
   have hm : x ∈ l := List.mem_of_getLast? hx
   show (x == 10) = false
   rw [beq_eq_false_iff_ne]
   intro e
   subst e
   have := List.count_pos_iff.2 hm
   omega
theorem take_cut {l : List UInt8} {m : Nat} (h : l.drop m = 10 :: l.drop (m + 1)) (hm : m < l.length) : l.take (m + 1) = l.take m ++ [10] := by
 rw [List.take_succ_eq_append_getElem hm]
 have := List.drop_eq_getElem_cons hm
 rw [h] at this
 rw [← (List.cons.inj this).1]
theorem it87 : ∀ (k : Nat) (p : Rws) (s : ByteArray), s.size ≤ k → ∃ f x b, iterN nx87 f (.go p s) = some (x, b) ∧ match goP (spl 10 (bl s)) p with
  | .bad q => x = .ret ∧ ∃ r, b = .er q r
  | .good q => x = .exit 0 ∧ ∃ r, b = .go q r
 | k, p, s, hk => by
   by_cases h0 : s.size = 0
   ·have hl : bl s = [] := List.length_eq_zero_iff.1 (by rw [bl_len]; exact h0)
    refine ⟨1, .exit 0, .go p s, ?_, ?_⟩
    ·have hb : Nat.beq s.size 0 = true := by rw [Nat.beq_eq]; exact h0
     unfold iterN nx87
     simp only [hb]
     rfl
    ·rw [hl]
     exact ⟨rfl, s, rfl⟩
   ·cases k with
    | zero => omega
    | succ k =>
      have hb : Nat.beq s.size 0 = false := by cases hx : Nat.beq s.size 0 with | false => rfl | true => rw [Nat.beq_eq] at hx; omega
      have hlt := rsS_size h0
      by_cases hc : (bl s).count 10 = 0
      ·have hcb : Nat.beq ((bl s).count 10) 0 = true := by rw [Nat.beq_eq]; exact hc
       have hln : lnS s = s := by unfold lnS; rw [hcb]; rfl
       refine ⟨1, .ret, .er p (rsS s), ?_, ?_⟩
       ·unfold iterN nx87
        simp only [hb, hln, getLast_no hc]
        rfl
       ·rw [spl_none hc]
        obtain ⟨a, aa, ha⟩ : ∃ a aa, bl s = a :: aa := by
         cases hx : bl s with
         | nil => exact absurd (by rw [← bl_len, hx]; rfl) h0
         | cons a aa => exact ⟨a, aa, rfl⟩
        rw [ha]
        exact ⟨rfl, _, rfl⟩
      ·obtain ⟨m, h1, h2, h3, h4, h5, h6⟩ := ix_cut (c := 10) (l := bl s) (by omega)
       have hi : (ixI s 10).toNat = m := by show (Lib.indexByte (bl s) 10).toNat = m; rw [h1]; rfl
       have hcb : Nat.beq ((bl s).count 10) 0 = false := by cases hx : Nat.beq ((bl s).count 10) 0 with | false => rfl | true => rw [Nat.beq_eq] at hx; omega
       have hln : lnS s = mkB ((bl s).take m ++ [10]) := by unfold lnS; rw [hcb, hi, take_cut h6 h2]; rfl
       have hrs : bl (rsS s) = (bl s).drop (m + 1) := by unfold rsS; rw [hcb, hi]; exact bl_mkB _
       have hend : endL (bl (lnS s)) = true := by rw [hln, bl_mkB]; unfold endL; rw [List.getLast?_append]; rfl
       have hw : wS s = splW ((bl s).take m) := by
        unfold wS splT splW cutN
        rw [hend, hln, bl_mkB]
        show (spl 32 (bl (mkB ((bl s).take m ++ [10]).dropLast))).map tupS = _
        rw [bl_mkB, List.dropLast_concat]
       obtain ⟨y, ys, hy⟩ : ∃ y ys, spl 10 ((bl s).drop (m + 1)) = y :: ys := by
        cases hx : spl 10 ((bl s).drop (m + 1)) with
        | nil => have := spl_len 10 ((bl s).drop (m + 1)); rw [hx] at this; simp at this
        | cons y ys => exact ⟨y, ys, rfl⟩
       have hgo : goP (spl 10 (bl s)) p = bif lineOk p true (splW ((bl s).take m)) then goP (spl 10 ((bl s).drop (m + 1))) (nxP p ((bl s).take m)) else .bad p := by rw [h4, hy]; rfl
       rw [hgo]
       cases hok : lineOk p true (splW ((bl s).take m)) with
       | false =>
         refine ⟨1, .ret, .er p (rsS s), ?_, rfl, _, rfl⟩
         unfold iterN nx87
         simp only [hb, hend, hw, hok]
         rfl
       | true =>
         obtain ⟨f, x, b, e1, e2⟩ := it87 k (nxP p ((bl s).take m)) (rsS s) (by omega)
         rw [hrs] at e2
         refine ⟨f + 1, x, b, ?_, e2⟩
         unfold iterN
         have : nx87 (.go p s) = (.normal, .go (nxP p ((bl s).take m)) (rsS s)) := by
          unfold nx87
          simp only [hb, hend, hw, hok]
          rfl
         rw [this]
         exact e1
end
end Go.Proofs.YthcpfignhalffaaGreatDoor
namespace Go.Proofs.YthcpfignhalffaaGreatDoor
open Go Go.Am Go.RowKit
set_option maxRecDepth 100000
variable {w0 : World}
noncomputable section
theorem lineE_len (p : Rws) (W : SLs) : (lineE p W).length = p.length + 1 := by
 unfold lineE
 rw [List.length_append, List.length_singleton]
theorem goP_len : ∀ (ls : List (List UInt8)) (p q : Rws), goP ls p = .good q → q.length ≤ p.length + ls.length
 | [], p, q, h => by cases h; exact Nat.le_add_right _ _
 | [l], p, q, h => by
   cases l with
   | nil => cases h; exact Nat.le_add_right _ _
   | cons a l => cases h
 | l :: m :: ls, p, q, h => by
   have h : (bif lineOk p true (splW l) then goP (m :: ls) (nxP p l) else .bad p) = .good q := h
   cases hok : lineOk p true (splW l) with
   | false => rw [hok] at h; cases h
   | true =>
     rw [hok] at h
     have ih := goP_len (m :: ls) (nxP p l) q h
     have e : (nxP p l).length = p.length + 1 := lineE_len p (splW l)
     rw [e] at ih
     simp only [List.length_cons] at ih ⊢
     omega
theorem cs87_gd (h0 : Lib0 w0) : Gds (cgN w0) cs87 := Gds.onH (C := cfg w0) ⟨gd224, gd158 h0, gd159 h0, gd161 h0, gd162 h0, gd73 h0, gd132 h0, gd99 h0, trivial⟩
theorem cgL_ok (h0 : Lib0 w0) : CfgOk (cgL h0) := have ok := at_ok (cgN_ok w0) cs87; ⟨ok.ty, ok.fn, ok.mixed⟩
theorem cgL_sp (h0 : Lib0 w0) : SpecOK (cgL h0) := (at_sp (cgN_sp h0) (cs87_gd h0) : SpecOK ((cgN w0).at cs87))
def inv87 : Sx → Prop
 | .go p s => p.length + s.size ≤ 5000
 | .er .. => False
theorem lL87 (h0 : Lib0 w0) (tm : Option (Nat × Array Value)) {s : ByteArray} (hs : s.size ≤ 4096) {f : Nat} {x : X} {b : Sx} (hit : iterN nx87 f (.go [] s) = some (x, b)) :
  LdT (cgL h0) (ldP 0 (fnOf Tryz.f191).ntmps rel191 (outX 0 x) (st87 tm b)) (.loop B191) (st87 tm (.go [] s)) :=
 ldT_iter (cgL_ok h0) (cgL_sp h0) (N := (fnOf Tryz.f191).ntmps) (rel := rel191) (B := B191) (id := 0) (st87 tm) nx87 inv87
  (fun a ha => by
   cases a with
   | er => exact ha.elim
   | go p s =>
     have ha : p.length + s.size ≤ 5000 := ha
     exact .leaf ((round191 h0 tm p s).trans (tree191_eq (by omega) (by omega))))
  (fun a b ha hn => by
   cases a with
   | er => exact ha.elim
   | go p s =>
     have ha : p.length + s.size ≤ 5000 := ha
     unfold nx87 at hn
     simp only at hn
     cases hb : Nat.beq s.size 0 with
     | true => rw [hb] at hn; cases hn
     | false =>
       rw [hb] at hn
       simp only [cond_false] at hn
       cases hok : lineOk p (endL (bl (lnS s))) (wS s) with
       | false => rw [hok] at hn; cases hn
       | true =>
         rw [hok] at hn
         cases hn
         have hz : s.size ≠ 0 := fun e => by rw [e] at hb; cases hb
         have k1 := rsS_size hz
         have k2 := lineE_len p (wS s)
         show (lineE p (wS s)).length + (rsS s).size ≤ 5000
         omega)
  (a0 := .go [] s) (by show 0 + s.size ≤ 5000; omega) hit
def ld87 (x : X) (rows : Rws) (i e : Int) : Ld := ldP 300036 N87 rel87 x (.val unk :: bx87 rows i e)
theorem lr87 (h0 : Lib0 w0) {s : ByteArray} (hs : s.size ≤ 4096) {f : Nat} {x : X} {b : Sx} (hit : iterN nx87 f (.go [] s) = some (x, b)) (y : X) (q : Rws) (i e : Int)
  (hb : ∀ tm, bodyI (cgL h0) 40 [ldP 0 (fnOf Tryz.f191).ntmps rel191 (outX 0 x) (st87 tm b)] 40 (fnOf Tryz.f191)
    (startI (fnOf Tryz.f191) (ldS N87 (rel87.map (·.1)) (pre87 s)) #[] #[.pointer (some ⟨K0 + 0, 0, none⟩)] (rfPs (fnOf Tryz.f87).body) (rfAs (fnOf Tryz.f87).body) (rfBd (fnOf Tryz.f87).body) tm) 0 rs87 =
    some ([(ldP 0 (fnOf Tryz.f191).ntmps rel191 (outX 0 x) (st87 tm b), .loop B191, st191 tm [] s)], y, tm, bx87 q i e)) : LdT (cgL h0) (ld87 y q i e) rf87 (pre87 s) :=
 ldT_range (C := cgL h0) (cgL_ok h0) (cgL_sp h0) (id := 300036) (N := N87) (rel := rel87) (pre := pre87 s) (x := y) (ds' := bx87 q i e) (tf := 36) (rs := rs87) (fd := fnOf Tryz.f191) (py := 0) (xs := #[]) (ys := #[.pointer (some ⟨K0 + 0, 0, none⟩)]) (g := 191) rfl (by kernel_rfl) rfl rfl
  fun tm => ⟨40, 40, _, _, hb tm, lL87 h0 tm hs hit, trivial⟩
def hdP (s : ByteArray) : X × Rws × Int × Int := match goP (spl 10 (bl s)) [] with
 | .bad q => (.ret, q, (q.length : Nat), 25)
 | .good q => (.normal, q, 0, 0)
theorem lines87 (h0 : Lib0 w0) {s : ByteArray} (hs : s.size ≤ 4096) : LdT (cgL h0) (ld87 (hdP s).1 (hdP s).2.1 (hdP s).2.2.1 (hdP s).2.2.2) rf87 (pre87 s) := by
 obtain ⟨f, x, b, hit, hgo⟩ := it87 s.size [] s (Nat.le_refl _)
 unfold hdP
 cases hg : goP (spl 10 (bl s)) [] with
 | bad q =>
   rw [hg] at hgo
   obtain ⟨rfl, r, rfl⟩ := hgo
   exact lr87 h0 hs hit .ret q (q.length : Nat) 25 fun tm => iter87r h0 s tm q (q.length : Nat) 25 r
 | good q =>
   rw [hg] at hgo
   obtain ⟨rfl, r, rfl⟩ := hgo
   exact lr87 h0 hs hit .normal q 0 0 fun tm => iter87n h0 s tm q r
end
end Go.Proofs.YthcpfignhalffaaGreatDoor
