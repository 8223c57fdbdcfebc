/-
 A part of the proof of the statement that the claim names: see the last file.
-/
import Derived.Test.YthcpfignhalffaaGreatDoorP2
import Derived.Test.YthcpfignhalffaaGreatDoorP3
import Derived.Test.YthcpfignhalffaaGreatDoorC6
namespace Go.Proofs.YthcpfignhalffaaGreatDoor
open Go Go.Am Go.RowKit
set_option maxRecDepth 100000
variable {w0 : World}
noncomputable section
def hdR (q : Rws) : TLi := (nth q (Int.toNat 0 + 0)).1
def gW (q : Rws) : Int := (nth (hdR q) (Int.toNat 0 + 0)).1
def gH (q : Rws) : Int := (nth (hdR q) (Int.toNat 1 + 0)).1
def tlQ (q : Rws) : RwQ := List.take (((q.length : Nat) : Int).toNat - Int.toNat 1) (List.drop (0 + Int.toNat 1) q)
def gR (q : Rws) : Gr := ⟨gW q, gH q, flQ (tlQ q)⟩
def inA (n : Nat) (j : Int) : Bool := Nat.beq 1 1 && (decide (0 ≤ j) && decide (j < (n : Nat)))
def cut1 (n : Nat) : Bool := decide ((0 : Int) ≤ 1) && (decide ((1 : Int) ≤ (n : Nat)) && decide (((n : Nat) : Int) ≤ (n : Nat)))
def apQ (q : Rws) : Bool := (tlQ q).any (neQ (gR q))
def e87 (ap : Bool) (q : Rws) : Int := firstZ [whenZ ap 2, chkG (gR q)]
def gtT (s : ByteArray) : Int := firstZ [whenZ (decide (((s.size : Nat) : Int) > 4096)) 26, whenZ (s.toList == mtL.toList) 25]
def nl3 (i e : Int) : D := .tup [.agg [I 0, I 0, nilD], I i, I e]
def ob87 (y : X) (q : Rws) (i e : Int) (s : ByteArray) : Obs := [(ld87 y q i e, rf87, pre87 s)]
def end87 (o : Obs) (q : Rws) : Bo' :=
 gOd (inA q.length 0) (gOd (inA (hdR q).length 0) (gOd (inA q.length 0) (gOd (inA (hdR q).length 1) (gOd (cut1 q.length) (gOd (smQ (tlQ q)) (gOd (cut1 q.length) (gOd (smR (tlQ q)) (
  bif IntKind.i64.wrap (((q.length : Nat) : Int) - 1) != gH q then gOd (smG (gR q)) (some (o, nl3 (q.length : Nat) (e87 true q)))
  else gOd (smG (gR q)) (bif e87 (apQ q) q != 0 then some (o, nl3 (q.length : Nat) (e87 (apQ q) q)) else some (o, .tup [gD (gR q), I 0, I 0]))))))))))
theorem body87r (h0 : Lib0 w0) (s : ByteArray) (q : Rws) (i e : Int) : bodyT (cgL h0) 40 [ld87 .ret q i e] 40 (fnOf Tryz.f87) [St_ s] =
  bif gtT s != 0 then some ([], nl3 0 (gtT s)) else some (ob87 .ret q i e s, .tup [.agg [I 0, I 0, .vec intK []], I i, I e]) := by kernel_rfl
theorem body87n (h0 : Lib0 w0) (s : ByteArray) (q : Rws) (i e : Int) : bodyT (cgL h0) 40 [ld87 .normal q i e] 40 (fnOf Tryz.f87) [St_ s] =
  bif gtT s != 0 then some ([], nl3 0 (gtT s)) else end87 (ob87 .normal q i e s) q := by kernel_rfl
end
end Go.Proofs.YthcpfignhalffaaGreatDoor
namespace Go.Proofs.YthcpfignhalffaaGreatDoor
open Go Go.Am Go.RowKit
set_option maxRecDepth 100000
variable {w0 : World}
noncomputable section
theorem giveOK_nil_agg2 {G : Gl} {GB : Nat} {w w' : World} {ks : List Kd} (hf : okK ks = true) (hs : 0 < ks.length) {a b e f : Value} (ha : scal a = true) (hb : scal b = true) (he : scal e = true) (hf2 : scal f = true) {u : Value} (h : GiveOK G GB w w' (.tup [.agg [.val a, .val b, .val (.slice none 0 0)], .val e, .val f]) u) : GiveOK G GB w w' (.tup [.agg [.val a, .val b, .vec ks []], .val e, .val f]) u := fun r0 h0 H0 => by
 obtain ⟨r1, S, H, v⟩ := h r0 h0 H0
 simp only [imp, imps] at S H v ⊢
 obtain ⟨a1, a2, _⟩ := H.nothing hf hs [] rfl true
 refine ⟨_, S.trans a2, a1, ?_⟩
 obtain ⟨us, rfl, hus⟩ : ∃ us : List Value, u = .tuple us.toArray ∧ VRs r1 [.agg #[a, b, .slice none 0 0], e, f] us := by
  cases v
  ·rename_i hh; simp [Am.scal] at hh
  ·rename_i xs' hx hh; exact ⟨xs'.toList, by simp, VRs.of_arr hx hh⟩
 refine VRs.tup ?_
 obtain ⟨u0, u1, u2, rfl⟩ : ∃ u0 u1 u2, us = [u0, u1, u2] := by
  have := hus.1
  match us, this with
  | [x, y, z], _ => exact ⟨x, y, z, rfl⟩
 obtain ⟨y0, e0, v0⟩ := hus.2 0 _ rfl
 obtain ⟨y1, e1, v1⟩ := hus.2 1 _ rfl
 obtain ⟨y2, e2, v2⟩ := hus.2 2 _ rfl
 simp only [List.getElem?_cons_zero, List.getElem?_cons_succ, Option.some.injEq] at e0 e1 e2
 subst e0 e1 e2
 have := v1.scal_eq he
 subst this
 have := v2.scal_eq hf2
 subst this
 obtain ⟨zs, hz, hzs⟩ : ∃ zs : List Value, u0 = Value.agg zs.toArray ∧ VRs r1 [a, b, .slice none 0 0] zs := by
  cases v0
  ·exact ⟨[a, b, .slice none 0 0], rfl, rfl, fun j x hj => ⟨x, hj, by
    match j, hj with
    | 0, hj => cases hj; exact .scal _ ha
    | 1, hj => cases hj; exact .scal _ hb
    | 2, hj => cases hj; exact .scal _ rfl⟩⟩
  ·rename_i xs' hx hh; exact ⟨xs'.toList, by simp, VRs.of_arr hx hh⟩
 subst hz
 obtain ⟨z0, z1, z2, rfl⟩ : ∃ z0 z1 z2, zs = [z0, z1, z2] := by
  have := hzs.1
  match zs, this with
  | [x, y, z], _ => exact ⟨x, y, z, rfl⟩
 obtain ⟨x0, f0, k0⟩ := hzs.2 0 _ rfl
 obtain ⟨x1, f1, k1⟩ := hzs.2 1 _ rfl
 obtain ⟨x2, f2, k2⟩ := hzs.2 2 _ rfl
 simp only [List.getElem?_cons_zero, List.getElem?_cons_succ, Option.some.injEq] at f0 f1 f2
 subst f0 f1 f2
 have := k0.scal_eq ha
 subst this
 have := k1.scal_eq hb
 subst this
 have := k2.scal_eq rfl
 subst this
 refine VRs.cons (.agg _ _ rfl fun j h1 h2 => ?_) (VRs.cons (.scal _ he) (VRs.cons (.scal _ hf2) (VRs.nil _)))
 match j, h1 with
 | 0, _ => exact .scal _ ha
 | 1, _ => exact .scal _ hb
 | 2, _ => exact VR.asl (K0 + h0.length) 0 ks.length _ (.slice none 0 0) (Ren.put_self ..) (by omega) ⟨rfl, hs, by simp, .inl ⟨rfl, .inl rfl⟩⟩
abbrev P3 := Gr × Int × Int
def p3D (x : P3) : D := .tup [gD x.1, I x.2.1, I x.2.2]
theorem fnD_nl3 {g : FuncId} {ds : List D} {i e : Int} (h : FnD (cfg w0) g ds (nl3 i e)) : FnD (cfg w0) g ds (p3D (g0, i, e)) := fun w args hb hi =>
 (h w args hb hi).mono fun _ _ ⟨u, a, b⟩ => ⟨u, a, giveOK_nil_agg2 (ks := intK) rfl (by decide) rfl rfl rfl rfl b⟩
def fz87 (q : Rws) : P3 :=
 bif e87 ((((q.length : Nat) : Int) - 1 != gH q) || apQ q) q != 0 then (g0, (q.length : Nat), e87 ((((q.length : Nat) : Int) - 1 != gH q) || apQ q) q) else (gR q, 0, 0)
def rz87 : Rz → P3
 | .bad q => (g0, (q.length : Nat), 25)
 | .good q => fz87 q
def parP (s : ByteArray) : P3 := bif gtT s != 0 then (g0, 0, gtT s) else rz87 (goP (spl 10 (bl s)) [])
def sumL : List (List UInt8) → Nat
 | [] => 0
 | l :: ls => l.length + sumL ls
theorem spl_sum (c : UInt8) : ∀ l : List UInt8, sumL (spl c l) ≤ l.length
 | [] => Nat.le_refl _
 | b :: l => by
   have ih := spl_sum c l
   cases hb : (b == c) with
   | true =>
     rw [spl_t hb]
     show 0 + sumL (spl c l) ≤ l.length + 1
     omega
   | false =>
     rw [spl_f hb]
     cases hs : spl c l with
     | nil => simp only [consH, sumL, List.length_cons, List.length_nil]; omega
     | cons y ys =>
       rw [hs] at ih
       have : sumL (y :: ys) = y.length + sumL ys := rfl
       show (b :: y).length + sumL ys ≤ l.length + 1
       rw [List.length_cons]
       omega
theorem goL_len (l : List UInt8) : (goL (splW l)).1.length ≤ l.length := by
 unfold goL
 rw [goW_len, wsL_eq, List.length_drop]
 unfold splW
 rw [List.length_map, spl_len]
 have := List.count_le_length (a := (32 : UInt8)) (l := l)
 simp only [List.length_nil]
 omega
theorem flQ_line (p : Rws) (W : SLs) : flQ (lineE p W) = flQ p ++ (goL W).1 := by
 unfold lineE
 rw [flQ_app, flQ_cons, flQ_nil, List.append_nil]
 rfl
theorem goP_fl : ∀ (ls : List (List UInt8)) (p q : Rws), goP ls p = .good q → (flQ q).length ≤ (flQ p).length + sumL ls
 | [], p, q, h => by cases h; exact Nat.le_add_right _ _
 | [l], p, q, h => by
   cases l with
   | nil => cases h; exact Nat.le_add_right _ _
   | cons a l => cases h
 | l :: m :: ls, p, q, h => by
   have h : (bif lineOk p true (splW l) then goP (m :: ls) (nxP p l) else .bad p) = .good q := h
   cases hok : lineOk p true (splW l) with
   | false => rw [hok] at h; cases h
   | true =>
     rw [hok] at h
     have ih := goP_fl (m :: ls) (nxP p l) q h
     have e : (flQ (nxP p l)).length = (flQ p).length + (goL (splW l)).1.length := by
      show (flQ (lineE p (splW l))).length = _
      rw [flQ_line, List.length_append]
     have := goL_len l
     show _ ≤ (flQ p).length + (l.length + sumL (m :: ls))
     omega
theorem goP_hd : ∀ (ls : List (List UInt8)) (p q : Rws), goP ls p = .good q → p ≠ [] → nth q 0 = nth p 0 ∧ q ≠ []
 | [], p, q, h, hp => by cases h; exact ⟨rfl, hp⟩
 | [l], p, q, h, hp => by
   cases l with
   | nil => cases h; exact ⟨rfl, hp⟩
   | cons a l => cases h
 | l :: m :: ls, p, q, h, hp => by
   have h : (bif lineOk p true (splW l) then goP (m :: ls) (nxP p l) else .bad p) = .good q := h
   cases hok : lineOk p true (splW l) with
   | false => rw [hok] at h; cases h
   | true =>
     rw [hok] at h
     obtain ⟨h1, h2⟩ := goP_hd (m :: ls) (nxP p l) q h (by show p ++ _ ≠ []; simp)
     refine ⟨h1.trans ?_, h2⟩
     cases p with
     | nil => exact absurd rfl hp
     | cons x p => rfl
theorem goP_first {L : List UInt8} {q : Rws} (h : goP (spl 10 L) [] = .good q) (hL : L ≠ []) : q ≠ [] ∧ (hdR q).length = 2 := by
 cases hs : spl 10 L with
 | nil => have := spl_len 10 L; rw [hs] at this; simp at this
 | cons l ls =>
   rw [hs] at h
   cases ls with
   | nil =>
     cases l with
     | nil =>
       exfalso
       have h1 := spl_len 10 L
       rw [hs] at h1
       have h1 : L.count 10 = 0 := by simpa using h1.symm
       have := spl_none h1
       rw [hs] at this
       simp only [List.cons.injEq, and_true] at this
       exact hL this.symm
     | cons a l => cases h
   | cons m ls =>
     have h : (bif lineOk [] true (splW l) then goP (m :: ls) (nxP [] l) else .bad []) = .good q := h
     cases hok : lineOk [] true (splW l) with
     | false => rw [hok] at h; cases h
     | true =>
       rw [hok] at h
       obtain ⟨h1, h2⟩ := goP_hd (m :: ls) (nxP [] l) q h (by show [] ++ _ ≠ []; simp)
       refine ⟨h2, ?_⟩
       have e : hdR q = (goL (splW l)).1 := by
        show (nth q 0).1 = _
        rw [h1]
        rfl
       rw [e]
       unfold lineOk mayL at hok
       simp only [Bool.true_and, Bool.and_eq_true, List.length_nil] at hok
       have := hok.2.2
       rw [show Nat.beq 0 0 = true from rfl] at this
       simpa only [cond_true, Nat.beq_eq] using this
theorem tlQ_eq (q : Rws) : tlQ q = q.drop 1 := by
 unfold tlQ
 rw [Int.toNat_natCast]
 show (q.drop 1).take (q.length - 1) = q.drop 1
 rw [List.take_of_length_le (by rw [List.length_drop]; omega)]
theorem flQ_drop_le (rows : RwQ) (j : Nat) : (flQ (rows.drop j)).length ≤ (flQ rows).length := by
 conv => rhs; rw [← List.take_append_drop j rows]
 rw [flQ_app, List.length_append]
 omega
theorem inA_t {n : Nat} {j : Nat} (h : j < n) : inA n (j : Int) = true := by
 unfold inA
 rw [decide_eq_true (show (0 : Int) ≤ (j : Int) by omega), decide_eq_true (show (j : Int) < (n : Nat) by omega)]; rfl
theorem end87_eq {o : Obs} {q : Rws} (hq : q ≠ []) (h2 : (hdR q).length = 2) (hl : q.length ≤ 5000) (hf : (flQ q).length ≤ 5000) :
  end87 o q = bif e87 ((((q.length : Nat) : Int) - 1 != gH q) || apQ q) q != 0 then some (o, nl3 (q.length : Nat) (e87 ((((q.length : Nat) : Int) - 1 != gH q) || apQ q) q)) else some (o, .tup [gD (gR q), I 0, I 0]) := by
 have hp : 0 < q.length := List.length_pos_iff.2 hq
 have hfd := flQ_drop_le q 1
 have e1 : inA q.length 0 = true := inA_t (j := 0) hp
 have e2 : inA (hdR q).length 0 = true := inA_t (j := 0) (by omega)
 have e3 : inA (hdR q).length 1 = true := inA_t (j := 1) (by omega)
 have e4 : cut1 q.length = true := by
  unfold cut1
  rw [decide_eq_true (show (0 : Int) ≤ 1 by omega), decide_eq_true (show (1 : Int) ≤ (q.length : Nat) by omega), decide_eq_true (show ((q.length : Nat) : Int) ≤ (q.length : Nat) by omega)]; rfl
 have e5 : smQ (tlQ q) = true := by
  unfold smQ
  rw [tlQ_eq, (Nat.ble_eq ..).mpr (by rw [List.length_drop]; omega), (Nat.ble_eq ..).mpr (by omega)]; rfl
 have e6 : smR (tlQ q) = true := by
  unfold smR
  rw [tlQ_eq, (Nat.ble_eq ..).mpr (by rw [List.length_drop]; omega)]
 have e7 : smG (gR q) = true := by
  unfold smG gR
  simp only
  rw [tlQ_eq, (Nat.ble_eq ..).mpr (by omega)]
 unfold end87 gOd
 rw [e1, e2, e3, e4, e5, e6, e7, W_id (by omega) (by omega)]
 simp only [cond_true]
 cases (((q.length : Nat) : Int) - 1 != gH q) with
 | true => rfl
 | false => rfl
theorem gtT_le {s : ByteArray} (h : (gtT s != 0) = false) : s.size ≤ 4096 ∧ bl s ≠ [] := by
 unfold gtT firstZ firstZ firstZ whenZ at h
 cases h1 : decide (((s.size : Nat) : Int) > 4096) with
 | true => rw [h1] at h; cases h
 | false =>
   rw [h1] at h
   refine ⟨by have := of_decide_eq_false h1; omega, fun e => ?_⟩
   have h2 : (s.toList == mtL.toList) = true := by
    rw [str_eq, e]; rfl
   rw [h2] at h
   cases h
theorem fn87 (h0 : Lib0 w0) (s : ByteArray) : FnD (cfg w0) 87 [St_ s] (p3D (parP s)) := by
 have fin : ∀ {L : List Ld} {o : Obs} {d : D}, bodyT (cgL h0) 40 L 40 (fnOf Tryz.f87) [St_ s] = some (o, d) → Owed (cgL h0) o → FnD (cfg w0) 87 [St_ s] d :=
  fun h hO => fnD_on (C := cgN w0) (cs := cs87) (show FnD ((cgN w0).at cs87) 87 _ _ from bodyT_sound (C := cgL h0) (cgL_ok h0) (cgL_sp h0) (g := 87) (fd := fnOf Tryz.f87) rfl h hO)
 unfold parP
 cases hc : (gtT s != 0) with
 | true =>
   have hb := body87r h0 s [] 0 0
   rw [hc] at hb
   exact fnD_nl3 (fin hb trivial)
 | false =>
   obtain ⟨hs, hne⟩ := gtT_le hc
   have hld := lines87 h0 hs
   unfold hdP at hld
   simp only [cond_false]
   cases hg : goP (spl 10 (bl s)) [] with
   | bad q =>
     rw [hg] at hld
     have hb := body87r h0 s q (q.length : Nat) 25
     rw [hc] at hb
     exact fin hb ⟨hld, trivial⟩
   | good q =>
     rw [hg] at hld
     have hb := body87n h0 s q 0 0
     rw [hc] at hb
     obtain ⟨h1, h2⟩ := goP_first hg hne
     have h3 := goP_len _ _ _ hg
     have h4 := goP_fl _ _ _ hg
     have h5 := spl_sum 10 (bl s)
     have h6 := spl_len 10 (bl s)
     have h7 := List.count_le_length (a := (10 : UInt8)) (l := bl s)
     rw [bl_len] at h5 h7
     simp only [cond_false] at hb
     rw [end87_eq h1 h2 (by simp only [List.length_nil] at h3; omega) (by simp only [flQ_nil, List.length_nil] at h4; omega)] at hb
     show FnD (cfg w0) 87 [St_ s] (p3D (fz87 q))
     unfold fz87
     cases he : (e87 ((((q.length : Nat) : Int) - 1 != gH q) || apQ q) q != 0) with
     | true =>
       rw [he] at hb
       exact fnD_nl3 (fin hb ⟨hld, trivial⟩)
     | false =>
       rw [he] at hb
       exact fin hb ⟨hld, trivial⟩
def c87 : Ct := ct 87 [.c .str] fun a => .leaf (p3D (parP a.1))
theorem gd87 (h0 : Lib0 w0) : Gd (cfg w0) c87 := gd_sig fun a d hd => by
 obtain ⟨s, u⟩ := a
 cases hd
 exact fn87 h0 s
end
end Go.Proofs.YthcpfignhalffaaGreatDoor
namespace Go.Proofs.YthcpfignhalffaaGreatDoor
open Go Go.Am Go.RowKit
set_option maxRecDepth 100000
variable {w0 : World}
noncomputable section
structure Qz where
 q : Rws
 i : Int
 r : Int
 e : Int
def nl3D : D := .obox [I 0, I 0, nilD]
abbrev N89 : Nat := (fnOf Tryz.f89).ntmps
def rel89 : List (Nat × Cv) := [(5, .sv sK1), (6, .id), (7, .ov lsK), (8, .id), (2, .id), (3, .id), (4, .id)]
def st89 (L : SLs) (n : Int) (a : Qz) : List D := [.vec sK1 L, I n, .ovec lsK a.q, I a.i, nl3D, I a.r, I a.e]
def rel89i : List (Nat × Cv) := [(5, .sv sK1), (6, .id), (7, .ov lsK), (8, .id), (9, .sv sK1), (10, .ov intK), (11, .id), (2, .id), (3, .id), (4, .id)]
def st89i (L : SLs) (n : Int) (a : Qz) (W : SLs) (p : Int × TLi × Int × Int) : List D := [.vec sK1 L, I n, .ovec lsK a.q, I a.i, .vec sK1 W, .ovec intK p.2.1, I p.1, nl3D, I p.2.2.1, I p.2.2.2]
def cs89 : List Ct := [c93, dgC 165 14, chkC 20]
def lnL (L : SLs) (i : Int) : ByteArray := (nth L (i.toNat + 0)).1
def wL (L : SLs) (i : Int) : SLs := splC (cU 32) (lnL L i)
abbrev Pi := Int × TLi × Int × Int
def dgW (W : SLs) (k : Int) : Int × Bool := dgL (bl (lnL W k)) 14
theorem round89i (L : SLs) (n : Int) (a : Qz) (W : SLs) (k r e : Int) (l : TLi) : rndD ((cfg w0).at cs89) 40 [] 40 N89 rel89i (lpB 2 (fnOf Tryz.f89).body) (st89i L n a W (k, l, r, e)) =
  bif decide (k < (W.length : Nat)) then gN (inL W k) (bif !(dgW W k).2 then some ([], .ret, st89i L n a W (k, l, a.i, 25)) else gN (rmI (l ++ [t1 (dgW W k).1])) (some ([], .normal, st89i L n a W (IntKind.i64.wrap (k + 1), l ++ [t1 (dgW W k).1], r, e))))
  else some ([], .exit 2, st89i L n a W (k, l, r, e)) := by
 obtain ⟨q, i, r0, e0⟩ := a
 kernel_rfl
def ld89i (L : SLs) (n : Int) (a : Qz) (W : SLs) (x : X) (p : Pi) : Ld := ldP 2 N89 rel89i x (st89i L n a W p)
def rt89 (L : SLs) (n : Int) (a : Qz) : Rn' := some ([], .ret, st89 L n ⟨a.q, a.i, a.i, 25⟩)
def ob89i (L : SLs) (n : Int) (a : Qz) (x : X) (p : Pi) : Obs := [(ld89i L n a (wL L a.i) x p, .loop (lpB 2 (fnOf Tryz.f89).body), st89i L n a (wL L a.i) (1, [], a.r, a.e))]
def nK (L : SLs) (n : Int) (a : Qz) (p : Pi) : Rn' := gN (rmR (a.q ++ [rowT p.2.1])) (some (ob89i L n a .normal p, .normal, st89 L n ⟨a.q ++ [rowT p.2.1], IntKind.i64.wrap (a.i + 1), p.2.2.1, p.2.2.2⟩))
def rK (L : SLs) (n : Int) (a : Qz) (p : Pi) : Rn' := some (ob89i L n a .ret p, .ret, st89 L n ⟨a.q, a.i, p.2.2.1, p.2.2.2⟩)
def chR (L : SLs) (n : Int) (a : Qz) (W : SLs) (K : Rn') : Rn' :=
 bif decide (a.i > 0) then gN (inL W 0) (bif !((w0L W).toList == wRow.toList) then rt89 L n a else bif decide (((W.length : Nat) : Int) < 2) then rt89 L n a else K) else K
def tree89 (L : SLs) (n : Int) (a : Qz) (W : SLs) (K : Rn') : Rn' :=
 bif decide (a.i < n) then gN (inL L a.i) (gN (smS (lnL L a.i)) (bif a.i == 0 then gN (inL W 0) (bif !((w0L W).toList == wGrid.toList) then rt89 L n a else bif (((W.length : Nat) : Int) != 3) then rt89 L n a else chR L n a W K) else chR L n a W K))
 else some ([], .exit 0, st89 L n a)
theorem round89n (L : SLs) (n : Int) (a : Qz) (p : Pi) : rndD ((cfg w0).at cs89) 40 [ld89i L n a (wL L a.i) .normal p] 40 N89 rel89 (lpB 0 (fnOf Tryz.f89).body) (st89 L n a) = tree89 L n a (wL L a.i) (nK L n a p) := by
 obtain ⟨q, i, r0, e0⟩ := a
 obtain ⟨k, l, r, e⟩ := p
 kernel_rfl
theorem round89r (L : SLs) (n : Int) (a : Qz) (p : Pi) : rndD ((cfg w0).at cs89) 40 [ld89i L n a (wL L a.i) .ret p] 40 N89 rel89 (lpB 0 (fnOf Tryz.f89).body) (st89 L n a) = tree89 L n a (wL L a.i) (rK L n a p) := by
 obtain ⟨q, i, r0, e0⟩ := a
 obtain ⟨k, l, r, e⟩ := p
 kernel_rfl
def ld89 (L : SLs) (n : Int) (x : X) (a : Qz) : Ld := ldP 0 N89 rel89 x (st89 L n a)
def rel89c : List (Nat × Cv) := [(6, .id), (7, .ov lsK), (14, .bv intK), (15, .id), (2, .id), (3, .id), (4, .id)]
def st89c (n w h : Int) (q : Rws) (p : Int × TLi × Int × Int) : List D := [I n, .ovec lsK q, .obox [I w, I h, .ovec intK p.2.1], I p.1, nl3D, I p.2.2.1, I p.2.2.2]
def inQ (q : Rws) (j : Int) : Bool := Nat.beq 1 1 && (decide (0 ≤ j) && decide (j < (q.length : Nat)))
def rwA (q : Rws) (j : Int) : TLi := (nth q (j.toNat + 0)).1
theorem round89c (n w h : Int) (q : Rws) (j r e : Int) (l : TLi) : rndD ((cfg w0).at cs89) 40 [] 40 N89 rel89c (lpB 4 (fnOf Tryz.f89).body) (st89c n w h q (j, l, r, e)) =
  bif decide (j < n) then gN (inQ q j) (bif (((rwA q j).length : Nat) : Int) != w then some ([], .ret, st89c n w h q (j, l, n, 2)) else gN (inQ q j) (gN (rmI (l ++ rwA q j)) (some ([], .normal, st89c n w h q (IntKind.i64.wrap (j + 1), l ++ rwA q j, r, e)))))
  else some ([], .exit 4, st89c n w h q (j, l, r, e)) := by kernel_rfl
def ld89c (n w h : Int) (q : Rws) (x : X) (p : Pi) : Ld := ldP 4 N89 rel89c x (st89c n w h q p)
end
end Go.Proofs.YthcpfignhalffaaGreatDoor
