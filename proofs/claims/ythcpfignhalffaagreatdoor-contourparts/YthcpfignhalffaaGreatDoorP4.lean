/-
 A part of the proof of the statement that the claim names: see the last file.
-/
import Derived.Test.YthcpfignhalffaaGreatDoorP2
import Derived.Test.YthcpfignhalffaaGreatDoorP3
import Derived.Test.YthcpfignhalffaaGreatDoorC6
import Derived.Test.YthcpfignhalffaaGreatDoorAm5
namespace Go.Proofs.YthcpfignhalffaaGreatDoor
open Go Go.Am Go.RowKit
set_option maxRecDepth 100000
variable {w0 : World}
noncomputable section
def hdR (q : Rws) : TLi := (nth q (Int.toNat 0 + 0)).1
def gW (q : Rws) : Int := (nth (hdR q) (Int.toNat 0 + 0)).1
def gH (q : Rws) : Int := (nth (hdR q) (Int.toNat 1 + 0)).1
def tlQ (q : Rws) : RwQ := List.take (((q.length : Nat) : Int).toNat - Int.toNat 1) (List.drop (0 + Int.toNat 1) q)
def gR (q : Rws) : Gr := ⟨gW q, gH q, flQ (tlQ q)⟩
def inA (n : Nat) (j : Int) : Bool := Nat.beq 1 1 && (decide (0 ≤ j) && decide (j < (n : Nat)))
def cut1 (n : Nat) : Bool := decide ((0 : Int) ≤ 1) && (decide ((1 : Int) ≤ (n : Nat)) && decide (((n : Nat) : Int) ≤ (n : Nat)))
def apQ (q : Rws) : Bool := (tlQ q).any (neQ (gR q))
def e87 (ap : Bool) (q : Rws) : Int := firstZ [whenZ ap 2, chkG (gR q)]
def gtT (s : ByteArray) : Int := firstZ [whenZ (decide (((s.size : Nat) : Int) > 4096)) 26, whenZ (s.toList == mtL.toList) 25]
def nl3 (i e : Int) : D := .tup [.agg [I 0, I 0, nilD], I i, I e]
def ob87 (y : X) (q : Rws) (i e : Int) (s : ByteArray) : Obs := [(ld87 y q i e, rf87, pre87 s)]
def end87 (o : Obs) (q : Rws) : Bo' :=
 gOd (inA q.length 0) (gOd (inA (hdR q).length 0) (gOd (inA q.length 0) (gOd (inA (hdR q).length 1) (gOd (cut1 q.length) (gOd (smQ (tlQ q)) (gOd (cut1 q.length) (gOd (smR (tlQ q)) (
  bif IntKind.i64.wrap (((q.length : Nat) : Int) - 1) != gH q then gOd (smG (gR q)) (some (o, nl3 (q.length : Nat) (e87 true q)))
  else gOd (smG (gR q)) (bif e87 (apQ q) q != 0 then some (o, nl3 (q.length : Nat) (e87 (apQ q) q)) else some (o, .tup [gD (gR q), I 0, I 0]))))))))))
theorem body87r (h0 : Lib0 w0) (s : ByteArray) (q : Rws) (i e : Int) : bodyT (cgL h0) 40 [ld87 .ret q i e] 40 (fnOf Tryz.f87) [St_ s] =
  bif gtT s != 0 then some ([], nl3 0 (gtT s)) else some (ob87 .ret q i e s, .tup [.agg [I 0, I 0, .vec intK []], I i, I e]) := by kernel_rfl
theorem body87n (h0 : Lib0 w0) (s : ByteArray) (q : Rws) (i e : Int) : bodyT (cgL h0) 40 [ld87 .normal q i e] 40 (fnOf Tryz.f87) [St_ s] =
  bif gtT s != 0 then some ([], nl3 0 (gtT s)) else end87 (ob87 .normal q i e s) q := by kernel_rfl
end
end Go.Proofs.YthcpfignhalffaaGreatDoor
namespace Go.Proofs.YthcpfignhalffaaGreatDoor
open Go Go.Am Go.RowKit
set_option maxRecDepth 100000
variable {w0 : World}
noncomputable section
theorem giveOK_nil_agg2 {G : Gl} {GB : Nat} {w w' : World} {ks : List Kd} (hf : okK ks = true) (hs : 0 < ks.length) {a b e f : Value} (ha : scal a = true) (hb : scal b = true) (he : scal e = true) (hf2 : scal f = true) {u : Value} (h : GiveOK G GB w w' (.tup [.agg [.val a, .val b, .val (.slice none 0 0)], .val e, .val f]) u) : GiveOK G GB w w' (.tup [.agg [.val a, .val b, .vec ks []], .val e, .val f]) u := fun r0 h0 H0 => by
 obtain ⟨r1, S, H, v⟩ := h r0 h0 H0
 simp only [imp, imps] at S H v ⊢
 obtain ⟨a1, a2, _⟩ := H.nothing hf hs [] rfl true
 refine ⟨_, S.trans a2, a1, ?_⟩
 obtain ⟨us, rfl, hus⟩ : ∃ us : List Value, u = .tuple us.toArray ∧ VRs r1 [.agg #[a, b, .slice none 0 0], e, f] us := by
  cases v
  ·rename_i hh; simp [Am.scal] at hh
  ·rename_i xs' hx hh; exact ⟨xs'.toList, by simp, VRs.of_arr hx hh⟩
 refine VRs.tup ?_
 obtain ⟨u0, u1, u2, rfl⟩ : ∃ u0 u1 u2, us = [u0, u1, u2] := by
  have := hus.1
  match us, this with
  | [x, y, z], _ => exact ⟨x, y, z, rfl⟩
 obtain ⟨y0, e0, v0⟩ := hus.2 0 _ rfl
 obtain ⟨y1, e1, v1⟩ := hus.2 1 _ rfl
 obtain ⟨y2, e2, v2⟩ := hus.2 2 _ rfl
 simp only [List.getElem?_cons_zero, List.getElem?_cons_succ, Option.some.injEq] at e0 e1 e2
 subst e0 e1 e2
 have := v1.scal_eq he
 subst this
 have := v2.scal_eq hf2
 subst this
 obtain ⟨zs, hz, hzs⟩ : ∃ zs : List Value, u0 = Value.agg zs.toArray ∧ VRs r1 [a, b, .slice none 0 0] zs := by
  cases v0
  ·exact ⟨[a, b, .slice none 0 0], rfl, rfl, fun j x hj => ⟨x, hj, by
    match j, hj with
    | 0, hj => cases hj; exact .scal _ ha
    | 1, hj => cases hj; exact .scal _ hb
    | 2, hj => cases hj; exact .scal _ rfl⟩⟩
  ·rename_i xs' hx hh; exact ⟨xs'.toList, by simp, VRs.of_arr hx hh⟩
 subst hz
 obtain ⟨z0, z1, z2, rfl⟩ : ∃ z0 z1 z2, zs = [z0, z1, z2] := by
  have := hzs.1
  match zs, this with
  | [x, y, z], _ => exact ⟨x, y, z, rfl⟩
 obtain ⟨x0, f0, k0⟩ := hzs.2 0 _ rfl
 obtain ⟨x1, f1, k1⟩ := hzs.2 1 _ rfl
 obtain ⟨x2, f2, k2⟩ := hzs.2 2 _ rfl
 simp only [List.getElem?_cons_zero, List.getElem?_cons_succ, Option.some.injEq] at f0 f1 f2
 subst f0 f1 f2
 have := k0.scal_eq ha
 subst this
 have := k1.scal_eq hb
 subst this
 have := k2.scal_eq rfl
 subst this
 refine VRs.cons (.agg _ _ rfl fun j h1 h2 => ?_) (VRs.cons (.scal _ he) (VRs.cons (.scal _ hf2) (VRs.nil _)))
 match j, h1 with
 | 0, _ => exact .scal _ ha
 | 1, _ => exact .scal _ hb
 | 2, _ => exact VR.asl (K0 + h0.length) 0 ks.length _ (.slice none 0 0) (Ren.put_self ..) (by omega) ⟨rfl, hs, by simp, .inl ⟨rfl, .inl rfl⟩⟩
abbrev P3 := Gr × Int × Int
def p3D (x : P3) : D := .tup [gD x.1, I x.2.1, I x.2.2]
theorem fnD_nl3 {g : FuncId} {ds : List D} {i e : Int} (h : FnD (cfg w0) g ds (nl3 i e)) : FnD (cfg w0) g ds (p3D (g0, i, e)) := fun w args hb hi =>
 (h w args hb hi).mono fun _ _ ⟨u, a, b⟩ => ⟨u, a, giveOK_nil_agg2 (ks := intK) rfl (by decide) rfl rfl rfl rfl b⟩
def fz87 (q : Rws) : P3 :=
 bif e87 ((((q.length : Nat) : Int) - 1 != gH q) || apQ q) q != 0 then (g0, (q.length : Nat), e87 ((((q.length : Nat) : Int) - 1 != gH q) || apQ q) q) else (gR q, 0, 0)
def rz87 : Rz → P3
 | .bad q => (g0, (q.length : Nat), 25)
 | .good q => fz87 q
def parP (s : ByteArray) : P3 := bif gtT s != 0 then (g0, 0, gtT s) else rz87 (goP (spl 10 (bl s)) [])
def sumL : List (List UInt8) → Nat
 | [] => 0
 | l :: ls => l.length + sumL ls
theorem spl_sum (c : UInt8) : ∀ l : List UInt8, sumL (spl c l) ≤ l.length
 | [] => Nat.le_refl _
 | b :: l => by
   have ih := spl_sum c l
   cases hb : (b == c) with
   | true =>
     rw [spl_t hb]
     show 0 + sumL (spl c l) ≤ l.length + 1
     omega
   | false =>
     rw [spl_f hb]
     cases hs : spl c l with
     | nil => simp only [consH, sumL, List.length_cons, List.length_nil]; omega
     | cons y ys =>
       rw [hs] at ih
       have : sumL (y :: ys) = y.length + sumL ys := rfl
       show (b :: y).length + sumL ys ≤ l.length + 1
       rw [List.length_cons]
       omega
theorem goL_len (l : List UInt8) : (goL (splW l)).1.length ≤ l.length := by
 unfold goL
 rw [goW_len, wsL_eq, List.length_drop]
 unfold splW
 rw [List.length_map, spl_len]
 have := List.count_le_length (a := (32 : UInt8)) (l := l)
 simp only [List.length_nil]
 omega
theorem flQ_line (p : Rws) (W : SLs) : flQ (lineE p W) = flQ p ++ (goL W).1 := by
 unfold lineE
 rw [flQ_app, flQ_cons, flQ_nil, List.append_nil]
 rfl
theorem goP_fl : ∀ (ls : List (List UInt8)) (p q : Rws), goP ls p = .good q → (flQ q).length ≤ (flQ p).length + sumL ls
 | [], p, q, h => by cases h; exact Nat.le_add_right _ _
 | [l], p, q, h => by
   cases l with
   | nil => cases h; exact Nat.le_add_right _ _
   | cons a l => cases h
 | l :: m :: ls, p, q, h => by
   have h : (bif lineOk p true (splW l) then goP (m :: ls) (nxP p l) else .bad p) = .good q := h
   cases hok : lineOk p true (splW l) with
   | false => rw [hok] at h; cases h
   | true =>
     rw [hok] at h
     have ih := goP_fl (m :: ls) (nxP p l) q h
     have e : (flQ (nxP p l)).length = (flQ p).length + (goL (splW l)).1.length := by
      show (flQ (lineE p (splW l))).length = _
      rw [flQ_line, List.length_append]
     have := goL_len l
     show _ ≤ (flQ p).length + (l.length + sumL (m :: ls))
     omega
theorem goP_hd : ∀ (ls : List (List UInt8)) (p q : Rws), goP ls p = .good q → p ≠ [] → nth q 0 = nth p 0 ∧ q ≠ []
 | [], p, q, h, hp => by cases h; exact ⟨rfl, hp⟩
 | [l], p, q, h, hp => by
   cases l with
   | nil => cases h; exact ⟨rfl, hp⟩
   | cons a l => cases h
 | l :: m :: ls, p, q, h, hp => by
   have h : (bif lineOk p true (splW l) then goP (m :: ls) (nxP p l) else .bad p) = .good q := h
   cases hok : lineOk p true (splW l) with
   | false => rw [hok] at h; cases h
   | true =>
     rw [hok] at h
     obtain ⟨h1, h2⟩ := goP_hd (m :: ls) (nxP p l) q h (by show p ++ _ ≠ []; simp)
     refine ⟨h1.trans ?_, h2⟩
     cases p with
     | nil => exact absurd rfl hp
     | cons x p => rfl
theorem goP_first {L : List UInt8} {q : Rws} (h : goP (spl 10 L) [] = .good q) (hL : L ≠ []) : q ≠ [] ∧ (hdR q).length = 2 := by
 cases hs : spl 10 L with
 | nil => have := spl_len 10 L; rw [hs] at this; simp at this
 | cons l ls =>
   rw [hs] at h
   cases ls with
   | nil =>
     cases l with
     | nil =>
       exfalso
       have h1 := spl_len 10 L
       rw [hs] at h1
       have h1 : L.count 10 = 0 := by simpa using h1.symm
       have := spl_none h1
       rw [hs] at this
       simp only [List.cons.injEq, and_true] at this
       exact hL this.symm
     | cons a l => cases h
   | cons m ls =>
     have h : (bif lineOk [] true (splW l) then goP (m :: ls) (nxP [] l) else .bad []) = .good q := h
     cases hok : lineOk [] true (splW l) with
     | false => rw [hok] at h; cases h
     | true =>
       rw [hok] at h
       obtain ⟨h1, h2⟩ := goP_hd (m :: ls) (nxP [] l) q h (by show [] ++ _ ≠ []; simp)
       refine ⟨h2, ?_⟩
       have e : hdR q = (goL (splW l)).1 := by
        show (nth q 0).1 = _
        rw [h1]
        rfl
       rw [e]
       unfold lineOk mayL at hok
       simp only [Bool.true_and, Bool.and_eq_true, List.length_nil] at hok
       have := hok.2.2
       rw [show Nat.beq 0 0 = true from rfl] at this
       simpa only [cond_true, Nat.beq_eq] using this
theorem tlQ_eq (q : Rws) : tlQ q = q.drop 1 := by
 unfold tlQ
 rw [Int.toNat_natCast]
 show (q.drop 1).take (q.length - 1) = q.drop 1
 rw [List.take_of_length_le (by rw [List.length_drop]; omega)]
theorem flQ_drop_le (rows : RwQ) (j : Nat) : (flQ (rows.drop j)).length ≤ (flQ rows).length := by
 conv => rhs; rw [← List.take_append_drop j rows]
 rw [flQ_app, List.length_append]
 omega
theorem inA_t {n : Nat} {j : Nat} (h : j < n) : inA n (j : Int) = true := by
 unfold inA
 rw [decide_eq_true (show (0 : Int) ≤ (j : Int) by omega), decide_eq_true (show (j : Int) < (n : Nat) by omega)]; rfl
theorem end87_eq {o : Obs} {q : Rws} (hq : q ≠ []) (h2 : (hdR q).length = 2) (hl : q.length ≤ 5000) (hf : (flQ q).length ≤ 5000) :
  end87 o q = bif e87 ((((q.length : Nat) : Int) - 1 != gH q) || apQ q) q != 0 then some (o, nl3 (q.length : Nat) (e87 ((((q.length : Nat) : Int) - 1 != gH q) || apQ q) q)) else some (o, .tup [gD (gR q), I 0, I 0]) := by
 have hp : 0 < q.length := List.length_pos_iff.2 hq
 have hfd := flQ_drop_le q 1
 have e1 : inA q.length 0 = true := inA_t (j := 0) hp
 have e2 : inA (hdR q).length 0 = true := inA_t (j := 0) (by omega)
 have e3 : inA (hdR q).length 1 = true := inA_t (j := 1) (by omega)
 have e4 : cut1 q.length = true := by
  unfold cut1
  rw [decide_eq_true (show (0 : Int) ≤ 1 by omega), decide_eq_true (show (1 : Int) ≤ (q.length : Nat) by omega), decide_eq_true (show ((q.length : Nat) : Int) ≤ (q.length : Nat) by omega)]; rfl
 have e5 : smQ (tlQ q) = true := by
  unfold smQ
  rw [tlQ_eq, (Nat.ble_eq ..).mpr (by rw [List.length_drop]; omega), (Nat.ble_eq ..).mpr (by omega)]; rfl
 have e6 : smR (tlQ q) = true := by
  unfold smR
  rw [tlQ_eq, (Nat.ble_eq ..).mpr (by rw [List.length_drop]; omega)]
 have e7 : smG (gR q) = true := by
  unfold smG gR
  simp only
  rw [tlQ_eq, (Nat.ble_eq ..).mpr (by omega)]
 unfold end87 gOd
 rw [e1, e2, e3, e4, e5, e6, e7, W_id (by omega) (by omega)]
 simp only [cond_true]
 cases (((q.length : Nat) : Int) - 1 != gH q) with
 | true => rfl
 | false => rfl
theorem gtT_le {s : ByteArray} (h : (gtT s != 0) = false) : s.size ≤ 4096 ∧ bl s ≠ [] := by
 unfold gtT firstZ firstZ firstZ whenZ at h
 cases h1 : decide (((s.size : Nat) : Int) > 4096) with
 | true => rw [h1] at h; cases h
 | false =>
   rw [h1] at h
   refine ⟨by have := of_decide_eq_false h1; omega, fun e => ?_⟩
   have h2 : (s.toList == mtL.toList) = true := by
    rw [str_eq, e]; rfl
   rw [h2] at h
   cases h
theorem fn87 (h0 : Lib0 w0) (s : ByteArray) : FnD (cfg w0) 87 [St_ s] (p3D (parP s)) := by
 have fin : ∀ {L : List Ld} {o : Obs} {d : D}, bodyT (cgL h0) 40 L 40 (fnOf Tryz.f87) [St_ s] = some (o, d) → Owed (cgL h0) o → FnD (cfg w0) 87 [St_ s] d :=
  fun h hO => fnD_on (C := cgN w0) (cs := cs87) (show FnD ((cgN w0).at cs87) 87 _ _ from bodyT_sound (C := cgL h0) (cgL_ok h0) (cgL_sp h0) (g := 87) (fd := fnOf Tryz.f87) rfl h hO)
 unfold parP
 cases hc : (gtT s != 0) with
 | true =>
   have hb := body87r h0 s [] 0 0
   rw [hc] at hb
   exact fnD_nl3 (fin hb trivial)
 | false =>
   obtain ⟨hs, hne⟩ := gtT_le hc
   have hld := lines87 h0 hs
   unfold hdP at hld
   simp only [cond_false]
   cases hg : goP (spl 10 (bl s)) [] with
   | bad q =>
     rw [hg] at hld
     have hb := body87r h0 s q (q.length : Nat) 25
     rw [hc] at hb
     exact fin hb ⟨hld, trivial⟩
   | good q =>
     rw [hg] at hld
     have hb := body87n h0 s q 0 0
     rw [hc] at hb
     obtain ⟨h1, h2⟩ := goP_first hg hne
     have h3 := goP_len _ _ _ hg
     have h4 := goP_fl _ _ _ hg
     have h5 := spl_sum 10 (bl s)
     have h6 := spl_len 10 (bl s)
     have h7 := List.count_le_length (a := (10 : UInt8)) (l := bl s)
     rw [bl_len] at h5 h7
     simp only [cond_false] at hb
     rw [end87_eq h1 h2 (by simp only [List.length_nil] at h3; omega) (by simp only [flQ_nil, List.length_nil] at h4; omega)] at hb
     show FnD (cfg w0) 87 [St_ s] (p3D (fz87 q))
     unfold fz87
     cases he : (e87 ((((q.length : Nat) : Int) - 1 != gH q) || apQ q) q != 0) with
     | true =>
       rw [he] at hb
       exact fnD_nl3 (fin hb ⟨hld, trivial⟩)
     | false =>
       rw [he] at hb
       exact fin hb ⟨hld, trivial⟩
def c87 : Ct := ct 87 [.c .str] fun a => .leaf (p3D (parP a.1))
theorem gd87 (h0 : Lib0 w0) : Gd (cfg w0) c87 := gd_sig fun a d hd => by
 obtain ⟨s, u⟩ := a
 cases hd
 exact fn87 h0 s
end
end Go.Proofs.YthcpfignhalffaaGreatDoor
namespace Go.Proofs.YthcpfignhalffaaGreatDoor
open Go Go.Am Go.RowKit
set_option maxRecDepth 100000
theorem scan_c2 (b : UInt8) (l : List UInt8) (n : Int) : scan (b :: l) n = bif decide (((b.toNat : Nat) : Int) < 48) || decide (((b.toNat : Nat) : Int) > 57) then (n, true) else scan l (10 * n + (b.toNat - 48)) := rfl
theorem scan_dig {d : Nat} (hd : d < 10) (l : List UInt8) (n : Int) : scan (UInt8.ofNat (48 + d) :: l) n = scan l (10 * n + d) := by
 have e : ((UInt8.ofNat (48 + d)).toNat : Int) = 48 + d := by
  rw [UInt8.toNat_ofNat', Nat.mod_eq_of_lt (by omega)]
  omega
 rw [scan_c2, e, decide_eq_false (show ¬ ((48 : Int) + d < 48) by omega), decide_eq_false (show ¬ ((48 : Int) + d > 57) by omega)]
 show scan l (10 * n + (48 + (d : Int) - 48)) = _
 rw [show 10 * n + (48 + (d : Int) - 48) = 10 * n + d by omega]
theorem digs_lt {f n : Nat} {acc : List UInt8} (h : n < 10) : digs (f + 1) n acc = UInt8.ofNat (48 + n) :: acc := by
 unfold digs
 rw [show Nat.blt n 10 = true by exact (Nat.ble_eq ..).mpr h]
theorem digs_ge {f n : Nat} {acc : List UInt8} (h : 10 ≤ n) : digs (f + 1) n acc = digs f (n / 10) (UInt8.ofNat (48 + n % 10) :: acc) := by
 show (match Nat.blt n 10 with | true => _ | false => _) = _
 have : Nat.blt n 10 = false := by
  cases hb : Nat.blt n 10 with
  | false => rfl
  | true =>
    have := Nat.le_of_ble_eq_true hb
    omega
 rw [this]
theorem scan_digs : ∀ (f n : Nat) (acc : List UInt8), n < 10 ^ f → scan (digs f n acc) 0 = scan acc n
 | 0, n, acc, h => by
   rw [Nat.pow_zero] at h
   rw [show n = 0 by omega]
   rfl
 | f + 1, n, acc, h => by
   by_cases hn : n < 10
   ·rw [digs_lt hn, scan_dig hn, show 10 * (0 : Int) + n = n by omega]
   ·rw [digs_ge (by omega), scan_digs f (n / 10) _ (by rw [Nat.pow_succ] at h; omega), scan_dig (Nat.mod_lt _ (by omega))]
    congr 1
    omega
theorem digs_le : ∀ (k f n : Nat) (acc : List UInt8), n < 10 ^ (k + 1) → (digs f n acc).length ≤ k + 1 + acc.length
 | k, 0, n, acc, h => by show acc.length ≤ _; omega
 | 0, f + 1, n, acc, h => by rw [digs_lt (by simpa using h), List.length_cons]; omega
 | k + 1, f + 1, n, acc, h => by
   by_cases hn : n < 10
   ·rw [digs_lt hn, List.length_cons]; omega
   ·rw [digs_ge (by omega)]
    have := digs_le k f (n / 10) (UInt8.ofNat (48 + n % 10) :: acc) (by rw [Nat.pow_succ] at h; omega)
    rw [List.length_cons] at this
    omega
theorem dig_ne {d : Nat} (h0 : 0 < d) (hd : d < 10) : (UInt8.ofNat (48 + d) == 48) = false := by
 rw [beq_eq_false_iff_ne]
 intro e
 have := congrArg UInt8.toNat e
 rw [UInt8.toNat_ofNat', Nat.mod_eq_of_lt (by omega)] at this
 have h48 : (48 : UInt8).toNat = 48 := rfl
 omega
theorem digs_head : ∀ (f n : Nat) (acc : List UInt8), 0 < n → n < 10 ^ f → ∃ b t, digs f n acc = b :: t ∧ (b == 48) = false
 | 0, n, acc, h0, h => by rw [Nat.pow_zero] at h; omega
 | f + 1, n, acc, h0, h => by
   by_cases hn : n < 10
   ·exact ⟨_, _, digs_lt hn, dig_ne h0 hn⟩
   ·rw [digs_ge (by omega)]
    exact digs_head f (n / 10) _ (by omega) (by rw [Nat.pow_succ] at h; omega)
theorem digs_ne : ∀ (f n : Nat) (acc : List UInt8), acc.length < (digs (f + 1) n acc).length
 | f, n, acc => by
   by_cases hn : n < 10
   ·rw [digs_lt hn, List.length_cons]; omega
   ·rw [digs_ge (by omega)]
    cases f with
    | zero => show acc.length < (UInt8.ofNat (48 + n % 10) :: acc).length; rw [List.length_cons]; omega
    | succ f =>
      have := digs_ne f (n / 10) (UInt8.ofNat (48 + n % 10) :: acc)
      rw [List.length_cons] at this
      omega
theorem digs_all : ∀ (f n : Nat) (acc : List UInt8), ∀ b ∈ digs f n acc, b ∈ acc ∨ 48 ≤ b.toNat
 | 0, _, _, b, h => .inl h
 | f + 1, n, acc, b, h => by
   have hd : ∀ d, d < 10 → 48 ≤ (UInt8.ofNat (48 + d)).toNat := fun d hd => by
    rw [UInt8.toNat_ofNat', Nat.mod_eq_of_lt (by omega)]; omega
   by_cases hn : n < 10
   ·rw [digs_lt hn] at h
    rcases List.mem_cons.1 h with e | h
    ·subst e; exact .inr (hd n hn)
    ·exact .inl h
   ·rw [digs_ge (by omega)] at h
    rcases digs_all f (n / 10) _ b h with h | h
    ·rcases List.mem_cons.1 h with e | h
     ·subst e; exact .inr (hd _ (Nat.mod_lt _ (by omega)))
     ·exact .inl h
    ·exact .inr h
theorem itoa_nat (n : Nat) : itoaL (n : Int) = digs 20 n [] := rfl
theorem itoa_count {c : UInt8} (hc : c.toNat < 48) (n : Nat) : (itoaL (n : Int)).count c = 0 := by
 rw [itoa_nat, List.count_eq_zero]
 intro h
 rcases digs_all _ _ _ _ h with h | h
 ·cases h
 ·omega
theorem pow20 {n k : Nat} (h : n < 10 ^ (k + 1)) (hk : k + 1 ≤ 20) : n < 10 ^ 20 := Nat.lt_of_lt_of_le h (Nat.pow_le_pow_right (by omega) hk)
theorem numL_itoa {n k : Nat} {dg : Int} (h : n < 10 ^ (k + 1)) (hk : k + 1 ≤ 20) (hd : ((k + 1 : Nat) : Int) ≤ dg) : numL (itoaL (n : Int)) dg = ((n : Int), false) := by
 have h20 := pow20 h hk
 have hlen := digs_le k 20 n [] h
 have hpos : 0 < (digs 20 n []).length := digs_ne 19 n []
 simp only [List.length_nil] at hlen
 have hz : num0 (itoaL (n : Int)) dg = false := by
  unfold num0
  rw [itoa_nat, decide_eq_false (show ¬ (digs 20 n []).length = 0 by omega), decide_eq_false (show ¬ (((digs 20 n []).length : Int) > dg) by omega)]
  by_cases h0 : n = 0
  ·subst h0; rfl
  ·obtain ⟨b, t, e, hb⟩ := digs_head 20 n [] (by omega) h20
   rw [e]
   show (false || (false || (_ && (some b == some 48)))) = false
   rw [show (some b == some (48 : UInt8)) = (b == 48) from rfl, hb, Bool.and_false]
   rfl
 unfold numL
 rw [hz, itoa_nat]
 show scan (digs 20 n []) 0 = _
 rw [scan_digs 20 n [] h20]
 rfl
end Go.Proofs.YthcpfignhalffaaGreatDoor
namespace Go.Proofs.YthcpfignhalffaaGreatDoor
open Go Go.Am Go.RowKit
set_option maxRecDepth 100000
variable {w0 : World}
noncomputable section
def grid5 : ByteArray := ⟨#[103, 114, 105, 100, 32]⟩
def hd1 (g : Gr) : ByteArray := grid5 ++ itoB g.w
def hd2 (g : Gr) : ByteArray := hd1 g ++ spB
end
end Go.Proofs.YthcpfignhalffaaGreatDoor
namespace Go.Proofs.YthcpfignhalffaaGreatDoor
open Go Go.Am Go.RowKit
set_option maxRecDepth 100000
def okN (l : TLi) : Prop := ∀ x ∈ l, 0 ≤ i1 x ∧ i1 x ≤ maxE
theorem itoN {v : Int} (h : 0 ≤ v ∧ v ≤ maxE) : intL (itoaL v) = (v, true) := by
 obtain ⟨h0, h1⟩ := h
 rw [maxE_val] at h1
 obtain ⟨m, rfl⟩ : ∃ m : Nat, v = (m : Int) := ⟨v.toNat, by omega⟩
 have hn : numL (itoaL (m : Int)) 14 = ((m : Int), false) := numL_itoa (k := 13) (by omega) (by omega) (by omega)
 obtain ⟨e1, e2⟩ := intL_num (itoaL (m : Int))
 rw [hn] at e1 e2
 exact Prod.ext (e2 e1) e1
theorem ito_no {c : UInt8} (hc : c.toNat < 48) {v : Int} (h : 0 ≤ v) : (itoaL v).count c = 0 := by
 obtain ⟨m, rfl⟩ : ∃ m : Nat, v = (m : Int) := ⟨v.toNat, by omega⟩
 exact itoa_count hc m
theorem bl_ito (v : Int) : bl (itoB v) = itoaL v := bl_mkB _
theorem numS_cons (x : Tup intK) (l : TLi) : numS (x :: l) = 32 :: (itoaL (i1 x) ++ numS l) := by
 show (32 :: bl (itoB (i1 x))) ++ numS l = _
 rw [bl_ito]; rfl
theorem spl_nums : ∀ (l : TLi) (w : List UInt8), w.count 32 = 0 → okN l → spl 32 (w ++ numS l) = w :: l.map fun x => itoaL (i1 x)
 | [], w, hw, _ => by
   show spl 32 (w ++ []) = [w]
   rw [List.append_nil, spl_none hw]
 | x :: l, w, hw, h => by
   rw [numS_cons, spl_app hw, spl_nums l _ (ito_no (by decide) (h x (by simp)).1) (fun y hy => h y (by simp [hy]))]
   rfl
theorem num_no {w : List UInt8} (hw : w.count 10 = 0) : ∀ {l : TLi}, okN l → (w ++ numS l).count 10 = 0
 | [], _ => by
   show (w ++ []).count 10 = 0
   rw [List.append_nil, hw]
 | x :: l, h => by
   have ih := num_no hw (l := l) fun y hy => h y (by simp [hy])
   rw [List.count_append] at ih
   rw [numS_cons, List.count_append, List.count_cons, List.count_append, ito_no (by decide) (h x (by simp)).1]
   have : ((32 : UInt8) == 10) = false := by decide
   rw [this]
   simp only [Bool.false_eq_true, if_false]
   omega
theorem goW_nums : ∀ (l o : TLi), okN l → goW (l.map fun x => tupS (itoaL (i1 x))) o false = (o ++ l, false)
 | [], o, _ => by
   rw [List.append_nil]; rfl
 | x :: l, o, h => by
   have hx := itoN (h x (by simp))
   have e : (bl (tupS (itoaL (i1 x))).1) = itoaL (i1 x) := bl_mkB _
   rw [List.map_cons]
   show goW _ (o ++ [t1 (intL (bl (tupS (itoaL (i1 x))).1)).1]) (bif false then true else !(intL (bl (tupS (itoaL (i1 x))).1)).2) = _
   rw [e, hx]
   show goW _ (o ++ [x]) false = _
   rw [goW_nums l _ (fun y hy => h y (by simp [hy]))]
   simp
theorem splW_nums {w : List UInt8} {l : TLi} (hw : w.count 32 = 0) (hl : okN l) : splW (w ++ numS l) = tupS w :: l.map fun x => tupS (itoaL (i1 x)) := by
 unfold splW
 rw [spl_nums l w hw hl, List.map_cons, List.map_map]
 rfl
theorem goL_nums {w : List UInt8} {l : TLi} (hw : w.count 32 = 0) (hl : okN l) : goL (splW (w ++ numS l)) = (l, false) := by
 unfold goL
 rw [splW_nums hw hl, wsL_eq, List.drop_one, List.tail_cons, goW_nums l [] hl, List.nil_append]
theorem w0L_nums {w : List UInt8} {l : TLi} (hw : w.count 32 = 0) (hl : okN l) : bl (w0L (splW (w ++ numS l))) = w := by
 rw [splW_nums hw hl]
 exact bl_mkB w
def ln1 (l : TLi) : List UInt8 := bl wRow ++ numS l
def ln0 (g : Gr) : List UInt8 := bl wGrid ++ numS [t1 g.w, t1 g.h]
theorem goP_cons {l : List UInt8} {ls : List (List UInt8)} (h : ls ≠ []) (p : Rws) : goP (l :: ls) p = bif lineOk p true (splW l) then goP ls (nxP p l) else .bad p := by
 cases ls with
 | nil => exact absurd rfl h
 | cons m ls => rfl
theorem go_row {p : Rws} {l : TLi} (hp : p ≠ []) (hl : okN l) (hn : l ≠ []) : lineOk p true (splW (ln1 l)) = true ∧ nxP p (ln1 l) = p ++ [rowT l] := by
 have e1 := goL_nums (w := bl wRow) (l := l) (by rfl) hl
 have e2 := w0L_nums (w := bl wRow) (l := l) (by rfl) hl
 have hb : Nat.beq p.length 0 = false := by
  cases hx : Nat.beq p.length 0 with
  | false => rfl
  | true => rw [Nat.beq_eq] at hx; exact absurd (List.length_eq_zero_iff.1 hx) hp
 constructor
 ·unfold lineOk mayL wordL ln1
  rw [e1, hb, str_eq, e2]
  simp only [cond_false, beq_self_eq_true, Bool.true_and, Bool.not_false]
  rw [Nat.blt_eq]
  exact List.length_pos_iff.2 hn
 ·unfold nxP lineE ln1
  rw [e1]
theorem go_rows : ∀ (rs : List TLi) (p : Rws) (tl : List (List UInt8)), tl ≠ [] → p ≠ [] → (∀ r ∈ rs, okN r ∧ r ≠ []) → goP (rs.map ln1 ++ tl) p = goP tl (p ++ rs.map rowT)
 | [], p, tl, _, _, _ => by simp
 | r :: rs, p, tl, ht, hp, h => by
   obtain ⟨h1, h2⟩ := go_row hp (h r (by simp)).1 (h r (by simp)).2
   rw [List.map_cons, List.cons_append, goP_cons (by simp [ht]), h1, h2]
   simp only [cond_true]
   rw [go_rows rs _ tl ht (by simp) (fun x hx => h x (by simp [hx]))]
   simp
theorem go_grid {g : Gr} (h : okN [t1 g.w, t1 g.h]) {ls : List (List UInt8)} (hn : ls ≠ []) : goP (ln0 g :: ls) [] = goP ls [rowT [t1 g.w, t1 g.h]] := by
 have e1 := goL_nums (w := bl wGrid) (l := [t1 g.w, t1 g.h]) (by rfl) h
 have e2 := w0L_nums (w := bl wGrid) (l := [t1 g.w, t1 g.h]) (by rfl) h
 have h1 : lineOk [] true (splW (ln0 g)) = true := by
  unfold lineOk mayL wordL ln0
  rw [e1, str_eq, e2]
  rfl
 have h2 : nxP [] (ln0 g) = [rowT [t1 g.w, t1 g.h]] := by
  unfold nxP lineE ln0
  rw [e1]; rfl
 rw [goP_cons hn, h1, h2]
 rfl
theorem spl_rows : ∀ (rs : List TLi) (tl : List UInt8), (∀ r ∈ rs, okN r) → spl 10 (rs.flatMap (fun r => ln1 r ++ [10]) ++ tl) = rs.map ln1 ++ spl 10 tl
 | [], tl, _ => by simp
 | r :: rs, tl, h => by
   rw [List.flatMap_cons, List.append_assoc, List.append_assoc, List.singleton_append, spl_app (a := ln1 r) (num_no (by rfl) (h r (by simp))), spl_rows rs tl (fun x hx => h x (by simp [hx]))]
   rfl
theorem bl_rows (g : Gr) : ∀ (ys : List Nat) (s : ByteArray), bl (ys.foldl (fun s y => s ++ lineB wRow (rowG g y)) s) = bl s ++ (ys.map (rowG g)).flatMap (fun r => ln1 r ++ [10])
 | [], s => by simp
 | y :: ys, s => by
   rw [List.foldl_cons, bl_rows g ys, bl_append, lineB_bl, List.map_cons, List.flatMap_cons]
   simp [ln1]
def rowsL (g : Gr) : List TLi := (List.range' 0 g.h.toNat).map (rowG g)
theorem bl_prt (g : Gr) : bl (prtG g) = ln0 g ++ 10 :: (rowsL g).flatMap (fun r => ln1 r ++ [10]) := by
 unfold prtG rowsS hdG
 rw [bl_rows, lineB_bl]
 unfold rowsL ln0
 simp
end Go.Proofs.YthcpfignhalffaaGreatDoor
namespace Go.Proofs.YthcpfignhalffaaGreatDoor
open Go Go.Am Go.RowKit
set_option maxRecDepth 100000
variable {w0 : World}
noncomputable section
structure Qz where
 q : Rws
 i : Int
 r : Int
 e : Int
end
end Go.Proofs.YthcpfignhalffaaGreatDoor
namespace Go.Proofs.YthcpfignhalffaaGreatDoor
open Go Go.Am Go.RowKit
set_option maxRecDepth 100000
variable {w0 : World}
noncomputable section
end
end Go.Proofs.YthcpfignhalffaaGreatDoor
namespace Go.Proofs.YthcpfignhalffaaGreatDoor
open Go Go.Am Go.RowKit
set_option maxRecDepth 100000
variable {w0 : World}
noncomputable section
end
end Go.Proofs.YthcpfignhalffaaGreatDoor
namespace Go.Proofs.YthcpfignhalffaaGreatDoor
open Go Go.Am Go.RowKit
set_option maxRecDepth 100000
variable {w0 : World}
noncomputable section
end
end Go.Proofs.YthcpfignhalffaaGreatDoor
