/-
 A part of the proof of the statement that the claim names: see the last file.
-/
import Derived.Test.YthcpfignhalffaaGreatDoorP2
import Derived.Test.YthcpfignhalffaaGreatDoorAm5
namespace Go.Proofs.YthcpfignhalffaaGreatDoor
open Go Go.Am Go.RowKit
set_option maxRecDepth 100000
variable {w0 : World}
noncomputable section
def idS (s : ByteArray) (i : Int) : Bool := decide (0 ≤ i) && decide (i < s.size)
def byI (s : ByteArray) (i : Int) : Int := (((s.get! i.toNat).toNat : Nat) : Int)
def digB (b : UInt8) : Bool := decide (((b.toNat : Nat) : Int) < 48) || decide (((b.toNat : Nat) : Int) > 57)
def stepG (s : ByteArray) (i : Nat) (n : Int) : X × Int := bif digB (s.get! i) then (.ret, n) else (.normal, 10 * n + ((s.get! i).toNat - 48))
end
end Go.Proofs.YthcpfignhalffaaGreatDoor
namespace Go.Proofs.YthcpfignhalffaaGreatDoor
open Go Go.Am Go.RowKit
set_option maxRecDepth 100000
variable {w0 : World}
noncomputable section
def rel93 : List (Nat × Cv) := [(0, .id), (1, .id), (5, .ov sK1), (6, .id), (7, .id)]
def st93 (s : ByteArray) (c : Int) (a : Int × Int × SLs) : List D := [St_ s, .val (.int .u8 c), .ovec sK1 a.2.2, I a.2.1, I a.1]
def rmS (o : SLs) : Bool := Nat.ble (o.length * 16) 1000000000000 && Nat.ble o.length 1000000000000
def cutTwo (s : ByteArray) (i j : Int) : Bool := decide (0 ≤ j) && (decide (j ≤ s.size) && (decide (0 ≤ i) && decide (i ≤ j)))
theorem round93 (s : ByteArray) (c i fr : Int) (o : SLs) : rndD ((cfg w0).at []) 40 [] 40 (fnOf Tryz.f93).ntmps rel93 (lpB 0 (fnOf Tryz.f93).body) (st93 s c (i, fr, o)) =
  bif decide (i < s.size) then bif idS s i then bif byI s i == c then bif cutTwo s fr i then bif rmS (o ++ [tS (s.extract fr.toNat i.toNat)]) then
   some ([], .normal, st93 s c (W (i + 1), IntKind.i64.wrap (i + 1), o ++ [tS (s.extract fr.toNat i.toNat)])) else none else none
  else some ([], .normal, st93 s c (W (i + 1), fr, o)) else none else some ([], .exit 0, st93 s c (i, fr, o)) := by kernel_rfl
def ld93 (s : ByteArray) (c : Int) (p : Int × Int × SLs) : Ld := ldP 0 (fnOf Tryz.f93).ntmps rel93 .normal (st93 s c p)
theorem body93 (s : ByteArray) (c : Int) (p : Int × Int × SLs) : bodyT ((cfg w0).at []) 40 [ld93 s c p] 40 (fnOf Tryz.f93) [St_ s, .val (.int .u8 c)] =
  bif cutOk s p.2.1 then bif rmS (p.2.2 ++ [tS (s.extract p.2.1.toNat s.size)]) then some ([(ld93 s c p, .loop (lpB 0 (fnOf Tryz.f93).body), st93 s c (0, 0, []))], .vec sK1 (p.2.2 ++ [tS (s.extract p.2.1.toNat s.size)])) else none else none := by kernel_rfl
theorem spl_app {c : UInt8} : ∀ {a b : List UInt8}, a.count c = 0 → spl c (a ++ c :: b) = a :: spl c b
 | [], b, _ => spl_t (by simp)
 | x :: a, b, h => by
   rw [List.count_cons] at h
   have hx : (x == c) = false := by
    cases hx : (x == c) with
    | false => rfl
    | true => rw [hx] at h; simp at h
   rw [hx] at h
   show spl c (x :: (a ++ c :: b)) = _
   rw [spl_f hx, spl_app (by simpa using h)]
   rfl
def step93 (s : ByteArray) (c : UInt8) (i : Nat) (a : Int × SLs) : X × (Int × SLs) := (.normal, bif s.get! i == c then (((i + 1 : Nat) : Int), a.2 ++ [tS (s.extract a.1.toNat i)]) else a)
theorem run93 (s : ByteArray) (c : UInt8) : ∀ (f i fr : Nat) (o : SLs), i + f = s.size → fr ≤ i → ((((bl s).drop fr).take (i - fr)).count c = 0) → o.length ≤ i →
  ∃ (fr' : Nat) (o' : SLs), rgRun 0 (step93 s c) f i ((fr : Int), o) = (.exit 0, ((s.size : Nat) : Int), (fr' : Int), o') ∧ fr' ≤ s.size ∧ o'.length ≤ s.size ∧ o' ++ [tS (s.extract fr' s.size)] = o ++ (spl c ((bl s).drop fr)).map tupS
 | 0, i, fr, o, h, hf, hc, ho => by
   refine ⟨fr, o, ?_, by omega, by omega, ?_⟩
   ·show (X.exit 0, ((i : Int), ((fr : Int), o))) = _
    rw [show i = s.size by omega]
   ·rw [List.take_of_length_le (by rw [List.length_drop, bl_len]; omega)] at hc
    rw [spl_none hc, ext_e]
    rfl
 | f + 1, i, fr, o, h, hf, hc, ho => by
   unfold rgRun
   have hi : i < s.size := by omega
   cases hx : (s.get! i == c) with
   | true =>
     have e : step93 s c i ((fr : Int), o) = (.normal, (((i + 1 : Nat) : Int), o ++ [tS (s.extract fr i)])) := by unfold step93; rw [hx]; rfl
     rw [e]
     simp only
     obtain ⟨fr', o', h1, h2, h3, h4⟩ := run93 s c f (i + 1) (i + 1) (o ++ [tS (s.extract fr i)]) (by omega) (Nat.le_refl _) (by rw [Nat.sub_self]; rfl) (by simp; omega)
     refine ⟨fr', o', h1, h2, h3, ?_⟩
     rw [h4]
     have hsp : (bl s).drop fr = ((bl s).drop fr).take (i - fr) ++ c :: (bl s).drop (i + 1) := by
      have h5 := List.take_append_drop (i - fr) ((bl s).drop fr)
      rw [List.drop_drop, show fr + (i - fr) = i by omega, drop_get hi, eq_of_beq hx] at h5
      exact h5.symm
     rw [List.append_assoc]
     congr 1
     rw [hsp, spl_app hc]
     show [tS (s.extract fr i)] ++ _ = tS (mkB _) :: _
     have e2 : s.extract fr i = mkB (((bl s).drop fr).take (i - fr)) := bl_inj (by rw [bl_extract, bl_mkB])
     rw [e2]
     rfl
   | false =>
     have e : step93 s c i ((fr : Int), o) = (.normal, ((fr : Int), o)) := by unfold step93; rw [hx]; rfl
     rw [e]
     simp only
     refine run93 s c f (i + 1) fr o (by omega) (by omega) ?_ (by omega)
     rw [show i + 1 - fr = (i - fr) + 1 by omega]
     have hl : i - fr < ((bl s).drop fr).length := by rw [List.length_drop, bl_len]; omega
     rw [List.take_succ_eq_append_getElem hl, List.count_append, hc]
     have h5 : ((bl s).drop fr).drop (i - fr) = s.get! i :: (bl s).drop (i + 1) := by rw [List.drop_drop, show fr + (i - fr) = i by omega, drop_get hi]
     rw [List.drop_eq_getElem_cons hl] at h5
     rw [(List.cons.inj h5).1, List.count_singleton, hx]
     rfl
def okU (c : Int) : Bool := decide (0 ≤ c) && decide (c ≤ 255)
def cU (c : Int) : UInt8 := UInt8.ofNat c.toNat
theorem byI_eq {s : ByteArray} {c : Int} (h : okU c = true) (i : Nat) : (byI s (i : Int) == c) = (s.get! i == cU c) := by
 unfold okU at h
 simp only [Bool.and_eq_true, decide_eq_true_eq] at h
 have hc : ((cU c).toNat : Int) = c := by
  unfold cU
  rw [UInt8.toNat_ofNat', Nat.mod_eq_of_lt (by omega)]
  omega
 show (((s.get! i).toNat : Int) == c) = _
 cases hx : (s.get! i == cU c) with
 | true => rw [eq_of_beq hx, hc]; simp
 | false =>
   rw [beq_eq_false_iff_ne] at hx ⊢
   intro e
   exact hx (UInt8.toNat_inj.1 (by omega))
theorem fn93 (h0 : Lib0 w0) (s : ByteArray) (c : Int) (hg : smS s = true) (hc : okU c = true) : FnD (cfg w0) 93 [St_ s, .val (.int .u8 c)] (.vec sK1 ((spl (cU c) (bl s)).map tupS)) := by
 have hs : s.size ≤ 100000 := Nat.le_of_ble_eq_true hg
 obtain ⟨fr, o, h1, h2, h3, h4⟩ := run93 s (cU c) s.size 0 0 [] (by omega) (Nat.le_refl _) rfl (Nat.le_refl _)
 have hrm : ∀ l : SLs, l.length ≤ 200000 → rmS l = true := fun l hl => by
  unfold rmS
  rw [(Nat.ble_eq ..).mpr (by omega), (Nat.ble_eq ..).mpr (by omega)]
  rfl
 have hld := ldT_rg (at_ok (cfg_ok w0) []) (at_sp h0 (cs := []) trivial) (N := (fnOf Tryz.f93).ntmps) (rel := rel93) (B := lpB 0 (fnOf Tryz.f93).body) (id := 0) (k := s.size) (by omega) (st93 s c) (step93 s (cU c)) (fun i a => ∃ fr : Nat, a.1 = (fr : Int) ∧ fr ≤ i ∧ a.2.length ≤ i)
  (fun i a hi ⟨fr, hf, hle, hl⟩ => .leaf (by
   obtain ⟨x, o⟩ := a
   have hf : x = (fr : Int) := hf
   have hl : o.length ≤ i := hl
   subst hf
   refine (round93 s c (i : Int) (fr : Int) o).trans ?_
   have hid : idS s (i : Int) = true := by unfold idS; rw [decide_eq_true (show (0 : Int) ≤ i by omega), decide_eq_true (show (i : Int) < s.size by omega)]; rfl
   have hcu : cutTwo s (fr : Int) (i : Int) = true := by unfold cutTwo; rw [decide_eq_true (show (0 : Int) ≤ i by omega), decide_eq_true (show (i : Int) ≤ s.size by omega), decide_eq_true (show (0 : Int) ≤ fr by omega), decide_eq_true (show (fr : Int) ≤ i by omega)]; rfl
   rw [lt_t hi, hid, byI_eq hc, hcu, Int.toNat_natCast, Int.toNat_natCast, hrm _ (by rw [List.length_append, List.length_singleton]; omega), W_id (n := (i : Int) + 1) (by omega) (by omega)]
   unfold step93
   cases hx : (s.get! i == cU c) <;> rfl)) (fun i a a' hi ⟨fr, hf, hle, hl⟩ h => by
   cases h
   cases hx : (s.get! i == cU c) with
   | true => exact ⟨i + 1, rfl, Nat.le_refl _, by simp; omega⟩
   | false => exact ⟨fr, hf, by omega, by simp only [cond_false]; omega⟩)
  (fun a _ => .leaf (by obtain ⟨x, o⟩ := a; refine (round93 s c _ x o).trans ?_; rw [ge_f]; rfl)) (a0 := ((0 : Int), ([] : SLs))) ⟨0, rfl, Nat.le_refl _, Nat.le_refl _⟩ h1
 have hb := body93 (w0 := w0) s c (((s.size : Nat) : Int), (fr : Int), o)
 have hco : cutOk s (fr : Int) = true := by unfold cutOk; rw [decide_eq_true (show (0 : Int) ≤ fr by omega), decide_eq_true (show (fr : Int) ≤ s.size by omega)]; rfl
 simp only at hb
 rw [hco, Int.toNat_natCast, hrm _ (by rw [List.length_append, List.length_singleton]; omega), h4] at hb
 exact fnD_lp (cfg_ok w0) h0 (cs := []) trivial (g := 93) (fd := fnOf Tryz.f93) rfl hb hld
def splC (c : UInt8) (s : ByteArray) : SLs := (spl c (bl s)).map tupS
def c93 : Ct := ct 93 [.c .str, .c (.int .u8)] fun a => .br (smS a.1) (.br (okU a.2.1) (.leaf (.vec sK1 (splC (cU a.2.1) a.1))) .bad) .bad
theorem gd93 (h0 : Lib0 w0) : Gd (cfg w0) c93 := gd_sig fun a d hd => by
 obtain ⟨s, c, u⟩ := a
 obtain ⟨h1, hd⟩ := br_run hd
 obtain ⟨h2, hd⟩ := br_run hd
 cases hd
 exact fn93 h0 s c h1 h2
end
end Go.Proofs.YthcpfignhalffaaGreatDoor
namespace Go.Proofs.YthcpfignhalffaaGreatDoor
open Go Go.Am Go.RowKit
set_option maxRecDepth 100000
variable {w0 : World}
noncomputable section
def itoB (n : Int) : ByteArray := mkB (itoaL n)
def in64 (n : Int) : Bool := decide (0 ≤ n) && decide (n ≤ 1000000000000000)
def c189 : Ct := ct 189 [.c ik] fun a => .br (in64 a.1) (.leaf (St_ (itoB a.1))) .bad
theorem in64_le {n : Int} (h : in64 n = true) : 0 ≤ n ∧ n ≤ 1000000000000000 := by
 unfold in64 at h
 simpa only [Bool.and_eq_true, decide_eq_true_eq] using h
theorem itoaF_eq {n : Int} (h : in64 n = true) : itoaF [.val (.int .i64 n)] = some (St_ (itoB n)) := by
 obtain ⟨h1, h2⟩ := in64_le h
 unfold itoaF
 simp only []
 rw [decide_eq_true (show -9223372036854775808 ≤ n by omega), decide_eq_true (show n ≤ 9223372036854775807 by omega)]
 rfl
theorem gd189 (h0 : Lib0 w0) : Gd (cfg w0) c189 := gd_sig fun a d hd => by
 obtain ⟨n, u⟩ := a
 obtain ⟨hg, hd⟩ := br_run hd
 cases hd
 have hm : (cfg w0).mode 189 = .spec itoaF := rfl
 exact h0.1 189 itoaF hm [.val (.int .i64 n)] (St_ (itoB n)) (itoaF_eq hg)
def catB (a b : ByteArray) : Bool := Nat.ble (a.size + b.size) 9223372036854775807
theorem size_app (a b : ByteArray) : (a ++ b).size = a.size + b.size := by rw [← bl_len, bl_append, List.length_append, bl_len, bl_len]
end
end Go.Proofs.YthcpfignhalffaaGreatDoor
namespace Go.Proofs.YthcpfignhalffaaGreatDoor
open Go Go.Am Go.RowKit
set_option maxRecDepth 100000
variable {w0 : World}
noncomputable section
theorem imps_vecs {G : Gl} {GB : Nat} {w : World} (b : Base G GB w) {l : SLs} (hl : 0 < l.length) {sep : Value} (hsep : Am.scal sep = true) {us : List Value}
  (h : ImpsOK G GB w [.vec sK1 l, .val sep] us) :
  ∃ bk o cap, us = [.slice (some ⟨bk, o, none⟩) l.length cap, sep] ∧ bk < w.heap.size ∧ l.length ≤ cap ∧ ∀ (j : Nat) x, (l.map fun x => (show ByteArray from x.1))[j]? = some x → w.cell? ⟨bk, o + j, none⟩ = some (.string x) := by
 obtain ⟨r1, _, H1, hv, _⟩ := h.at [] _ b.empty (fun k ⟨_, _, _, h2, _⟩ => by cases h2)
 simp only [imps, imp] at hv H1
 have hl2 : us.length = 2 := by rw [← hv.1]; rfl
 match us, hl2 with
 | [u1, u2], _ =>
   obtain ⟨x1, e1, v1⟩ := hv.2 0 _ rfl
   obtain ⟨x2, e2, v2⟩ := hv.2 1 _ rfl
   simp at e1 e2
   subst e1 e2
   have hsep2 := v2.scal_eq hsep
   subst hsep2
   obtain ⟨t, hr, hk, ⟨hz, hzp, hvs⟩, _⟩ := v1.vs'
   have hat : (Heap.at ([] ++ [AObj.vec sK1 l false]) (K0 + 0)) = .vec sK1 l false := by
    have := at_snoc [] (AObj.vec sK1 l false) (K0 + 0)
    simpa using this
   obtain ⟨t', hr', hlt, hob⟩ := H1.obj (K0 + 0) (by simp only [List.length_nil] at *; rw [hat]; rfl)
   have hr'' : r1 (K0 + ([] : Heap).length) = some t' := hr'
   rw [hr] at hr''; cases hr''
   rw [hat] at hob
   obtain ⟨_, _, _, hob⟩ := hob
   obtain ⟨_, hrow, _⟩ := hob hl
   rcases hvs with ⟨h0, _⟩ | ⟨_, _, cap, ⟨hc, _⟩, _, rfl⟩
   ·omega
   ·refine ⟨t.blk, t.off + 0 * 1, cap, rfl, hlt, hc, fun j x hx => ?_⟩
    rw [List.getElem?_map] at hx
    cases hj : l[j]? with
    | none => rw [hj] at hx; cases hx
    | some y =>
      rw [hj] at hx
      cases hx
      have := RowIn.vals (ks := sK1) rfl (hrow j y hj) 0 _ rfl
      rw [← show t.off + j * sK1.length + 0 = t.off + 0 * 1 + j by simp]
      exact this
def strL (l : SLs) : List ByteArray := l.map fun x => (show ByteArray from x.1)
def jnL (sep : ByteArray) (l : SLs) : ByteArray := mkB (joinL sep (strL l))
def okJ (sep : ByteArray) (l : SLs) : Bool := Nat.blt 0 l.length && (Nat.ble l.length 100000 && Nat.ble (joinL sep (strL l)).length 1000000)
def cJ : Ct := ct 187 [.v sK1, .c .str] fun a => .br (okJ a.2.1 a.1) (.leaf (St_ (jnL a.2.1 a.1))) .bad
theorem gdJ : Gd (cfg w0) cJ := gd_sig fun a d hd => by
 obtain ⟨l, sep, u⟩ := a
 obtain ⟨hg, hd⟩ := br_run hd
 cases hd
 unfold okJ at hg
 simp only [Bool.and_eq_true, Nat.blt_eq, Nat.ble_eq] at hg
 obtain ⟨e0, e3, e4⟩ := hg
 intro w args hw himp
 obtain ⟨bk, o, cap, ea, hbk, hcap, hcells⟩ := imps_vecs hw e0 (sep := .string sep) rfl himp
 have hll : (strL l).length = @List.length (Tup sK1) l := List.length_map ..
 have ea : args = #[.slice (some ⟨bk, o, none⟩) (strL l).length cap, .string sep] := by rw [hll, ← Array.toArray_toList (xs := args), ea]
 rw [ea]
 have hj : joinL sep (strL l) = Lib.join ((strL l).map (·.data.toList)) sep.data.toList := joinB_eq _ _
 rw [hj] at e4
 refine (Tryz.strings_Join bk o cap (strL l) sep w hcells hbk (by omega) (by omega) (by omega)).mono fun e w' ⟨h1, h2⟩ => ⟨_, h1, ?_⟩
 rw [← hj] at h1 ⊢
 exact give_below h2 rfl
def itT (x : Tup intK) : Tup sK1 := tS (itoB (i1 x))
def rel188 : List (Nat × Cv) := [(8, .id), (9, .id), (10, .id), (5, .ov sK1), (1, .id)]
def st188 (l : TLi) (a : Int × SLs) : List D := [.vec intK l, I l.length, I a.1, .ovec sK1 a.2, .fn 189 [] []]
def rmT (o : SLs) : Bool := Nat.ble (o.length * 16) 1000000000000 && Nat.ble o.length 1000000000000
theorem round188 (l : TLi) (j : Int) (out : SLs) : rndD ((cfg w0).at [c189]) 40 [] 40 (fnOf Tryz.f188).ntmps rel188 (lpB 0 (fnOf Tryz.f188).body) (st188 l (j, out)) =
  bif decide (j < l.length) then bif inO l j then bif in64 (i1 (nth l j.toNat)) then bif rmT (out ++ [itT (nth l j.toNat)]) then some ([], .normal, st188 l (IntKind.i64.wrap (j + 1), out ++ [itT (nth l j.toNat)])) else none else none else none
  else some ([], .exit 0, st188 l (j, out)) := by kernel_rfl
theorem body188 (l : TLi) (j : Int) (ys : SLs) : bodyT ((cfg w0).at [c189]) 40 [ldP 0 (fnOf Tryz.f188).ntmps rel188 .normal (st188 l (j, ys))] 40 (fnOf Tryz.f188) [.vec intK l, .fn 189 [] []] =
  some ([(ldP 0 (fnOf Tryz.f188).ntmps rel188 .normal (st188 l (j, ys)), .loop (lpB 0 (fnOf Tryz.f188).body), st188 l (0, []))], .vec sK1 ys) := by kernel_rfl
def allI (l : TLi) : Bool := l.all fun x => in64 (i1 x)
theorem allI_nth {l : TLi} (h : allI l = true) {j : Nat} (hj : j < l.length) : in64 (i1 (nth l j)) = true := by
 unfold allI at h
 rw [List.all_eq_true] at h
 refine h _ ?_
 rw [show nth l j = l[j] by simp [nth, hj]]
 exact List.getElem_mem hj
theorem fn188 (h0 : Lib0 w0) (l : TLi) (hg : l.length ≤ 100000) (ha : allI l = true) : FnD (cfg w0) 188 [.vec intK l, .fn 189 [] []] (.vec sK1 (l.map itT)) := by
 refine fn_ls h0 (cs := [c189]) ⟨gd189 h0, trivial⟩ (fd := fnOf Tryz.f188) rfl rel188 l (by omega) (st188 l) (fun w a => (X.normal, a ++ [itT w])) (fun j a => a.length = j) (a0 := []) rfl
  (fun j a hj hi => .leaf (by
   have hi : a.length = j := hi
   have hm : rmT (a ++ [itT (nth l j)]) = true := by
    unfold rmT
    rw [List.length_append, List.length_singleton, (Nat.ble_eq ..).mpr (by omega), (Nat.ble_eq ..).mpr (by omega)]; rfl
   rw [round188, show inO l (j : Int) = true from inb 1 hj, lt_t hj, Int.toNat_natCast, allI_nth ha hj, hm]
   rfl)) (fun j a a' _ hi h => by cases h; simp [hi])
  (fun a _ => .leaf (by rw [round188, ge_f]; rfl)) fun x p hx => ?_
 rw [lsRun_fold (h := fun w b => b ++ [itT w]) 0 l 0 [] (fun _ _ _ => rfl), foldl_snoc itT] at hx
 cases hx
 exact body188 l _ _
def c188 : Ct := ct 188 [.v intK, .x] fun a => match isFn 189 a.2.1 with
 | true => .br (Nat.ble (a.1 : TLi).length 100000 && allI a.1) (.leaf (.vec sK1 ((a.1 : TLi).map itT))) .bad
 | false => .bad
theorem gd188 (h0 : Lib0 w0) : Gd (cfg w0) c188 := gd_sig fun a d hd => by
 obtain ⟨l, f, u⟩ := a
 simp only at hd
 cases hb : isFn 189 f with
 | false => rw [hb] at hd; cases hd
 | true =>
   rw [hb] at hd
   obtain ⟨hg, hd⟩ := br_run hd
   cases hd
   cases isFn_eq hb
   rw [Bool.and_eq_true] at hg
   exact fn188 h0 l (Nat.le_of_ble_eq_true hg.1) hg.2
def wdsL (word : ByteArray) (l : TLi) : SLs := [tS word] ++ l.map itT
def lineB (word : ByteArray) (l : TLi) : ByteArray := jnL spB (wdsL word l) ++ nlB
def cs153 : List Ct := [c188, cJ]
def smO (l : TLi) : Bool := Nat.ble l.length 100000 && allI l
theorem run153 (word : ByteArray) (l : TLi) : bodyK ((cfg w0).at cs153) 40 (fnOf Tryz.f153) [St_ word, .vec intK l] =
  bif smO l then bif rmT (wdsL word l) then bif okJ spB (wdsL word l) then bif catB (jnL spB (wdsL word l)) nlB then some (St_ (lineB word l)) else none else none else none else none := by kernel_rfl
def lnOk (word : ByteArray) (l : TLi) : Bool := Nat.ble word.size 100 && (Nat.ble l.length 1000 && allI l)
theorem digs_len : ∀ (f m : Nat) (acc : List UInt8), (digs f m acc).length ≤ acc.length + f
 | 0, _, acc => Nat.le_add_right _ _
 | f + 1, m, acc => by
   unfold digs
   cases Nat.blt m 10 with
   | true => simp only [List.length_cons]; omega
   | false =>
     have := digs_len f (m / 10) (UInt8.ofNat (48 + m % 10) :: acc)
     simp only [List.length_cons] at this
     simp only
     omega
theorem itoB_size {n : Int} (h : 0 ≤ n) : (itoB n).size ≤ 20 := by
 obtain ⟨m, rfl⟩ : ∃ m : Nat, n = (m : Int) := ⟨n.toNat, by omega⟩
 have : (itoB (m : Int)).size = (digs 20 m []).length := by rw [← bl_len]; unfold itoB; rw [bl_mkB]; rfl
 rw [this]
 have := digs_len 20 m []
 simp only [List.length_nil] at this
 omega
theorem cat_ok {a b : ByteArray} (h : a.size + b.size ≤ 10000000) : catB a b = true := (Nat.ble_eq ..).mpr (by omega)
def numS (l : TLi) : List UInt8 := l.flatMap fun x => 32 :: bl (itoB (i1 x))
theorem joinB_cons (sep s : List UInt8) : ∀ (ss : List (List UInt8)), joinB sep (s :: ss) = s ++ ss.flatMap fun x => sep ++ x
 | [] => by simp [joinB]
 | x :: ss => by
   show s ++ (sep ++ joinB sep (x :: ss)) = _
   rw [joinB_cons sep x ss]
   simp
theorem join_line (word : ByteArray) (l : TLi) : joinL spB (strL (wdsL word l)) = bl word ++ numS l := by
 unfold joinL strL wdsL
 rw [List.map_append]
 show joinB spB.data.toList (bl word :: List.map (fun x => x.data.toList) (List.map (fun x : Tup sK1 => (show ByteArray from x.1)) (l.map itT))) = _
 rw [joinB_cons, List.map_map, List.map_map, List.flatMap_map]
 rfl
theorem lineB_bl (word : ByteArray) (l : TLi) : bl (lineB word l) = bl word ++ numS l ++ [10] := by
 unfold lineB jnL
 rw [bl_append, bl_mkB, join_line]
 rfl
theorem numS_len : ∀ (l : TLi), allI l = true → (numS l).length ≤ 21 * l.length
 | [], _ => Nat.le_refl _
 | x :: l, h => by
   unfold allI at h
   rw [List.all_cons, Bool.and_eq_true] at h
   have h1 := numS_len l h.2
   have h2 := itoB_size (in64_le h.1).1
   rw [← bl_len] at h2
   show ((32 :: bl (itoB (i1 x))) ++ numS l).length ≤ _
   rw [List.length_append, List.length_cons, List.length_cons]
   omega
def c153 : Ct := ct 153 [.c .str, .v intK] fun a => .br (lnOk a.1 a.2.1) (.leaf (St_ (lineB a.1 a.2.1))) .bad
theorem fn153 (h0 : Lib0 w0) (word : ByteArray) (l : TLi) (hg : lnOk word l = true) : FnD (cfg w0) 153 [St_ word, .vec intK l] (St_ (lineB word l)) := by
 unfold lnOk at hg
 simp only [Bool.and_eq_true, Nat.ble_eq] at hg
 obtain ⟨g1, g2, g3⟩ := hg
 have hlen : (wdsL word l).length = l.length + 1 := by unfold wdsL; rw [List.length_append, List.length_map, List.length_singleton]; omega
 have hj : (joinL spB (strL (wdsL word l))).length ≤ 22000 := by
  rw [join_line, List.length_append, bl_len]
  have := numS_len l g3
  omega
 refine fnD_k (cfg_ok w0) h0 (cs := cs153) ⟨gd188 h0, gdJ, trivial⟩ (fd := fnOf Tryz.f153) rfl (n := 40) ((run153 word l).trans ?_)
 have e1 : smO l = true := by unfold smO; rw [g3, (Nat.ble_eq ..).mpr (by omega)]; rfl
 have e2 : rmT (wdsL word l) = true := by unfold rmT; rw [hlen, (Nat.ble_eq ..).mpr (by omega), (Nat.ble_eq ..).mpr (by omega)]; rfl
 have e3 : okJ spB (wdsL word l) = true := by unfold okJ; rw [hlen, (Nat.ble_eq ..).mpr (by omega), (Nat.ble_eq ..).mpr (by omega), show Nat.blt 0 (l.length + 1) = true by rw [Nat.blt_eq]; omega]; rfl
 have e4 : catB (jnL spB (wdsL word l)) nlB = true := cat_ok (by
  unfold jnL
  rw [← bl_len, bl_mkB]
  have : nlB.size = 1 := rfl
  omega)
 rw [e1, e2, e3, e4]
 rfl
theorem gd153 (h0 : Lib0 w0) : Gd (cfg w0) c153 := gd_sig fun a d hd => by
 obtain ⟨word, l, u⟩ := a
 obtain ⟨hg, hd⟩ := br_run hd
 cases hd
 exact fn153 h0 word l hg
end
end Go.Proofs.YthcpfignhalffaaGreatDoor
namespace Go.Proofs.YthcpfignhalffaaGreatDoor
open Go Go.Am Go.RowKit
set_option maxRecDepth 100000
variable {w0 : World}
noncomputable section
noncomputable def lp86 (tm : Option (Nat × Array Value)) : ALoop := { state := .ready, pending := none, fn := 0, tmps := [], params := rfPs (fnOf Tryz.f86).body, assign := rfAs (fnOf Tryz.f86).body, body := rfBd (fnOf Tryz.f86).body, tm := tm }
def rs86 : List (Nat × Cw) := [(5, .id)]
def rel190 : List (Nat × Cv) := [(0, .yl rs86), (1, .id), (2, .id), (4, .id)]
noncomputable def st190 (w : Int) (l : TLi) (tm : Option (Nat × Array Value)) (p : Int × ByteArray) : List D := [.yl (fnOf Tryz.f86).ntmps (lp86 tm) [5] [.obox [St_ p.2]], .obox [.vec intK l], .obox [I w], I p.1]
def cs86 : List Ct := [chkC 73, c153]
def rsP (l : TLi) (i : Int) : Int := (((((l.length : Nat) : Int)).toNat - i.toNat : Nat) : Int)
def mnP (w : Int) (l : TLi) (i : Int) : Int := if rsP l i < w then rsP l i else w
def enP (w : Int) (l : TLi) (i : Int) : Int := IntKind.i64.wrap (i + mnP w l i)
def ptP (w : Int) (l : TLi) (i : Int) : TLi := List.take ((enP w l i).toNat - i.toNat) (List.drop i.toNat l)
def g1P (l : TLi) (i : Int) : Bool := decide (0 ≤ i) && (decide (i ≤ (l.length : Nat)) && decide (((l.length : Nat) : Int) ≤ (l.length : Nat)))
def g2P (w : Int) (l : TLi) (i : Int) : Bool := decide (0 ≤ i) && (decide (i < enP w l i) && (decide (enP w l i ≤ enP w l i) && decide (enP w l i ≤ (l.length : Nat))))
noncomputable def tree190 (w : Int) (l : TLi) (tm : Option (Nat × Array Value)) (i : Int) (s : ByteArray) : Rn' :=
 bif decide (i < (l.length : Nat)) then gN (g1P l i) (gN (g2P w l i) (gN (lnOk wRow (ptP w l i)) (gN (catB s (lineB wRow (ptP w l i))) (some ([], .normal, st190 w l tm (IntKind.i64.wrap (i + w), s ++ lineB wRow (ptP w l i)))))))
 else some ([], .exit 0, st190 w l tm (i, s))
theorem round190 (w : Int) (l : TLi) (tm : Option (Nat × Array Value)) (i : Int) (s : ByteArray) : rndD ((cfg w0).at cs86) 40 [] 40 (fnOf Tryz.f190).ntmps rel190 (lpB 0 (fnOf Tryz.f190).body) (st190 w l tm (i, s)) = tree190 w l tm i s := by kernel_rfl
noncomputable def rel86 : List (Nat × Cv) := [(22, .id), (5, .id)]
noncomputable def pre86 (w : Int) (l : TLi) (s : ByteArray) : List D := [.fn 190 [] [.obox [.vec intK l], .obox [I w]], .obox [St_ s]]
theorem iter86 (w : Int) (l : TLi) (s0 : ByteArray) (tm : Option (Nat × Array Value)) (p : Int × ByteArray) : bodyI ((cfg w0).at cs86) 40 [ldP 0 (fnOf Tryz.f190).ntmps rel190 .normal (st190 w l tm p)] 40 (fnOf Tryz.f190)
  (startI (fnOf Tryz.f190) (ldS (fnOf Tryz.f86).ntmps (rel86.map (·.1)) (pre86 w l s0)) #[] #[.pointer (some ⟨K0 + 1, 0, none⟩), .pointer (some ⟨K0 + 2, 0, none⟩)] (rfPs (fnOf Tryz.f86).body) (rfAs (fnOf Tryz.f86).body) (rfBd (fnOf Tryz.f86).body) tm) 0 rs86 =
  some ([(ldP 0 (fnOf Tryz.f190).ntmps rel190 .normal (st190 w l tm p), .loop (lpB 0 (fnOf Tryz.f190).body), st190 w l tm (0, s0))], .normal, tm, [.obox [St_ p.2]]) := by kernel_rfl
noncomputable def rf86 : Code := .rangeFunc (.tmp 22) (rfPs (fnOf Tryz.f86).body) (rfAs (fnOf Tryz.f86).body) (rfBd (fnOf Tryz.f86).body)
noncomputable def ld86 (s : ByteArray) : Ld := ldP 300022 (fnOf Tryz.f86).ntmps rel86 .normal [.val unk, .obox [St_ s]]
def hdG (g : Gr) : ByteArray := lineB wGrid [t1 g.w, t1 g.h]
noncomputable def ob86 (g : Gr) (s : ByteArray) : Obs := [(ld86 s, rf86, pre86 g.w g.l (hdG g))]
abbrev Bo' := Option (Obs × D)
def gOd (b : Bool) (k : Bo') : Bo' := bif b then k else none
theorem body86 (g : Gr) (s : ByteArray) : bodyT ((cfg w0).at cs86) 40 [ld86 s] 40 (fnOf Tryz.f86) [gD g] =
  gOd (smG g) (bif chkG g != 0 then some ([], .tup [St_ mtL, I (chkG g)]) else gOd (lnOk wGrid [t1 g.w, t1 g.h]) (bif decide (g.w < 1) then none else some (ob86 g s, .tup [St_ s, I 0]))) := by cases g; kernel_rfl
end
end Go.Proofs.YthcpfignhalffaaGreatDoor
namespace Go.Proofs.YthcpfignhalffaaGreatDoor
open Go Go.Am Go.RowKit
set_option maxRecDepth 100000
variable {w0 : World}
noncomputable section
def rowG (g : Gr) (y : Nat) : TLi := (g.l.drop (y * g.w.toNat)).take g.w.toNat
def rowsS (g : Gr) (y n : Nat) (s : ByteArray) : ByteArray := (List.range' y n).foldl (fun s y => s ++ lineB wRow (rowG g y)) s
def prtG (g : Gr) : ByteArray := rowsS g 0 g.h.toNat (hdG g)
def prX (g : Gr) : ByteArray × Int := bif chkG g != 0 then (mtL, chkG g) else (prtG g, 0)
theorem maxE_val : maxE = 10000000000000 := rfl
theorem in64_of {n : Int} (h1 : 0 ≤ n) (h2 : n ≤ maxE) : in64 n = true := by
 rw [maxE_val] at h2
 unfold in64
 rw [decide_eq_true h1, decide_eq_true (show n ≤ 1000000000000000 by omega)]; rfl
theorem rowG_ok {g : Gr} (hc : chkG g = 0) (y : Nat) : lnOk wRow (rowG g y) = true := by
 obtain ⟨_, w1, w2, _, _, he⟩ := chk_len hc
 have hl : (rowG g y).length ≤ g.w.toNat := by unfold rowG; rw [List.length_take]; exact Nat.min_le_left _ _
 have ha : allI (rowG g y) = true := by
  unfold allI
  rw [List.all_eq_true]
  intro x hx
  obtain ⟨a, b⟩ := he x (List.mem_of_mem_drop (List.mem_of_mem_take hx))
  exact in64_of a b
 unfold lnOk
 rw [ha, (Nat.ble_eq ..).mpr (show wRow.size ≤ 100 by decide), (Nat.ble_eq ..).mpr (by omega)]; rfl
theorem lineB_size {word : ByteArray} {l : TLi} (h : lnOk word l = true) : (lineB word l).size ≤ 101 + 21 * l.length := by
 unfold lnOk at h
 simp only [Bool.and_eq_true, Nat.ble_eq] at h
 rw [← bl_len, lineB_bl, List.length_append, List.length_append, bl_len]
 have := numS_len l h.2.2
 simp only [List.length_singleton]
 omega
theorem hdG_ok {g : Gr} (hc : chkG g = 0) : lnOk wGrid [t1 g.w, t1 g.h] = true := by
 obtain ⟨_, w1, w2, h1, h2, _⟩ := chk_len hc
 unfold lnOk allI
 rw [(Nat.ble_eq ..).mpr (show wGrid.size ≤ 100 by decide), show Nat.ble [t1 g.w, t1 g.h].length 1000 = true from rfl]
 simp only [List.all_cons, List.all_nil]
 rw [show in64 (i1 (t1 g.w)) = true from in64_of (by show 0 ≤ g.w; omega) (by show g.w ≤ maxE; rw [maxE_val]; omega), show in64 (i1 (t1 g.h)) = true from in64_of (by show 0 ≤ g.h; omega) (by show g.h ≤ maxE; rw [maxE_val]; omega)]
 rfl
def nx86 (g : Gr) (a : Nat × ByteArray) : X × (Nat × ByteArray) := bif Nat.blt a.1 g.h.toNat then (.normal, a.1 + 1, a.2 ++ lineB wRow (rowG g a.1)) else (.exit 0, a)
theorem it86 (g : Gr) : ∀ (n y : Nat) (s : ByteArray), y + n = g.h.toNat → iterN (nx86 g) (n + 1) (y, s) = some (.exit 0, g.h.toNat, rowsS g y n s)
 | 0, y, s, h => by
   have hb : Nat.blt y g.h.toNat = false := by cases hx : Nat.blt y g.h.toNat with | false => rfl | true => rw [Nat.blt_eq] at hx; omega
   unfold iterN nx86
   simp only [hb, cond_false]
   rw [show y = g.h.toNat by omega]; rfl
 | n + 1, y, s, h => by
   have hb : Nat.blt y g.h.toNat = true := by rw [Nat.blt_eq]; omega
   unfold iterN
   have e : nx86 g (y, s) = (.normal, y + 1, s ++ lineB wRow (rowG g y)) := by unfold nx86; simp only [hb, cond_true]
   rw [e]
   simp only
   rw [it86 g n (y + 1) _ (by omega)]
   unfold rowsS
   rw [List.range'_succ, List.foldl_cons]
theorem cs86_gd (h0 : Lib0 w0) : Gds (cfg w0) cs86 := ⟨gd73 h0, gd153 h0, trivial⟩
theorem lL86 (h0 : Lib0 w0) (g : Gr) (hc : chkG g = 0) (tm : Option (Nat × Array Value)) : LdT ((cfg w0).at cs86) (ldP 0 (fnOf Tryz.f190).ntmps rel190 .normal (st190 g.w g.l tm (((g.h.toNat * g.w.toNat : Nat) : Int), prtG g))) (.loop (lpB 0 (fnOf Tryz.f190).body)) (st190 g.w g.l tm (0, hdG g)) := by
 obtain ⟨hlw, w1, w2, h1, h2, he⟩ := chk_len hc
 have hm := chk_mul hc
 obtain ⟨W, hW⟩ : ∃ n : Nat, g.w = (n : Int) := ⟨g.w.toNat, by omega⟩
 obtain ⟨H, hH⟩ : ∃ n : Nat, g.h = (n : Int) := ⟨g.h.toNat, by omega⟩
 have hWn : g.w.toNat = W := by omega
 have hHn : g.h.toNat = H := by omega
 have hL : g.l.length = H * W := by rw [hW, hH, ← Int.natCast_mul] at hm; exact Int.ofNat.inj hm
 have hH16 : H * W ≤ 16 * 16 := Nat.mul_le_mul (by omega) (by omega)
 have hhd := lineB_size (hdG_ok hc)
 have := ldT_iter (at_ok (cfg_ok w0) cs86) (at_sp h0 (cs86_gd h0)) (N := (fnOf Tryz.f190).ntmps) (rel := rel190) (B := lpB 0 (fnOf Tryz.f190).body) (id := 0) (fun a : Nat × ByteArray => st190 g.w g.l tm (((a.1 * g.w.toNat : Nat) : Int), a.2)) (nx86 g)
  (fun a => a.1 ≤ H ∧ a.2.size ≤ 1000 + 1000 * a.1)
  (fun a ⟨ha, hs⟩ => .leaf (by
   obtain ⟨y, s⟩ := a
   simp only at ha hs
   refine (round190 g.w g.l tm _ s).trans ?_
   show tree190 g.w g.l tm ((y * g.w.toNat : Nat) : Int) s = _
   rw [hWn]
   by_cases hy : y < H
   ·have hmul : y * W + W ≤ H * W := by rw [← Nat.succ_mul]; exact Nat.mul_le_mul_right _ hy
    have hrs : rsP g.l ((y * W : Nat) : Int) = ((H * W - y * W : Nat) : Int) := by unfold rsP; rw [Int.toNat_natCast, Int.toNat_natCast, hL]
    have hmn : mnP g.w g.l ((y * W : Nat) : Int) = (W : Int) := by unfold mnP; rw [hrs, hW]; split <;> omega
    have hen : enP g.w g.l ((y * W : Nat) : Int) = ((y * W + W : Nat) : Int) := by unfold enP; rw [hmn, Wid (by omega) (by omega)]; omega
    have hpt : ptP g.w g.l ((y * W : Nat) : Int) = rowG g y := by
     unfold ptP rowG
     rw [hen, hWn, Int.toNat_natCast, Int.toNat_natCast, show y * W + W - y * W = W by omega]
    have h1p : g1P g.l ((y * W : Nat) : Int) = true := by
     unfold g1P
     rw [decide_eq_true (show (0 : Int) ≤ ((y * W : Nat) : Int) by omega), decide_eq_true (by rw [hL]; omega), decide_eq_true (Int.le_refl _)]; rfl
    have h2p : g2P g.w g.l ((y * W : Nat) : Int) = true := by
     unfold g2P
     rw [hen, decide_eq_true (show (0 : Int) ≤ ((y * W : Nat) : Int) by omega), decide_eq_true (by omega), decide_eq_true (Int.le_refl _), decide_eq_true (by rw [hL]; omega)]; rfl
    have hln := rowG_ok hc y
    have hlz := lineB_size hln
    have hlr : (rowG g y).length ≤ 16 := by unfold rowG; rw [List.length_take]; omega
    have hb : Nat.blt y g.h.toNat = true := by rw [Nat.blt_eq]; omega
    have hnx : nx86 g (y, s) = (.normal, y + 1, s ++ lineB wRow (rowG g y)) := by unfold nx86; simp only [hb, cond_true]
    unfold tree190 gN
    rw [decide_eq_true (show ((y * W : Nat) : Int) < (g.l.length : Nat) by rw [hL]; omega), h1p, h2p, hpt, hln, cat_ok (by omega), hnx, Wid (by omega) (by omega), hW,
     show ((y * W : Nat) : Int) + (W : Int) = (((y + 1) * W : Nat) : Int) by rw [Nat.succ_mul]; omega]
    rfl
   ·have hyH : y = H := by omega
    have hb : Nat.blt y g.h.toNat = false := by cases hx : Nat.blt y g.h.toNat with | false => rfl | true => rw [Nat.blt_eq] at hx; omega
    have hnx : nx86 g (y, s) = (.exit 0, y, s) := by unfold nx86; simp only [hb, cond_false]
    unfold tree190
    rw [decide_eq_false (show ¬ ((y * W : Nat) : Int) < (g.l.length : Nat) by rw [hL, hyH]; omega), hnx]
    rfl))
  (fun a b ⟨ha, hs⟩ hn => by
   obtain ⟨y, s⟩ := a
   simp only at ha hs
   unfold nx86 at hn
   cases hb : Nat.blt y g.h.toNat with
   | false => simp only [hb, cond_false] at hn; cases hn
   | true =>
     simp only [hb, cond_true] at hn
     cases hn
     rw [Nat.blt_eq] at hb
     have hlz := lineB_size (rowG_ok hc y)
     have hlr : (rowG g y).length ≤ 16 := by unfold rowG; rw [List.length_take]; omega
     refine ⟨by simp only; omega, ?_⟩
     simp only [size_app]
     omega)
  (a0 := (0, hdG g)) ⟨by omega, by simp only; unfold hdG; simp only [List.length_cons, List.length_nil] at hhd; omega⟩ (it86 g g.h.toNat 0 (hdG g) (by omega))
 rw [Nat.zero_mul] at this
 exact this
theorem fn86 (h0 : Lib0 w0) (g : Gr) (hg : smG g = true) : FnD (cfg w0) 86 [gD g] (.tup [St_ (prX g).1, I (prX g).2]) := by
 unfold prX
 cases hc : (chkG g != 0) with
 | true =>
   refine fnD_t (cfg_ok w0) h0 (cs86_gd h0) (fd := fnOf Tryz.f86) rfl (o := []) ((body86 g mtL).trans ?_) trivial
   rw [hg, hc]; rfl
 | false =>
   have hz : chkG g = 0 := by simpa using hc
   obtain ⟨_, w1, w2, _⟩ := chk_len hz
   have hR : LdT ((cfg w0).at cs86) (ld86 (prtG g)) rf86 (pre86 g.w g.l (hdG g)) :=
    ldT_range (C := (cfg w0).at cs86) (at_ok (cfg_ok w0) cs86) (at_sp h0 (cs86_gd h0)) (id := 300022) (N := (fnOf Tryz.f86).ntmps) (rel := rel86) (pre := pre86 g.w g.l (hdG g)) (x := .normal) (ds' := [.obox [St_ (prtG g)]]) (tf := 22) (rs := rs86) (fd := fnOf Tryz.f190) (py := 0) (xs := #[]) (ys := #[.pointer (some ⟨K0 + 1, 0, none⟩), .pointer (some ⟨K0 + 2, 0, none⟩)]) (g := 190) rfl (by kernel_rfl) rfl rfl
     fun tm => ⟨40, 40, _, _, iter86 g.w g.l (hdG g) tm (((g.h.toNat * g.w.toNat : Nat) : Int), prtG g), lL86 h0 g hz tm, trivial⟩
   refine fnD_t (cfg_ok w0) h0 (cs86_gd h0) (fd := fnOf Tryz.f86) (L := [ld86 (prtG g)]) (o := ob86 g (prtG g)) rfl ((body86 g (prtG g)).trans ?_) ⟨hR, trivial⟩
   rw [hg, hc, hdG_ok hz, decide_eq_false (show ¬ g.w < 1 by omega)]; rfl
end
end Go.Proofs.YthcpfignhalffaaGreatDoor
