/-
 A part of the proof of the statement that the claim names: see the last file.
-/
import Derived.Test.YtmlglimahbjgbaaGreatDoorS2
import Derived.Test.YtmlglimahbjgbaaGreatDoorS5
namespace Go.Proofs.YtmlglimahbjgbaaGreatDoor
open Go Go.Am Go.RowKit Go.Town
set_option maxRecDepth 100000
variable {w0 : World}
noncomputable section
def joinG : List D → Option (Bool × D)
 | [.sl n sz cs, .val (.string sep)] => match strsOf cs with
   | some ss => some (Nat.beq n ss.length && Nat.beq sz 1 && Nat.ble ss.length 100000 && Nat.ble (joinL sep ss).length 1000000, .val (.string (mkB (joinL sep ss))))
   | none => none
 | _ => none
theorem join_good (h0 : Lib0 w0) : Good w0 ⟨148, joinG⟩ := fun ds d hd => by
 have hm : (cfg w0).mode 148 = .spec joinF := rfl
 refine h0.1 148 joinF hm ds d ?_
 have hd : joinG ds = some (true, d) := hd
 unfold joinG at hd
 split at hd
 ·split at hd
  ·rename_i ss hs
   simp only [Option.some.injEq, Prod.mk.injEq] at hd
   obtain ⟨h1, h2⟩ := hd
   unfold joinF
   simp only
   rw [hs]
   simp only
   rw [h1]
   simp only
   rw [← h2]
   rfl
  ·cases hd
 ·cases hd
def jC : Ct := ⟨148, tG joinG⟩
theorem gd148 (h0 : Lib0 w0) : Gd (cfg w0) jC := gd_of (join_good h0)
def six : List D → Option (Int × Int × Int × Int × Int × Int)
 | [.val (.int .i64 a), .val (.int .i64 b), .val (.int .i64 c), .val (.int .i64 d), .val (.int .i64 e), .val (.int .i64 f)] => some (a, b, c, d, e, f)
 | _ => none
theorem six_inv {cs : List D} {a b c d e f : Int} (h : six cs = some (a, b, c, d, e, f)) : cs = [I a, I b, I c, I d, I e, I f] := by
 unfold six at h
 split at h
 ·cases h; rfl
 ·cases h
def fnIs (g : FuncId) : D → Bool
 | .fn f [] [] => Nat.beq f g
 | _ => false
theorem fnIs_inv {g : FuncId} {d : D} (h : fnIs g d = true) : d = .fn g [] [] := by
 unfold fnIs at h
 split at h
 ·rw [Nat.eq_of_beq_eq_true h]
 ·cases h
def mapG : List D → Option (Bool × D)
 | [.sl n sz cs, f] => match Nat.beq n 6 && (Nat.beq sz 1 && fnIs 150 f), six cs with
   | true, some (a, b, c, d, e, g) => some (in64 a && (in64 b && (in64 c && (in64 d && (in64 e && in64 g)))), .sl 6 1 [St_ (itoB a), St_ (itoB b), St_ (itoB c), St_ (itoB d), St_ (itoB e), St_ (itoB g)])
   | _, _ => none
 | _ => none
theorem run149 (a b c d e g : Int) : bodyK ((cfg w0).at [itC]) 60 (fnOf Tryz.f149) [.sl 6 1 [I a, I b, I c, I d, I e, I g], .fn 150 [] []] =
  bif in64 a then bif in64 b then bif in64 c then bif in64 d then bif in64 e then bif in64 g then some (.sl 6 1 [St_ (itoB a), St_ (itoB b), St_ (itoB c), St_ (itoB d), St_ (itoB e), St_ (itoB g)]) else none else none else none else none else none else none := by kernel_rfl
theorem map_good (h0 : Lib0 w0) : Good w0 ⟨149, mapG⟩ := fun ds d hd => by
 have hd : mapG ds = some (true, d) := hd
 unfold mapG at hd
 split at hd
 ·split at hd
  ·rename_i n sz cs f x y a b c d' e g hb hs
   simp only [Bool.and_eq_true, Nat.beq_eq] at hb
   obtain ⟨rfl, rfl, hf⟩ := hb
   rw [fnIs_inv hf, six_inv hs]
   simp only [Option.some.injEq, Prod.mk.injEq, Bool.and_eq_true] at hd
   obtain ⟨⟨h1, h2, h3, h4, h5, h6⟩, rfl⟩ := hd
   exact fnD_k (cfg_ok w0) h0 (cs := [itC]) ⟨gditC h0, trivial⟩ (fd := fnOf Tryz.f149) rfl (n := 60) ((run149 a b c d' e g).trans (by rw [h1, h2, h3, h4, h5, h6]; rfl))
  ·cases hd
 ·cases hd
def mC : Ct := ⟨149, tG mapG⟩
theorem gd149 (h0 : Lib0 w0) : Gd (cfg w0) mC := gd_of (map_good h0)
def rel86 : List (Nat × Cv) := [(14, .id), (15, .id), (16, .id), (5, .id)]
def st86 (l : WL) (a : Int × ByteArray) : List D := [.vec wallK l, I l.length, I a.1, St_ a.2]
def cs86 : List Ct := [mC, jC, checkC 38]
def st88 (l : WL) (a : Int × ByteArray) : List D := [.vec wallK l, St_ a.2, I a.1]
end
end Go.Proofs.YtmlglimahbjgbaaGreatDoor
namespace Go.Proofs.YtmlglimahbjgbaaGreatDoor
open Go Go.Am Go.RowKit Go.Town
set_option maxRecDepth 100000
variable {w0 : World}
noncomputable section
def inWl (l : WL) (j : Int) : Bool := Nat.beq 7 7 && (decide (0 ≤ j) && decide (j < l.length))
theorem inWl_nat {l : WL} {j : Nat} (h : j < l.length) : inWl l (j : Int) = true := inb 7 h
def fN (x : Tup wallK) : ByteArray := x.1
def f1 (x : Tup wallK) : Int := x.2.1
def f2 (x : Tup wallK) : Int := x.2.2.1
def f3 (x : Tup wallK) : Int := x.2.2.2.1
def f4 (x : Tup wallK) : Int := x.2.2.2.2.1
def f5 (x : Tup wallK) : Int := x.2.2.2.2.2.1
def f6 (x : Tup wallK) : Int := x.2.2.2.2.2.2.1
def wl5 : ByteArray := ⟨#[119, 97, 108, 108, 32]⟩
def lw (x : Tup wallK) : List ByteArray := [walB, fN x, itoB (f1 x), itoB (f2 x), itoB (f3 x), itoB (f4 x), itoB (f5 x), itoB (f6 x)]
def jnB (x : Tup wallK) : ByteArray := mkB (joinL spB (lw x))
def i6 (x : Tup wallK) : Bool := in64 (f1 x) && (in64 (f2 x) && (in64 (f3 x) && (in64 (f4 x) && (in64 (f5 x) && in64 (f6 x)))))
def jOk (x : Tup wallK) : Bool := Nat.beq 8 (lw x).length && Nat.beq 1 1 && Nat.ble (lw x).length 100000 && Nat.ble (joinL spB (lw x)).length 1000000
theorem round86 (l : WL) (i : Int) (s : ByteArray) : rndD ((cfg w0).at cs86) 40 [] 40 (fnOf Tryz.f86).ntmps rel86 (lpB 0 (fnOf Tryz.f86).body) (st86 l (i, s)) =
  bif decide (i < l.length) then gN (inWl l i) (gN (i6 (nth l i.toNat)) (gN (jOk (nth l i.toNat)) (gN (catB (jnB (nth l i.toNat)) nlB) (gN (catB s (jnB (nth l i.toNat) ++ nlB)) (some ([], .normal, st86 l (W (i + 1), s ++ (jnB (nth l i.toNat) ++ nlB))))))))
  else some ([], .exit 0, st86 l (i, s)) := by kernel_rfl
def addT (s : ByteArray) (n : Int) (sep : ByteArray) (k : ByteArray → Rn') : Rn' := gN (in64 n) (gN (catB s (itoB n)) (gN (catB (s ++ itoB n) sep) (k ((s ++ itoB n) ++ sep))))
def t88 (l : WL) (i : Int) (s : ByteArray) (x : Tup wallK) : Rn' :=
 gN (catB s wl5) (gN (catB (s ++ wl5) (fN x)) (gN (catB ((s ++ wl5) ++ fN x) spB) (addT (((s ++ wl5) ++ fN x) ++ spB) (f1 x) spB fun s => addT s (f2 x) spB fun s => addT s (f3 x) spB fun s => addT s (f4 x) spB fun s =>
  addT s (f5 x) spB fun s => addT s (f6 x) nlB fun s => some ([], .normal, st88 l (W (i + 1), s)))))
def ld86 (l : WL) (p : Int × ByteArray) : Ld := ldP 0 (fnOf Tryz.f86).ntmps rel86 .normal (st86 l p)
def ob86 (l : WL) (p : Int × ByteArray) : Obs := [(ld86 l p, .loop (lpB 0 (fnOf Tryz.f86).body), st86 l (0, mtL))]
theorem body86 (l : WL) (p : Int × ByteArray) : bodyT ((cfg w0).at cs86) 40 [ld86 l p] 40 (fnOf Tryz.f86) [.vec wallK l] =
  bif chkAllW l != 0 then some ([], .tup [St_ mtL, I (chkAllW l)]) else some (ob86 l p, .tup [St_ p.2, I 0]) := by kernel_rfl
theorem dgs_len : ∀ (f m : Nat) (acc : List UInt8), (digs f m acc).length ≤ acc.length + f
 | 0, _, acc => Nat.le_add_right _ _
 | f + 1, m, acc => by
   unfold digs
   cases Nat.blt m 10 with
   | true => simp only [List.length_cons]; omega
   | false =>
     have := dgs_len f (m / 10) (UInt8.ofNat (48 + m % 10) :: acc)
     simp only [List.length_cons] at this
     simp only
     omega
theorem itoB_size (n : Int) : (itoB n).size ≤ 21 := by
 unfold itoB
 rw [← bl_len, bl_mkB]
 cases n with
 | ofNat m =>
   show (digs 20 m []).length ≤ 21
   have := dgs_len 20 m []
   simp only [List.length_nil] at this
   omega
 | negSucc m =>
   show (45 :: digs 20 (m + 1) []).length ≤ 21
   have := dgs_len 20 (m + 1) []
   simp only [List.length_nil] at this
   simp only [List.length_cons]
   omega
theorem cat_ok {a b : ByteArray} (h : a.size + b.size ≤ 1000000) : catB a b = true := (Nat.ble_eq ..).mpr (by omega)
theorem join8 (x : Tup wallK) : joinL spB (lw x) = bl walB ++ (bl spB ++ (bl (fN x) ++ (bl spB ++ (bl (itoB (f1 x)) ++ (bl spB ++ (bl (itoB (f2 x)) ++ (bl spB ++ (bl (itoB (f3 x)) ++ (bl spB ++ (bl (itoB (f4 x)) ++ (bl spB ++ (bl (itoB (f5 x)) ++ (bl spB ++ bl (itoB (f6 x))))))))))))))) := rfl
structure OkW (x : Tup wallK) : Prop where
 nm : (fN x).size ≤ 24
 n1 : -1000 ≤ f1 x ∧ f1 x ≤ 1000
 n2 : -1000 ≤ f2 x ∧ f2 x ≤ 1000
 n3 : -1000 ≤ f3 x ∧ f3 x ≤ 1000
 n4 : -1000 ≤ f4 x ∧ f4 x ≤ 1000
 n5 : 1 ≤ f5 x ∧ f5 x ≤ 1000
 n6 : 0 ≤ f6 x ∧ f6 x ≤ 1000
theorem okW_of {x : Tup wallK} (hw : wChk x = 0) : OkW x := by
 unfold wChk chkWall at hw
 rw [firstZ_nil] at hw
 have h0 := hw (whenZ (!isName (fN x)) 8) (by simp [fN])
 have hn : isName (fN x) = true := by
  cases hx : isName (fN x) with
  | true => rfl
  | false => rw [hx] at h0; cases h0
 refine ⟨?_, withinZ_nil.1 (hw (withinZ (f1 x) (-1000) 1000) (by simp [f1])), withinZ_nil.1 (hw (withinZ (f2 x) (-1000) 1000) (by simp [f2])), withinZ_nil.1 (hw (withinZ (f3 x) (-1000) 1000) (by simp [f3])), withinZ_nil.1 (hw (withinZ (f4 x) (-1000) 1000) (by simp [f4])), withinZ_nil.1 (hw (withinZ (f5 x) 1 1000) (by simp [f5])), withinZ_nil.1 (hw (withinZ (f6 x) 0 1000) (by simp [f6]))⟩
 unfold isName at hn
 simp only [Bool.and_eq_true, decide_eq_true_eq] at hn
 exact hn.1.2
theorem in64_t {n : Int} (h : -1000 ≤ n ∧ n ≤ 1000) : in64 n = true := by
 unfold in64
 rw [decide_eq_true (show -1000000000000000 ≤ n by omega), decide_eq_true (show n ≤ 1000000000000000 by omega)]
 rfl
theorem i6_t {x : Tup wallK} (h : OkW x) : i6 x = true := by
 unfold i6
 rw [in64_t h.n1, in64_t h.n2, in64_t h.n3, in64_t h.n4, in64_t (by have := h.n5; omega), in64_t (by have := h.n6; omega)]
 rfl
theorem jn_len {x : Tup wallK} (h : OkW x) : (joinL spB (lw x)).length ≤ 161 := by
 rw [join8]
 have h0 := h.nm
 have h1 := itoB_size (f1 x)
 have h2 := itoB_size (f2 x)
 have h3 := itoB_size (f3 x)
 have h4 := itoB_size (f4 x)
 have h5 := itoB_size (f5 x)
 have h6 := itoB_size (f6 x)
 have hw : walB.size = 4 := rfl
 have hs : spB.size = 1 := rfl
 simp only [List.length_append, bl_len]
 omega
theorem jOk_t {x : Tup wallK} (h : OkW x) : jOk x = true := by
 unfold jOk
 have := jn_len h
 rw [(Nat.ble_eq ..).mpr (show (joinL spB (lw x)).length ≤ 1000000 by omega)]
 rfl
theorem jnB_size {x : Tup wallK} (h : OkW x) : (jnB x).size ≤ 161 := by
 unfold jnB
 rw [← bl_len, bl_mkB]
 exact jn_len h
def lineB (x : Tup wallK) : ByteArray := jnB x ++ nlB
theorem lineB_size {x : Tup wallK} (h : OkW x) : (lineB x).size ≤ 162 := by
 unfold lineB
 rw [size_app]
 have := jnB_size h
 have e : nlB.size = 1 := rfl
 omega
def prtB (l : WL) : ByteArray := l.foldl (fun s x => s ++ lineB x) mtL
theorem chk_walls {l : WL} (h : chkAllW l = 0) : l.length ≤ 32 ∧ ∀ x ∈ l, OkW x := by
 obtain ⟨h1, h2⟩ := chkAll_nil h
 exact ⟨h1, fun x hx => okW_of (h2 x hx)⟩
end
end Go.Proofs.YtmlglimahbjgbaaGreatDoor
namespace Go.Proofs.YtmlglimahbjgbaaGreatDoor
open Go Go.Am Go.RowKit Go.Town
set_option maxRecDepth 100000
variable {w0 : World}
noncomputable section
def gxP (x : Tup wallK) (s : ByteArray) : X × ByteArray := (.normal, s ++ lineB x)
theorem runP (l : WL) : lsRun 0 gxP l 0 mtL = (.exit 0, (((0 + l.length : Nat) : Int), prtB l)) := lsRun_fold (h := fun x s => s ++ lineB x) 0 l 0 _ (fun _ _ _ => rfl)
theorem nth_memW {l : WL} {j : Nat} (h : j < l.length) : nth l j ∈ l := by
 rw [show nth l j = l[j] by simp [nth, h]]
 exact List.getElem_mem h
theorem cs86_gd (h0 : Lib0 w0) : Gds (cfg w0) cs86 := ⟨gd149 h0, gd148 h0, gd38 h0, trivial⟩
theorem l86 (h0 : Lib0 w0) {l : WL} (hc : chkAllW l = 0) : LdT ((cfg w0).at cs86) (ld86 l (((0 + l.length : Nat) : Int), prtB l)) (.loop (lpB 0 (fnOf Tryz.f86).body)) (st86 l (0, mtL)) := by
 obtain ⟨h1, h2⟩ := chk_walls hc
 exact ldT_ls (at_ok (cfg_ok w0) cs86) (at_sp h0 (cs86_gd h0)) (N := (fnOf Tryz.f86).ntmps) (rel := rel86) (B := lpB 0 (fnOf Tryz.f86).body) (id := 0) l (by omega) (st86 l) gxP (fun j s => s.size ≤ 162 * j)
  (fun j s hj hs => .leaf (by
   have hx := h2 _ (nth_memW hj)
   have hb := jnB_size hx
   have e1 : nlB.size = 1 := rfl
   refine (round86 l (j : Int) s).trans ?_
   rw [lt_t hj, inWl_nat hj, Int.toNat_natCast]
   unfold gN
   rw [i6_t hx, jOk_t hx, cat_ok (by omega), cat_ok (a := s) (by rw [size_app]; omega)]
   rfl)) (fun j s s' hj hs h => by
   cases h
   have hb := lineB_size (h2 _ (nth_memW hj))
   rw [size_app]
   omega)
  (fun s _ => .leaf ((round86 l _ s).trans (by rw [ge_f]; rfl))) (a0 := mtL) (by show (0 : Nat) ≤ 162 * 0; omega) (runP l)
def prS (l : WL) : ByteArray := bif chkAllW l != 0 then mtL else prtB l
theorem fn86 (h0 : Lib0 w0) (l : WL) : FnD (cfg w0) 86 [.vec wallK l] (.tup [St_ (prS l), I (chkAllW l)]) := by
 unfold prS
 cases hc : (chkAllW l != 0) with
 | true =>
   have hb := body86 (w0 := w0) l (0, mtL)
   rw [hc] at hb
   exact fnD_t (cfg_ok w0) h0 (cs86_gd h0) (fd := fnOf Tryz.f86) rfl hb trivial
 | false =>
   have hz : chkAllW l = 0 := by simpa using hc
   have hb := body86 (w0 := w0) l (((0 + l.length : Nat) : Int), prtB l)
   rw [hc] at hb
   rw [hz]
   exact fnD_lp (cfg_ok w0) h0 (cs86_gd h0) (g := 86) (fd := fnOf Tryz.f86) rfl hb (l86 h0 hz)
def c86 : Ct := ct 86 [.v wallK] fun a => .leaf (.tup [St_ (prS a.1), I (chkAllW a.1)])
theorem gd86 (h0 : Lib0 w0) : Gd (cfg w0) c86 := gd_sig fun a d hd => by
 obtain ⟨l, u⟩ := a
 cases hd
 exact fn86 h0 l
end
end Go.Proofs.YtmlglimahbjgbaaGreatDoor
namespace Go.Proofs.YtmlglimahbjgbaaGreatDoor
open Go Go.Am Go.RowKit Go.Town
set_option maxRecDepth 100000
variable {w0 : World}
noncomputable section
def rel91 : List (Nat × Cv) := [(6, .id), (7, .id), (8, .id), (3, .ov wallK)]
def st91 (l : List (Tup wallK)) (a : Int × List (Tup wallK)) : List D := [.vec wallK l, I l.length, I a.1, .ovec wallK a.2]
def rel90 : List (Nat × Cv) := [(0, .id), (1, .id), (5, .id), (4, .id)]
def st90 (a b : List (Tup wallK)) (s : Int × Bool) : List D := [.vec wallK a, .vec wallK b, I s.1, Bo s.2]
theorem round91 (l : List (Tup wallK)) (j : Int) (out : List (Tup wallK)) : rndD ((cfg w0).at []) 40 [] 40 (fnOf Tryz.f91).ntmps rel91 (lpB 0 (fnOf Tryz.f91).body) (st91 l (j, out)) =
  bif decide (j < l.length) then
   bif (Nat.beq 7 7 && (decide (0 ≤ j) && decide (j < l.length))) then
    bif (Nat.ble ((out ++ [nth l (j.toNat + 0)]).length * 64) 1000000000000 && Nat.ble (out ++ [nth l (j.toNat + 0)]).length 1000000000000) then some ([], .normal, st91 l (W (j + 1), out ++ [nth l (j.toNat + 0)])) else none
   else none
  else some ([], .exit 0, st91 l (j, out)) := by kernel_rfl
theorem body91 (l : List (Tup wallK)) (j : Int) (out : List (Tup wallK)) : bodyT ((cfg w0).at []) 40 [ldP 0 (fnOf Tryz.f91).ntmps rel91 .normal (st91 l (j, out))] 40 (fnOf Tryz.f91) [.vec wallK l] =
  some ([(ldP 0 (fnOf Tryz.f91).ntmps rel91 .normal (st91 l (j, out)), .loop (lpB 0 (fnOf Tryz.f91).body), st91 l (0, []))], .vec wallK out) := by kernel_rfl
theorem fn91 (h0 : Lib0 w0) (l : List (Tup wallK)) (hg : l.length ≤ 100000) : FnD (cfg w0) 91 [.vec wallK l] (.vec wallK l) := by
 refine fn_ls h0 (cs := []) trivial (fd := fnOf Tryz.f91) rfl rel91 l (by omega) (st91 l) (fun w a => (X.normal, a ++ [w])) (fun j a => a.length = j) (a0 := []) rfl
  (fun j a hj hi => .leaf (by
   have hi : a.length = j := hi
   rw [round91, inb 7 hj, lt_t hj, Int.toNat_natCast, Nat.add_zero, room (by omega) (by omega)]
   rfl)) (fun j a a' _ hi h => by cases h; simp [hi])
  (fun a _ => .leaf (by rw [round91, ge_f]; rfl)) fun x p hx => ?_
 rw [lsRun_fold (h := fun w b => b ++ [w]) 0 l 0 [] (fun _ _ _ => rfl), foldl_snoc (fun w => w)] at hx
 cases hx
 have e : ([] : List (Tup wallK)) ++ l.map (fun w => w) = l := by simp
 rw [e]
 exact body91 l _ l
def c91 : Ct := ct 91 [.v wallK] fun a => .br (Nat.ble (a.1 : List (Tup wallK)).length 100000) (.leaf (.vec wallK a.1)) .bad
theorem gd91 (h0 : Lib0 w0) : Gd (cfg w0) c91 := gd_sig fun a d hd => by
 obtain ⟨hg, hd⟩ := br_run hd
 cases hd
 exact fn91 h0 a.1 (Nat.le_of_ble_eq_true hg)
def nmL (w : Tup wallK) : List UInt8 := (nmW w).toList
def eqWl (x y : Tup wallK) : Bool :=
 (nmL x == nmL y) && ((eqI x.2.1 y.2.1 && (eqI x.2.2.1 y.2.2.1 && true)) && ((eqI x.2.2.2.1 y.2.2.2.1 && (eqI x.2.2.2.2.1 y.2.2.2.2.1 && true)) && (eqI x.2.2.2.2.2.1 y.2.2.2.2.2.1 && (eqI x.2.2.2.2.2.2.1 y.2.2.2.2.2.2.1 && true))))
theorem round90 (a b : List (Tup wallK)) (j : Int) (r : Bool) : rndD ((cfg w0).at []) 40 [] 40 (fnOf Tryz.f90).ntmps rel90 (lpB 0 (fnOf Tryz.f90).body) (st90 a b (j, r)) =
  bif decide (j < a.length) then
   bif (Nat.beq 7 7 && (decide (0 ≤ j) && decide (j < a.length))) then
    bif (Nat.beq 7 7 && (decide (0 ≤ j) && decide (j < b.length))) then
     bif !eqWl (nth a (j.toNat + 0)) (nth b (j.toNat + 0)) then some ([], .ret, st90 a b (j, false)) else some ([], .normal, st90 a b (W (j + 1), r))
    else none
   else none
  else some ([], .exit 0, st90 a b (j, r)) := by kernel_rfl
theorem body90 (a b : List (Tup wallK)) (x : X) (p : Int × Bool) (hx : x = .ret ∨ x = .normal) : bodyT ((cfg w0).at []) 40 [ldP 0 (fnOf Tryz.f90).ntmps rel90 x (st90 a b p)] 40 (fnOf Tryz.f90) [.vec wallK a, .vec wallK b] =
  bif (a.length : Int) != b.length then some ([], Bo false) else
  some ([(ldP 0 (fnOf Tryz.f90).ntmps rel90 x (st90 a b p), .loop (lpB 0 (fnOf Tryz.f90).body), st90 a b (0, false))], onX x (Bo p.2) (Bo true)) := by
 rcases hx with rfl | rfl <;> kernel_rfl
def sameWB (a b : List (Tup wallK)) : Bool := bif (a.length : Int) != b.length then false else !(List.range' 0 a.length).any (fun j => !eqWl (nth a j) (nth b j))
theorem fn90 (h0 : Lib0 w0) (a b : List (Tup wallK)) (hl : a.length ≤ 100000) : FnD (cfg w0) 90 [.vec wallK a, .vec wallK b] (Bo (sameWB a b)) := by
 unfold sameWB
 cases hne : ((a.length : Int) != b.length) with
 | true =>
   exact fnD_t (cfg_ok w0) h0 (cs := []) trivial (fd := fnOf Tryz.f90) rfl (L := [ldP 0 (fnOf Tryz.f90).ntmps rel90 .normal (st90 a b (0, true))]) (o := []) ((body90 a b .normal (0, true) (.inr rfl)).trans (by rw [hne]; rfl)) trivial
 | false =>
   have hab : a.length = b.length := Int.ofNat.inj (by simpa using hne)
   refine fn_rg h0 (cs := []) trivial (fd := fnOf Tryz.f90) rfl rel90 a.length (by omega) (st90 a b) (fun j r => bif !eqWl (nth a j) (nth b j) then (X.ret, false) else (.normal, r)) (fun _ _ => True) (a0 := false) trivial
    (fun j r hj _ => .leaf (by
     rw [round90, inb 7 hj, ← hab, inb 7 hj, lt_t hj, Int.toNat_natCast, Nat.add_zero]
     cases eqWl (nth a j) (nth b j) <;> rfl)) (fun _ _ _ _ _ _ => trivial)
    (fun r _ => .leaf (by rw [round90, ge_f]; rfl)) fun x p hx => ?_
   obtain ⟨q, hq⟩ := rgRun_any (id := 0) (p := fun j => !eqWl (nth a j) (nth b j)) (c := false) a.length 0 false
   rw [hq] at hx
   simp only [cond_false]
   cases hs : (List.range' 0 a.length).any (fun j => !eqWl (nth a j) (nth b j)) <;> rw [hs] at hx <;> cases hx
   ·exact (body90 a b _ _ (.inr rfl)).trans (by rw [hne]; rfl)
   ·exact (body90 a b _ _ (.inl rfl)).trans (by rw [hne]; rfl)
def c90 : Ct := ct 90 [.v wallK, .v wallK] fun a => .br (Nat.ble (a.1 : List (Tup wallK)).length 100000) (.leaf (Bo (sameWB a.1 a.2.1))) .bad
theorem gd90 (h0 : Lib0 w0) : Gd (cfg w0) c90 := gd_sig fun a d hd => by
 obtain ⟨hg, hd⟩ := br_run hd
 cases hd
 exact fn90 h0 a.1 a.2.1 (Nat.le_of_ble_eq_true hg)
theorem eqWl_self (x : Tup wallK) : eqWl x x = true := by
 have h : ∀ a : Int, eqI a a = true := fun a => by simp [eqI]
 unfold eqWl
 rw [h x.2.1, h x.2.2.1, h x.2.2.2.1, h x.2.2.2.2.1, h x.2.2.2.2.2.1, h x.2.2.2.2.2.2.1]
 simp
theorem sameWB_self (a : List (Tup wallK)) : sameWB a a = true := by
 unfold sameWB
 simp [eqWl_self]
end
end Go.Proofs.YtmlglimahbjgbaaGreatDoor
