/-
 A part of the proof of the statement that the claim names: see the last file.
-/
import Derived.Test.YtmlglimahbjgbaaGreatDoorT5
import Derived.Test.YtmlglimahbjgbaaGreatDoorT9
import Derived.Test.YtmlglimahbjgbaaGreatDoorAm4
namespace Go.Proofs.YtmlglimahbjgbaaGreatDoor
open Go Go.Am Go.Town
set_option maxRecDepth 100000
variable {w0 : World}
def tG (F : List D → Option (Bool × D)) (ds : List D) : FT D :=
 match F ds with
 | some (b, d) => .br b (.leaf d) .bad
 | none => .bad
theorem tG_run {F : List D → Option (Bool × D)} {ds : List D} {d : D} (h : (tG F ds).run = some d) : F ds = some (true, d) := by
 unfold tG at h
 cases hF : F ds with
 | none => simp [hF, FT.run] at h
 | some p =>
   obtain ⟨b, d'⟩ := p
   cases b <;> simp [hF, FT.run] at h
   rw [h]
theorem gd_of {c : Ctr} (h : Good w0 c) : Gd (cfg w0) ⟨c.g, tG c.F⟩ := fun ds d hd => h ds d (tG_run hd)
noncomputable def old (cs : List Ctr) : List Ct := cs.map fun c => ⟨c.g, tG c.F⟩
theorem cfg_ok (w0 : World) : CfgOk (cfg w0) := ⟨fun _ _ h => Tr.get_all tyTr_all h, fun _ _ h => Tr.get_all fnTr_all h, by kernel_rfl⟩
abbrev ik : Kd := .int .i64
abbrev wallK : List Kd := [.str, ik, ik, ik, ik, ik, ik]
abbrev v3K : List Kd := [ik, ik, ik]
abbrev intK : List Kd := [ik]
def t1 (n : Int) : Tup intK := (n, ())
def wChk (w : Tup wallK) : Int := chkWall w.1 w.2.1 w.2.2.1 w.2.2.2.1 w.2.2.2.2.1 w.2.2.2.2.2.1 w.2.2.2.2.2.2.1
def wErr (w : Tup wallK) (s r : Tup v3K) : Int := errZ w.1 w.2.1 w.2.2.1 w.2.2.2.1 w.2.2.2.2.1 w.2.2.2.2.2.1 w.2.2.2.2.2.2.1 s.1 s.2.1 s.2.2.1 r.1 r.2.1 r.2.2.1
def wDep (w : Tup wallK) (s r : Tup v3K) : Int := depP w.2.1 w.2.2.1 w.2.2.2.1 w.2.2.2.2.1 w.2.2.2.2.2.1 s.1 s.2.1 s.2.2.1 r.1 r.2.1 r.2.2.1
def pChk (s : Tup v3K) : Int := chkSpot s.1 s.2.1 s.2.2.1
theorem lt_t {j n : Nat} (h : j < n) : decide ((j : Int) < (n : Int)) = true := by simp [h]
theorem ge_f (n : Nat) : decide ((n : Int) < (n : Int)) = false := by simp
theorem inb {j n : Nat} (z : Nat) (h : j < n) : (Nat.beq z z && (decide (0 ≤ (j : Int)) && decide ((j : Int) < (n : Int)))) = true := by
 simp [h]
theorem room {α : Type} {out : List α} {x : α} {k : Nat} (h : out.length ≤ 1000000) (hk : k ≤ 1000) : (Nat.ble ((out ++ [x]).length * k) 1000000000000 && Nat.ble (out ++ [x]).length 1000000000000) = true := by
 simp only [List.length_append, List.length_singleton, Bool.and_eq_true, Nat.ble_eq]
 have : (out.length + 1) * k ≤ 1000001 * 1000 := Nat.mul_le_mul (by omega) hk
 omega
theorem br_run {b : Bool} {x : FT D} {d : D} (h : (FT.br b x .bad).run = some d) : b = true ∧ x.run = some d := by
 cases b with
 | true => exact ⟨rfl, h⟩
 | false => cases h
def onX (x : X) (a b : D) : D :=
 match x with
 | .ret => a
 | _ => b
theorem fn_ls (h0 : Lib0 w0) {cs : List Ct} (hcs : Gds (cfg w0) cs) {g : FuncId} {fd : AFn} (hfd : fnTr.get g = some fd) (rel : List (Nat × Cv)) {ks : List Kd} (l : List (Tup ks)) (hlen : l.length ≤ 1000000) {α : Type} (st : Int × α → List D)
  (f : Tup ks → α → X × α) (inv : Nat → α → Prop) {a0 : α} (hi : inv 0 a0)
  (hr : ∀ (j : Nat) a, j < l.length → inv j a → RdOK ((cfg w0).at cs) fd.ntmps rel (lpB 0 fd.body) (st ((j : Int), a)) (f (nth l j) a).1 (st (nx j (f (nth l j) a))))
  (hn : ∀ (j : Nat) a a', j < l.length → inv j a → f (nth l j) a = (.normal, a') → inv (j + 1) a')
  (he : ∀ a, inv l.length a → RdOK ((cfg w0).at cs) fd.ntmps rel (lpB 0 fd.body) (st ((l.length : Int), a)) (.exit 0) (st ((l.length : Int), a)))
  {ds : List D} {d : D} (hb : ∀ x p, lsRun 0 f l 0 a0 = (x, p) → bodyT ((cfg w0).at cs) 40 [ldP 0 fd.ntmps rel (outX 0 x) (st p)] 40 fd ds = some ([(ldP 0 fd.ntmps rel (outX 0 x) (st p), .loop (lpB 0 fd.body), st (0, a0))], d)) : FnD (cfg w0) g ds d := by
 cases hx : lsRun 0 f l 0 a0 with
 | mk x p => exact fnD_lp (cfg_ok w0) h0 hcs hfd (hb x p hx) (ldT_ls (at_ok (cfg_ok w0) cs) (at_sp h0 hcs) l (by omega) st f inv hr hn he hi hx)
theorem fn_rg (h0 : Lib0 w0) {cs : List Ct} (hcs : Gds (cfg w0) cs) {g : FuncId} {fd : AFn} (hfd : fnTr.get g = some fd) (rel : List (Nat × Cv)) (k : Nat) (hk : k ≤ 1000000) {α : Type} (st : Int × α → List D)
  (f : Nat → α → X × α) (inv : Nat → α → Prop) {a0 : α} (hi : inv 0 a0)
  (hr : ∀ (j : Nat) a, j < k → inv j a → RdOK ((cfg w0).at cs) fd.ntmps rel (lpB 0 fd.body) (st ((j : Int), a)) (f j a).1 (st (nx j (f j a))))
  (hn : ∀ (j : Nat) a a', j < k → inv j a → f j a = (.normal, a') → inv (j + 1) a')
  (he : ∀ a, inv k a → RdOK ((cfg w0).at cs) fd.ntmps rel (lpB 0 fd.body) (st ((k : Int), a)) (.exit 0) (st ((k : Int), a)))
  {ds : List D} {d : D} (hb : ∀ x p, rgRun 0 f k 0 a0 = (x, p) → bodyT ((cfg w0).at cs) 40 [ldP 0 fd.ntmps rel (outX 0 x) (st p)] 40 fd ds = some ([(ldP 0 fd.ntmps rel (outX 0 x) (st p), .loop (lpB 0 fd.body), st (0, a0))], d)) : FnD (cfg w0) g ds d := by
 cases hx : rgRun 0 f k 0 a0 with
 | mk x p => exact fnD_lp (cfg_ok w0) h0 hcs hfd (hb x p hx) (ldT_rg (at_ok (cfg_ok w0) cs) (at_sp h0 hcs) (by omega) st f inv hr hn he hi hx)
end Go.Proofs.YtmlglimahbjgbaaGreatDoor
namespace Go.Proofs.YtmlglimahbjgbaaGreatDoor
open Go Go.Am Go.Town
set_option maxRecDepth 100000
variable {w0 : World}
noncomputable section
def rel31 : List (Nat × Cv) := [(6, .id), (7, .id), (8, .id), (3, .ov wallK)]
def st31 (l : List (Tup wallK)) (a : Int × List (Tup wallK)) : List D := [.vec wallK l, I l.length, I a.1, .ovec wallK a.2]
theorem round31 (l : List (Tup wallK)) (j : Int) (out : List (Tup wallK)) : rndD ((cfg w0).at []) 40 [] 40 (fnOf Tryz.f31).ntmps rel31 (lpB 0 (fnOf Tryz.f31).body) (st31 l (j, out)) =
  bif decide (j < l.length) then
   bif (Nat.beq 7 7 && (decide (0 ≤ j) && decide (j < l.length))) then
    bif (Nat.ble ((out ++ [nth l j.toNat]).length * 64) 1000000000000 && Nat.ble (out ++ [nth l j.toNat]).length 1000000000000) then some ([], .normal, st31 l (W (j + 1), out ++ [nth l j.toNat])) else none
   else none
  else some ([], .exit 0, st31 l (j, out)) := by kernel_rfl
theorem body31 (l : List (Tup wallK)) (j : Int) (out : List (Tup wallK)) : bodyT ((cfg w0).at []) 40 [ldP 0 (fnOf Tryz.f31).ntmps rel31 .normal (st31 l (j, out))] 40 (fnOf Tryz.f31) [.vec wallK l] =
  some ([(ldP 0 (fnOf Tryz.f31).ntmps rel31 .normal (st31 l (j, out)), .loop (lpB 0 (fnOf Tryz.f31).body), st31 l (0, []))], .vec wallK out) := by kernel_rfl
theorem fn31 (h0 : Lib0 w0) (l : List (Tup wallK)) (hg : l.length ≤ 100000) : FnD (cfg w0) 31 [.vec wallK l] (.vec wallK l) := by
 refine fn_ls h0 (cs := []) trivial (fd := fnOf Tryz.f31) rfl rel31 l (by omega) (st31 l) (fun w a => (X.normal, a ++ [w])) (fun j a => a.length = j) (a0 := []) rfl
  (fun j a hj hi => .leaf (by
   rw [round31, inb 7 hj, lt_t hj, Int.toNat_natCast, room (by omega) (by omega)]
   rfl)) (fun j a a' _ hi h => by cases h; simp [hi])
  (fun a _ => .leaf (by rw [round31, ge_f]; rfl)) fun x p hx => ?_
 rw [lsRun_fold (h := fun w b => b ++ [w]) 0 l 0 [] (fun _ _ _ => rfl), foldl_snoc (fun w => w)] at hx
 cases hx
 have e : ([] : List (Tup wallK)) ++ l.map (fun w => w) = l := by simp
 rw [e]
 exact body31 l _ l
def c31 : Ct := ct 31 [.v wallK] fun a => .br (Nat.ble (a.1 : List (Tup wallK)).length 100000) (.leaf (.vec wallK a.1)) .bad
theorem gd31 (h0 : Lib0 w0) : Gd (cfg w0) c31 := gd_sig fun a d hd => by
 obtain ⟨hg, hd⟩ := br_run hd
 cases hd
 exact fn31 h0 a.1 (Nat.le_of_ble_eq_true hg)
end
end Go.Proofs.YtmlglimahbjgbaaGreatDoor
namespace Go.Proofs.YtmlglimahbjgbaaGreatDoor
open Go Go.Am Go.Town
set_option maxRecDepth 100000
variable {w0 : World}
noncomputable section
def csM : List Ct := [⟨107, tG depthF⟩]
theorem csM_gd (h0 : Lib0 w0) : Gds (cfg w0) csM := ⟨gd_of (depth_good h0), trivial⟩
def depE (s r : Tup v3K) (w : Tup wallK) : Tup intK := t1 (wDep w s r)
def v3D (s : Tup v3K) : D := .box [I s.1, I s.2.1, I s.2.2.1]
def st168 (l : List (Tup wallK)) (s r : Tup v3K) (a : Int × List (Tup intK)) : List D := [.vec wallK l, I l.length, I a.1, .ovec intK a.2, .fn 169 [] [v3D s, v3D r]]
def rel168 : List (Nat × Cv) := [(8, .id), (9, .id), (10, .id), (5, .ov intK), (1, .id)]
theorem round168 (l : List (Tup wallK)) (s r : Tup v3K) (j : Int) (out : List (Tup intK)) :
  rndD ((cfg w0).at csM) 40 [] 40 (fnOf Tryz.f168).ntmps rel168 (lpB 0 (fnOf Tryz.f168).body) (st168 l s r (j, out)) =
   bif decide (j < l.length) then
    bif (Nat.beq 7 7 && (decide (0 ≤ j) && decide (j < l.length))) then
     bif wErr (nth l j.toNat) s r == 0 then
      bif (Nat.ble ((out ++ [depE s r (nth l j.toNat)]).length * 8) 1000000000000 && Nat.ble (out ++ [depE s r (nth l j.toNat)]).length 1000000000000) then
       some ([], .normal, st168 l s r (W (j + 1), out ++ [depE s r (nth l j.toNat)]))
      else none
     else none
    else none
   else some ([], .exit 0, st168 l s r (j, out)) := by kernel_rfl
theorem body168 (l : List (Tup wallK)) (s r : Tup v3K) (j : Int) (ys : List (Tup intK)) :
  bodyT ((cfg w0).at csM) 40 [ldP 0 (fnOf Tryz.f168).ntmps rel168 .normal (st168 l s r (j, ys))] 40 (fnOf Tryz.f168) [.vec wallK l, .fn 169 [] [v3D s, v3D r]] =
   some ([(ldP 0 (fnOf Tryz.f168).ntmps rel168 .normal (st168 l s r (j, ys)), .loop (lpB 0 (fnOf Tryz.f168).body), st168 l s r (0, []))], .vec intK ys) := by kernel_rfl
def okW (s r : Tup v3K) (w : Tup wallK) : Bool := wErr w s r == 0
theorem nth_all {ks : List Kd} {p : Tup ks → Bool} {l : List (Tup ks)} (h : l.all p = true) {j : Nat} (hj : j < l.length) : p (nth l j) = true := by
 rw [List.all_eq_true] at h
 refine h _ ?_
 simp [nth, hj]
theorem fn168 (h0 : Lib0 w0) (l : List (Tup wallK)) (s r : Tup v3K) (hg : l.length ≤ 100000) (hok : l.all (okW s r) = true) : FnD (cfg w0) 168 [.vec wallK l, .fn 169 [] [v3D s, v3D r]] (.vec intK (l.map (depE s r))) := by
 refine fn_ls h0 (csM_gd h0) (fd := fnOf Tryz.f168) rfl rel168 l (by omega) (st168 l s r) (fun w a => (X.normal, a ++ [depE s r w])) (fun j a => a.length = j) (a0 := []) rfl
  (fun j a hj hi => .leaf (by
   have := nth_all hok hj
   unfold okW at this
   rw [round168, inb 7 hj, lt_t hj, Int.toNat_natCast, room (by omega) (by omega), this]
   rfl)) (fun j a a' _ hi h => by cases h; simp [hi])
  (fun a _ => .leaf (by rw [round168, ge_f]; rfl)) fun x p hx => ?_
 rw [lsRun_fold (h := fun w b => b ++ [depE s r w]) 0 l 0 [] (fun _ _ _ => rfl), foldl_snoc (depE s r)] at hx
 cases hx
 exact body168 l s r _ _
def asDep (d : D) : Option (Tup v3K × Tup v3K) :=
 match d with
 | .fn 169 [] [.box [.val (.int .i64 a), .val (.int .i64 b), .val (.int .i64 c)], .box [.val (.int .i64 d), .val (.int .i64 e), .val (.int .i64 f)]] => some ((a, b, c, ()), (d, e, f, ()))
 | _ => none
theorem asDep_eq {d : D} {s r : Tup v3K} (h : asDep d = some (s, r)) : d = .fn 169 [] [v3D s, v3D r] := by
 unfold asDep at h
 split at h
 ·cases h; rfl
 ·cases h
def mapF (l : List (Tup wallK)) (d : D) : FT D :=
 match asDep d with
 | some (s, r) => .br (Nat.ble l.length 100000 && l.all (okW s r)) (.leaf (.vec intK (l.map (depE s r)))) .bad
 | none => .bad
def c168 : Ct := ct 168 [.v wallK, .x] fun a => mapF a.1 a.2.1
theorem gd168 (h0 : Lib0 w0) : Gd (cfg w0) c168 := gd_sig fun a d hd => by
 obtain ⟨l, f, u⟩ := a
 replace hd : (mapF l f).run = some d := hd
 unfold mapF at hd
 cases ha : asDep f with
 | none => rw [ha] at hd; cases hd
 | some p =>
   obtain ⟨s, r⟩ := p
   rw [ha] at hd
   obtain ⟨hg, hd⟩ := br_run hd
   cases hd
   simp only [Bool.and_eq_true, Nat.ble_eq] at hg
   cases asDep_eq ha
   exact fn168 h0 l _ _ hg.1 hg.2
def i1 (x : Tup intK) : Int := x.1
def sumT (l : List (Tup intK)) : Int := l.foldl (fun b x => W (b + i1 x)) 0
def cs118 : List Ct := [c168]
def vec3 (s : Tup v3K) : D := .agg [I s.1, I s.2.1, I s.2.2.1]
def rel118 : List (Nat × Cv) := [(9, .id), (15, .id), (16, .id), (8, .id)]
def st118 (l : List (Tup intK)) (a : Int × Int) : List D := [.ovec intK l, I l.length, I a.1, I a.2]
theorem round118 (l : List (Tup intK)) (j : Int) (b : Int) : rndD ((cfg w0).at cs118) 40 [] 40 (fnOf Tryz.f118).ntmps rel118 (lpB 0 (fnOf Tryz.f118).body) (st118 l (j, b)) =
  bif decide (j < l.length) then
   bif (Nat.beq 1 1 && (decide (0 ≤ j) && decide (j < l.length))) then some ([], .normal, st118 l (W (j + 1), W (b + i1 (nth l j.toNat)))) else none
  else some ([], .exit 0, st118 l (j, b)) := by kernel_rfl
theorem body118 (l : List (Tup wallK)) (s r : Tup v3K) (p : Int × Int) : bodyT ((cfg w0).at cs118) 40 [ldP 0 (fnOf Tryz.f118).ntmps rel118 .normal (st118 (l.map (depE s r)) p)] 40 (fnOf Tryz.f118) [.vec wallK l, vec3 s, vec3 r] =
  bif Nat.ble l.length 100000 && l.all (okW s r) then
   some ([(ldP 0 (fnOf Tryz.f118).ntmps rel118 .normal (st118 (l.map (depE s r)) p), .loop (lpB 0 (fnOf Tryz.f118).body), st118 (l.map (depE s r)) (0, 0))], .tup [.vec intK (l.map (depE s r)), I p.2])
  else none := by kernel_rfl
theorem fn118 (h0 : Lib0 w0) (l : List (Tup wallK)) (s r : Tup v3K) (hg : l.length ≤ 100000) (hok : l.all (okW s r) = true) : FnD (cfg w0) 118 [.vec wallK l, vec3 s, vec3 r] (.tup [.vec intK (l.map (depE s r)), I (sumT (l.map (depE s r)))]) := by
 refine fn_ls h0 (cs := cs118) ⟨gd168 h0, trivial⟩ (fd := fnOf Tryz.f118) rfl rel118 (l.map (depE s r)) (by simp; omega) (st118 (l.map (depE s r))) (fun x a => (X.normal, W (a + i1 x))) (fun _ _ => True) (a0 := 0) trivial
  (fun j a hj hi => .leaf (by
   rw [round118, inb 1 hj, lt_t hj, Int.toNat_natCast]
   rfl)) (fun _ _ _ _ _ _ => trivial)
  (fun a _ => .leaf (by rw [round118, ge_f]; rfl)) fun x p hx => ?_
 rw [lsRun_fold (h := fun x b => W (b + i1 x)) 0 _ 0 0 (fun _ _ _ => rfl)] at hx
 cases hx
 refine (body118 l s r _).trans ?_
 rw [Nat.ble_eq_true_of_le hg, hok]
 rfl
def tupF (l : List (Tup wallK)) (s r : Tup v3K) : D := .tup [.vec intK (l.map (depE s r)), I (sumT (l.map (depE s r)))]
def depsF (a : ArgT [.v wallK, .b v3K, .b v3K]) : FT D := .br (Nat.ble (a.1 : List (Tup wallK)).length 100000 && (a.1 : List (Tup wallK)).all (okW a.2.1 a.2.2.1)) (.leaf (tupF a.1 a.2.1 a.2.2.1)) .bad
def c118 : Ct := ct 118 [.v wallK, .b v3K, .b v3K] depsF
theorem gd118 (h0 : Lib0 w0) : Gd (cfg w0) c118 := gd_sig fun a d hd => by
 obtain ⟨hg, hd⟩ := br_run hd
 cases hd
 simp only [Bool.and_eq_true, Nat.ble_eq] at hg
 exact fn118 h0 a.1 a.2.1 a.2.2.1 hg.1 hg.2
def ov3 (s : Tup v3K) : D := .obox [I s.1, I s.2.1, I s.2.2.1]
end
end Go.Proofs.YtmlglimahbjgbaaGreatDoor
namespace Go.Proofs.YtmlglimahbjgbaaGreatDoor
open Go Go.Am Go.Town
set_option maxRecDepth 100000
variable {w0 : World}
noncomputable section
theorem lsRun_first : ∀ (l : List (Tup intK)) (i : Nat) (a : Int), ∃ q : Nat, lsRun 0 (fun x a => bif i1 x != 0 then (X.ret, i1 x) else (.normal, a)) l i a = bif firstZ (l.map i1) != 0 then (.ret, ((q : Int), firstZ (l.map i1))) else (.exit 0, (((i + l.length : Nat) : Int), a))
 | [], i, a => ⟨0, rfl⟩
 | x :: xs, i, a => by
   obtain ⟨q, hq⟩ := lsRun_first xs (i + 1) a
   unfold lsRun
   rw [List.map_cons]
   unfold firstZ
   cases hx : (i1 x != 0) with
   | true => exact ⟨i, by simp only [hx, cond_true]⟩
   | false =>
     refine ⟨q, ?_⟩
     simp only [cond_false]
     rw [hq]
     simp only [List.length_cons, show i + 1 + xs.length = i + (xs.length + 1) by omega]
def rel98 : List (Nat × Cv) := [(5, .id), (6, .id), (7, .id), (2, .id)]
def st98 (l : List (Tup intK)) (a : Int × Int) : List D := [.vec intK l, I l.length, I a.1, I a.2]
theorem round98 (l : List (Tup intK)) (j b : Int) : rndD ((cfg w0).at []) 40 [] 40 (fnOf Tryz.f98).ntmps rel98 (lpB 0 (fnOf Tryz.f98).body) (st98 l (j, b)) =
  bif decide (j < l.length) then
   bif (Nat.beq 1 1 && (decide (0 ≤ j) && decide (j < l.length))) then
    bif i1 (nth l j.toNat) != 0 then some ([], .ret, st98 l (j, i1 (nth l j.toNat))) else some ([], .normal, st98 l (W (j + 1), b))
   else none
  else some ([], .exit 0, st98 l (j, b)) := by kernel_rfl
theorem body98 (l : List (Tup intK)) (x : X) (p : Int × Int) (hx : x = .ret ∨ x = .normal) : bodyT ((cfg w0).at []) 40 [ldP 0 (fnOf Tryz.f98).ntmps rel98 x (st98 l p)] 40 (fnOf Tryz.f98) [.vec intK l] =
  some ([(ldP 0 (fnOf Tryz.f98).ntmps rel98 x (st98 l p), .loop (lpB 0 (fnOf Tryz.f98).body), st98 l (0, 0))], onX x (I p.2) (I 0)) := by
 rcases hx with rfl | rfl <;> kernel_rfl
theorem fn98 (h0 : Lib0 w0) (l : List (Tup intK)) (hl : l.length ≤ 100000) : FnD (cfg w0) 98 [.vec intK l] (I (firstZ (l.map i1))) := by
 refine fn_ls h0 (cs := []) trivial (fd := fnOf Tryz.f98) rfl rel98 l (by omega) (st98 l) (fun x a => bif i1 x != 0 then (X.ret, i1 x) else (.normal, a)) (fun _ _ => True) (a0 := 0) trivial
  (fun j a hj _ => .leaf (by
   rw [round98, inb 1 hj, lt_t hj, Int.toNat_natCast]
   cases (i1 (nth l j) != 0) <;> rfl)) (fun _ _ _ _ _ _ => trivial)
  (fun a _ => .leaf (by rw [round98, ge_f]; rfl)) fun x p hx => ?_
 obtain ⟨q, hq⟩ := lsRun_first l 0 0
 rw [hq] at hx
 cases hf : (firstZ (l.map i1) != 0) <;> rw [hf] at hx <;> cases hx
 ·rw [show firstZ (l.map i1) = 0 by simpa using hf]
  exact body98 l _ _ (.inr rfl)
 ·exact body98 l _ _ (.inl rfl)
def firstC (g : Nat) : Ct := ct g [.v intK] fun a => .br (Nat.ble (a.1 : List (Tup intK)).length 100000) (.leaf (I (firstZ ((a.1 : List (Tup intK)).map i1)))) .bad
theorem gd98 (h0 : Lib0 w0) : Gd (cfg w0) (firstC 98) := gd_sig fun a d hd => by
 obtain ⟨hg, hd⟩ := br_run hd
 cases hd
 exact fn98 h0 a.1 (Nat.le_of_ble_eq_true hg)
def rel108 : List (Nat × Cv) := [(0, .id), (3, .id), (2, .id)]
def st108 (l : List (Tup intK)) (a : Int × Int) : List D := [.vec intK l, I a.1, I a.2]
theorem round108 (l : List (Tup intK)) (j b : Int) : rndD ((cfg w0).at []) 40 [] 40 (fnOf Tryz.f108).ntmps rel108 (lpB 0 (fnOf Tryz.f108).body) (st108 l (j, b)) =
  bif decide (j < l.length) then
   bif (Nat.beq 1 1 && (decide (0 ≤ j) && decide (j < l.length))) then
    bif i1 (nth l j.toNat) != 0 then bif (Nat.beq 1 1 && (decide (0 ≤ j) && decide (j < l.length))) then some ([], .ret, st108 l (j, i1 (nth l j.toNat))) else none else some ([], .normal, st108 l (W (j + 1), b))
   else none
  else some ([], .exit 0, st108 l (j, b)) := by kernel_rfl
theorem body108 (l : List (Tup intK)) (x : X) (p : Int × Int) (hx : x = .ret ∨ x = .normal) : bodyT ((cfg w0).at []) 40 [ldP 0 (fnOf Tryz.f108).ntmps rel108 x (st108 l p)] 40 (fnOf Tryz.f108) [.vec intK l] =
  some ([(ldP 0 (fnOf Tryz.f108).ntmps rel108 x (st108 l p), .loop (lpB 0 (fnOf Tryz.f108).body), st108 l (0, 0))], onX x (I p.2) (I 0)) := by
 rcases hx with rfl | rfl <;> kernel_rfl
theorem fn108 (h0 : Lib0 w0) (l : List (Tup intK)) (hl : l.length ≤ 100000) : FnD (cfg w0) 108 [.vec intK l] (I (firstZ (l.map i1))) := by
 refine fn_ls h0 (cs := []) trivial (fd := fnOf Tryz.f108) rfl rel108 l (by omega) (st108 l) (fun x a => bif i1 x != 0 then (X.ret, i1 x) else (.normal, a)) (fun _ _ => True) (a0 := 0) trivial
  (fun j a hj _ => .leaf (by
   rw [round108, inb 1 hj, lt_t hj, Int.toNat_natCast]
   cases (i1 (nth l j) != 0) <;> rfl)) (fun _ _ _ _ _ _ => trivial)
  (fun a _ => .leaf (by rw [round108, ge_f]; rfl)) fun x p hx => ?_
 obtain ⟨q, hq⟩ := lsRun_first l 0 0
 rw [hq] at hx
 cases hf : (firstZ (l.map i1) != 0) <;> rw [hf] at hx <;> cases hx
 ·rw [show firstZ (l.map i1) = 0 by simpa using hf]
  exact body108 l _ _ (.inr rfl)
 ·exact body108 l _ _ (.inl rfl)
theorem gd108 (h0 : Lib0 w0) : Gd (cfg w0) (firstC 108) := gd_sig fun a d hd => by
 obtain ⟨hg, hd⟩ := br_run hd
 cases hd
 exact fn108 h0 a.1 (Nat.le_of_ble_eq_true hg)
theorem rgRun_any {β : Type} {id : Nat} {p : Nat → Bool} {c : β} : ∀ (f i : Nat) (a : β), ∃ q : Nat, rgRun id (fun j a => bif p j then (X.ret, c) else (.normal, a)) f i a = bif (List.range' i f).any p then (.ret, ((q : Int), c)) else (.exit id, (((i + f : Nat) : Int), a))
 | 0, i, a => ⟨0, rfl⟩
 | f + 1, i, a => by
   obtain ⟨q, hq⟩ := rgRun_any (id := id) (p := p) (c := c) f (i + 1) a
   unfold rgRun
   rw [List.range'_succ, List.any_cons]
   cases hp : p i with
   | true => exact ⟨i, by simp⟩
   | false =>
     refine ⟨q, ?_⟩
     simp only [cond_false, Bool.false_or]
     rw [hq, show i + 1 + f = i + (f + 1) by omega]
def sameI (a b : List (Tup intK)) : Bool := decide (a.map i1 = b.map i1)
end
end Go.Proofs.YtmlglimahbjgbaaGreatDoor
namespace Go.Proofs.YtmlglimahbjgbaaGreatDoor
open Go Go.Am Go.Town
set_option maxRecDepth 100000
variable {w0 : World}
noncomputable section
abbrev BB := List (ByteArray × Bool)
def nmW (w : Tup wallK) : ByteArray := w.1
def chkE (seen : List ByteArray) (w : Tup wallK) : Int := bif wChk w != 0 then wChk w else bif seen.any (fun s => nmW w == s) then 9 else 0
def chkFrom (seen : List ByteArray) : List (Tup wallK) → Int
 | [] => 0
 | w :: ws => bif chkE seen w != 0 then chkE seen w else chkFrom (seen ++ [nmW w]) ws
def chkAllW (l : List (Tup wallK)) : Int := bif decide ((l.length : Int) > 32) then 5 else chkFrom [] l
def known (w : Tup wallK) (es : BB) : Bool := getT (kk := .str) (vk := .bool) w.1 es
def learn (w : Tup wallK) (es : BB) : BB := putM (kk := .str) (vk := .bool) w.1 true es
def err38 (w : Tup wallK) (es : BB) : Int := firstZ [wChk w, whenZ (known w es) 9]
def cs38 : List Ct := [⟨99, tG checkWallF⟩, ⟨119, tG whenF⟩, ⟨98, tG firstF⟩]
def rel38 : List (Nat × Cv) := [(11, .id), (12, .id), (13, .id), (3, .id), (2, .id)]
def st38 (l : List (Tup wallK)) (a : Int × (BB × Int)) : List D := [.vec wallK l, I l.length, I a.1, .omap .str .bool a.2.1, I a.2.2]
theorem round38 (l : List (Tup wallK)) (j : Int) (es : BB) (e : Int) : rndD ((cfg w0).at cs38) 40 [] 40 (fnOf Tryz.f38).ntmps rel38 (lpB 0 (fnOf Tryz.f38).body) (st38 l (j, (es, e))) =
  bif decide (j < l.length) then
   bif (Nat.beq 7 7 && (decide (0 ≤ j) && decide (j < l.length))) then
    bif err38 (nth l j.toNat) es != 0 then some ([], .ret, st38 l (j, (es, err38 (nth l j.toNat) es)))
    else some ([], .normal, st38 l (W (j + 1), (learn (nth l j.toNat) es, e)))
   else none
  else some ([], .exit 0, st38 l (j, (es, e))) := by kernel_rfl
theorem body38 (l : List (Tup wallK)) (x : X) (p : Int × (BB × Int)) (hx : x = .ret ∨ x = .normal) : bodyT ((cfg w0).at cs38) 40 [ldP 0 (fnOf Tryz.f38).ntmps rel38 x (st38 l p)] 40 (fnOf Tryz.f38) [.vec wallK l] =
  bif decide ((l.length : Int) > 32) then some ([], I 5) else
  some ([(ldP 0 (fnOf Tryz.f38).ntmps rel38 x (st38 l p), .loop (lpB 0 (fnOf Tryz.f38).body), st38 l (0, ([], 0)))], onX x (I p.2.2) (I 0)) := by
 rcases hx with rfl | rfl <;> kernel_rfl
def f38 (w : Tup wallK) (a : BB × Int) : X × (BB × Int) := bif err38 w a.1 != 0 then (.ret, (a.1, err38 w a.1)) else (.normal, (learn w a.1, a.2))
theorem err38_eq {w : Tup wallK} {es : BB} {seen : List ByteArray} (h : known w es = seen.any (fun s => nmW w == s)) : err38 w es = chkE seen w := by
 unfold err38 chkE
 rw [h]
 generalize wChk w = e
 cases hb : (seen.any fun s => nmW w == s)
 ·by_cases he : e = 0 <;> simp [firstZ, whenZ, he]
 ·by_cases he : e = 0 <;> simp [firstZ, whenZ, he]
theorem known_learn (v w : Tup wallK) (es : BB) : known v (learn w es) = ((nmW v == nmW w) || known v es) := by
 refine (getT_put (kk := .str) (vk := .bool) rfl v.1 w.1 true es).trans ?_
 show cond (nmW v == nmW w) true (known v es) = _
 cases (nmW v == nmW w) <;> rfl
theorem run38 : ∀ (ws : List (Tup wallK)) (seen : List ByteArray) (es : BB) (i : Nat), (∀ w, known w es = seen.any (fun s => nmW w == s)) →
  ∃ p, lsRun 0 f38 ws i (es, 0) = (bif chkFrom seen ws != 0 then X.ret else .exit 0, p) ∧ (chkFrom seen ws ≠ 0 → p.2.2 = chkFrom seen ws)
 | [], seen, es, i, _ => ⟨_, rfl, fun h => absurd rfl h⟩
 | w :: ws, seen, es, i, h => by
   unfold lsRun chkFrom f38
   simp only [err38_eq (h w)]
   cases hc : (chkE seen w != 0) with
   | true => exact ⟨((i : Int), (es, chkE seen w)), by simp [hc], fun _ => rfl⟩
   | false =>
     simp only [cond_false]
     exact run38 ws (seen ++ [nmW w]) (learn w es) (i + 1) fun v => by
      rw [known_learn, h v, List.any_append]
      simp [Bool.or_comm]
theorem cs38_gd (h0 : Lib0 w0) : Gds (cfg w0) cs38 := ⟨gd_of (check_good (name_good h0) h0), gd_of (when_good h0), gd_of (first_good h0), trivial⟩
theorem fn38 (h0 : Lib0 w0) (l : List (Tup wallK)) : FnD (cfg w0) 38 [.vec wallK l] (I (chkAllW l)) := by
 unfold chkAllW
 cases hm : decide ((l.length : Int) > 32) with
 | true =>
   refine fnD_t (cfg_ok w0) h0 (cs38_gd h0) (fd := fnOf Tryz.f38) rfl (L := [ldP 0 (fnOf Tryz.f38).ntmps rel38 .normal (st38 l (0, ([], 0)))]) (o := []) ((body38 l .normal (0, ([], 0)) (.inr rfl)).trans ?_) trivial
   rw [hm]; rfl
 | false =>
   have hlen : l.length ≤ 32 := by
    rw [decide_eq_false_iff_not] at hm
    omega
   refine fn_ls h0 (cs38_gd h0) (fd := fnOf Tryz.f38) rfl rel38 l (by omega) (st38 l) f38 (fun _ _ => True) (a0 := ([], 0)) trivial
    (fun j a hj _ => .leaf (by
     rw [round38, inb 7 hj, lt_t hj, Int.toNat_natCast]
     unfold f38
     cases (err38 (nth l j) a.1 != 0) <;> rfl)) (fun _ _ _ _ _ _ => trivial)
    (fun a _ => .leaf (by rw [round38, ge_f]; rfl)) fun x p hx => ?_
   obtain ⟨q, hq, hq2⟩ := run38 l [] [] 0 (fun w => rfl)
   rw [hq] at hx
   simp only [cond_false]
   cases hc : (chkFrom [] l != 0) <;> rw [hc] at hx <;> cases hx
   ·rw [show chkFrom [] l = 0 by simpa using hc]
    exact (body38 l _ _ (.inr rfl)).trans (by rw [hm]; rfl)
   ·rw [← hq2 (by simpa using hc)]
    exact (body38 l _ _ (.inl rfl)).trans (by rw [hm]; rfl)
def checkC (g : Nat) : Ct := ct g [.v wallK] fun a => .leaf (I (chkAllW a.1))
theorem gd38 (h0 : Lib0 w0) : Gd (cfg w0) (checkC 38) := gd_sig fun a d hd => by cases hd; exact fn38 h0 a.1
def cs33 : List Ct := [⟨19, tG checkWallF⟩]
theorem cs33_gd (h0 : Lib0 w0) : Gds (cfg w0) cs33 := ⟨gd_of (rcheck_good (rname_good h0) h0), trivial⟩
def rel33 : List (Nat × Cv) := [(0, .id), (3, .id), (2, .id)]
def rel33i : List (Nat × Cv) := [(0, .id), (3, .id), (5, .id), (2, .id)]
def st33 (l : List (Tup wallK)) (a : Int × Int) : List D := [.vec wallK l, I a.1, I a.2]
def st33i (l : List (Tup wallK)) (i : Int) (a : Int × Int) : List D := [.vec wallK l, I i, I a.1, I a.2]
def ld33i (l : List (Tup wallK)) (i : Int) (x : X) (p : Int × Int) : Ld := ldP 2 (fnOf Tryz.f33).ntmps rel33i x (st33i l i p)
theorem round33i (l : List (Tup wallK)) (i k e : Int) : rndD ((cfg w0).at cs33) 40 [] 40 (fnOf Tryz.f33).ntmps rel33i (lpB 2 (fnOf Tryz.f33).body) (st33i l i (k, e)) =
  bif decide (k < i) then
   bif (Nat.beq 7 7 && (decide (0 ≤ k) && decide (k < l.length))) then
    bif (Nat.beq 7 7 && (decide (0 ≤ i) && decide (i < l.length))) then
     bif ((nmW (nth l k.toNat)).toList == (nmW (nth l i.toNat)).toList) then some ([], .ret, st33i l i (k, 9)) else some ([], .normal, st33i l i (W (k + 1), e))
    else none
   else none
  else some ([], .exit 2, st33i l i (k, e)) := by kernel_rfl
theorem round33n (l : List (Tup wallK)) (i e : Int) (p : Int × Int) : rndD ((cfg w0).at cs33) 40 [ld33i l i .normal p] 40 (fnOf Tryz.f33).ntmps rel33 (lpB 0 (fnOf Tryz.f33).body) (st33 l (i, e)) =
  bif decide (i < l.length) then
   bif (Nat.beq 7 7 && (decide (0 ≤ i) && decide (i < l.length))) then
    bif wChk (nth l i.toNat) != 0 then some ([], .ret, st33 l (i, wChk (nth l i.toNat)))
    else some ([(ld33i l i .normal p, .loop (lpB 2 (fnOf Tryz.f33).body), st33i l i (0, e))], .normal, st33 l (W (i + 1), p.2))
   else none
  else some ([], .exit 0, st33 l (i, e)) := by kernel_rfl
theorem round33r (l : List (Tup wallK)) (i e : Int) (p : Int × Int) : rndD ((cfg w0).at cs33) 40 [ld33i l i .ret p] 40 (fnOf Tryz.f33).ntmps rel33 (lpB 0 (fnOf Tryz.f33).body) (st33 l (i, e)) =
  bif decide (i < l.length) then
   bif (Nat.beq 7 7 && (decide (0 ≤ i) && decide (i < l.length))) then
    bif wChk (nth l i.toNat) != 0 then some ([], .ret, st33 l (i, wChk (nth l i.toNat)))
    else some ([(ld33i l i .ret p, .loop (lpB 2 (fnOf Tryz.f33).body), st33i l i (0, e))], .ret, st33 l (i, p.2))
   else none
  else some ([], .exit 0, st33 l (i, e)) := by kernel_rfl
theorem body33 (l : List (Tup wallK)) (x : X) (p : Int × Int) (hx : x = .ret ∨ x = .normal) : bodyT ((cfg w0).at cs33) 40 [ldP 0 (fnOf Tryz.f33).ntmps rel33 x (st33 l p)] 40 (fnOf Tryz.f33) [.vec wallK l] =
  bif decide ((l.length : Int) > 32) then some ([], I 5) else
  some ([(ldP 0 (fnOf Tryz.f33).ntmps rel33 x (st33 l p), .loop (lpB 0 (fnOf Tryz.f33).body), st33 l (0, 0))], onX x (I p.2) (I 0)) := by
 rcases hx with rfl | rfl <;> kernel_rfl
def step33 (l : List (Tup wallK)) (i : Nat) (a : Int) : X × Int := bif chkE ((l.take i).map nmW) (nth l i) != 0 then (.ret, chkE ((l.take i).map nmW) (nth l i)) else (.normal, a)
theorem take_any {l : List (Tup wallK)} {i : Nat} (hi : i ≤ l.length) (p : ByteArray → Bool) : (List.range' 0 i).any (fun k => p (nmW (nth l k))) = ((l.take i).map nmW).any p := by
 rw [Bool.eq_iff_iff, List.any_eq_true, List.any_eq_true]
 constructor
 ·rintro ⟨k, hk, hp⟩
  simp only [List.mem_range'_1] at hk
  refine ⟨_, List.mem_map.2 ⟨nth l k, ?_, rfl⟩, hp⟩
  rw [List.mem_take_iff_getElem]
  exact ⟨k, by omega, by simp [nth, show k < l.length by omega]⟩
 ·rintro ⟨s, hs, hp⟩
  obtain ⟨w, hw, rfl⟩ := List.mem_map.1 hs
  obtain ⟨k, hk, rfl⟩ := List.mem_take_iff_getElem.1 hw
  refine ⟨k, by simp; omega, ?_⟩
  simpa [nth, show k < l.length by omega] using hp
theorem dup_eq {l : List (Tup wallK)} {i : Nat} (hi : i ≤ l.length) (s : ByteArray) : (List.range' 0 i).any (fun k => ((nmW (nth l k)).toList == s.toList)) = ((l.take i).map nmW).any (fun t => s == t) := by
 rw [take_any hi (fun t => t.toList == s.toList)]
 congr 1
 funext t
 rw [beq_toListBytes s t, Bool.eq_iff_iff, beq_iff_eq, beq_iff_eq]; exact eq_comm
theorem rd33 (h0 : Lib0 w0) (l : List (Tup wallK)) (hl : l.length ≤ 1000000) (j : Nat) (a : Int) (hj : j < l.length) : RdOK ((cfg w0).at cs33) (fnOf Tryz.f33).ntmps rel33 (lpB 0 (fnOf Tryz.f33).body) (st33 l ((j : Int), a)) (step33 l j a).1 (st33 l (nx j (step33 l j a))) := by
 cases hw : (wChk (nth l j) != 0) with
 | true =>
   have hc : chkE ((l.take j).map nmW) (nth l j) = wChk (nth l j) := by unfold chkE; rw [hw]; rfl
   refine .leaf ((round33n l j a (0, 0)).trans ?_)
   unfold step33
   rw [hc, inb 7 hj, lt_t hj, Int.toNat_natCast, hw]
   rfl
 | false =>
   obtain ⟨q, hq⟩ := rgRun_any (id := 2) (p := fun k => ((nmW (nth l k)).toList == (nmW (nth l j)).toList)) (c := (9 : Int)) j 0 a
   have key := fun x p => ldT_rg (at_ok (cfg_ok w0) cs33) (at_sp h0 (cs33_gd h0)) (N := (fnOf Tryz.f33).ntmps) (rel := rel33i) (B := lpB 2 (fnOf Tryz.f33).body) (id := 2) (k := j) (by omega) (st33i l j) (fun k a => bif ((nmW (nth l k)).toList == (nmW (nth l j)).toList) then (X.ret, 9) else (.normal, a)) (fun _ _ => True)
    (fun k b hk _ => .leaf (by
     rw [round33i, inb 7 hj, inb 7 (show k < l.length by omega), lt_t hk, Int.toNat_natCast, Int.toNat_natCast]
     cases ((nmW (nth l k)).toList == (nmW (nth l j)).toList) <;> rfl)) (fun _ _ _ _ _ _ => trivial)
    (fun b _ => .leaf (by rw [round33i, ge_f]; rfl)) (a0 := a) trivial (x := x) (p := p)
   rw [dup_eq (by omega)] at hq
   have hce : chkE ((l.take j).map nmW) (nth l j) = bif ((l.take j).map nmW).any (fun t => nmW (nth l j) == t) then 9 else 0 := by unfold chkE; rw [hw]; rfl
   unfold step33
   rw [hce]
   cases hb : ((l.take j).map nmW).any (fun t => nmW (nth l j) == t) <;> rw [hb] at hq
   ·refine .one ((round33n l j a (((0 + j : Nat) : Int), a)).trans ?_) (key _ _ hq)
    rw [inb 7 hj, lt_t hj, Int.toNat_natCast, hw]
    rfl
   ·refine .one ((round33r l j a ((q : Int), 9)).trans ?_) (key _ _ hq)
    rw [inb 7 hj, lt_t hj, Int.toNat_natCast, hw]
    rfl
theorem run33 (l : List (Tup wallK)) : ∀ (ws pre : List (Tup wallK)) (a : Int), l = pre ++ ws → ∃ p, rgRun 0 (step33 l) ws.length pre.length a = (bif chkFrom (pre.map nmW) ws != 0 then X.ret else .exit 0, p) ∧ (chkFrom (pre.map nmW) ws ≠ 0 → p.2 = chkFrom (pre.map nmW) ws)
 | [], pre, a, _ => ⟨_, rfl, fun h => absurd rfl h⟩
 | w :: ws, pre, a, h => by
   have h1 : nth l pre.length = w := by subst h; simp [nth, List.getD_eq_getElem?_getD]
   have h2 : (l.take pre.length).map nmW = pre.map nmW := by subst h; simp
   have hs : step33 l pre.length a = bif chkE (pre.map nmW) w != 0 then (.ret, chkE (pre.map nmW) w) else (.normal, a) := by unfold step33; rw [h1, h2]
   rw [List.length_cons]
   unfold rgRun chkFrom
   rw [hs]
   cases hc : (chkE (pre.map nmW) w != 0) with
   | true => exact ⟨((pre.length : Int), chkE (pre.map nmW) w), by simp [hc], fun _ => rfl⟩
   | false =>
     simp only [cond_false]
     have := run33 l ws (pre ++ [w]) a (by rw [h]; simp)
     simpa using this
theorem fn33 (h0 : Lib0 w0) (l : List (Tup wallK)) : FnD (cfg w0) 33 [.vec wallK l] (I (chkAllW l)) := by
 unfold chkAllW
 cases hm : decide ((l.length : Int) > 32) with
 | true =>
   refine fnD_t (cfg_ok w0) h0 (cs33_gd h0) (fd := fnOf Tryz.f33) rfl (L := [ldP 0 (fnOf Tryz.f33).ntmps rel33 .normal (st33 l (0, 0))]) (o := []) ((body33 l .normal (0, 0) (.inr rfl)).trans ?_) trivial
   rw [hm]; rfl
 | false =>
   have hlen : l.length ≤ 32 := by
    rw [decide_eq_false_iff_not] at hm
    omega
   refine fn_rg h0 (cs33_gd h0) (fd := fnOf Tryz.f33) rfl rel33 l.length (by omega) (st33 l) (step33 l) (fun _ _ => True) (a0 := 0) trivial
    (fun j a hj _ => rd33 h0 l (by omega) j a hj) (fun _ _ _ _ _ _ => trivial)
    (fun a _ => .leaf ((round33n l _ a (0, 0)).trans (by rw [ge_f]; rfl))) fun x p hx => ?_
   obtain ⟨q, hq, hq2⟩ := run33 l l [] 0 rfl
   simp only [List.map_nil, List.length_nil] at hq hq2
   rw [hq] at hx
   simp only [cond_false]
   cases hc : (chkFrom [] l != 0) <;> rw [hc] at hx <;> cases hx
   ·rw [show chkFrom [] l = 0 by simpa using hc]
    exact (body33 l _ _ (.inr rfl)).trans (by rw [hm]; rfl)
   ·rw [← hq2 (by simpa using hc)]
    exact (body33 l _ _ (.inl rfl)).trans (by rw [hm]; rfl)
theorem gd33 (h0 : Lib0 w0) : Gd (cfg w0) (checkC 33) := gd_sig fun a d hd => by cases hd; exact fn33 h0 a.1
end
end Go.Proofs.YtmlglimahbjgbaaGreatDoor
