/-
 A part of the proof of the statement that the claim names: see the last file.
-/
import Derived.Test.YtifnpljmjhnbaaaGreatDoorP1
import Derived.Test.YtifnpljmjhnbaaaGreatDoorS1
import Derived.Test.YtifnpljmjhnbaaaGreatDoorAm5
namespace Go.Proofs.YtifnpljmjhnbaaaGreatDoor
open Go Go.Am
set_option maxRecDepth 100000
variable {w0 : World}
noncomputable section
def inO (o : List (Tup intK)) (j : Int) : Bool := Nat.beq 1 1 && (decide (0 ≤ j) && decide (j < o.length))
theorem inO_nat {o : List (Tup intK)} {j : Nat} (h : j < o.length) : inO o (j : Int) = true := inb 1 h
def sm (l : List (Tup intK)) : Bool := Nat.ble l.length 100000
theorem sm_le {l : List (Tup intK)} (h : sm l = true) : l.length ≤ 100000 := Nat.le_of_ble_eq_true h
def wiE (lo hi : Int) (x : Tup intK) : Tup intK := t1 (withinZ (i1 x) lo hi)
def rgE (l : List (Tup intK)) (lo hi : Int) : Int := firstZ ((l.map (wiE lo hi)).map i1)
end
end Go.Proofs.YtifnpljmjhnbaaaGreatDoor
namespace Go.Am
variable {G : Gl} {GB : Nat}
theorem GiveOK.sl_one {w w' : World} {ks : List Kd} {n : Nat} {vs : List Value} {l : List (Tup ks)} {u : Value} (hf : flatK ks = true) (hs : 0 < ks.length) (hn : 0 < n) (hv : vs.length = n * ks.length) (hl : ofRows ks n vs = some l)
  (h : GiveOK G GB w w' (.sl n ks.length (vs.map .val)) u) : GiveOK G GB w w' (.vec ks l) u := fun r0 h0 H0 => by
 obtain ⟨r1,S,H,v⟩ := h r0 h0 H0
 simp only [imp,imps_vals] at S H v ⊢
 obtain ⟨r2,T,K,v2,_⟩ := row_list hf hs hn hv hl H0 S H v
 exact ⟨r2,T,K,v2⟩
theorem FnD.sl_one {C : Cfg} {g : FuncId} {ds : List D} {ks : List Kd} {n : Nat} {vs : List Value} {l : List (Tup ks)} (hf : flatK ks = true) (hs : 0 < ks.length) (hn : 0 < n) (hv : vs.length = n * ks.length) (hl : ofRows ks n vs = some l)
  (h : FnD C g ds (.sl n ks.length (vs.map .val))) : FnD C g ds (.vec ks l) := fun w args hb hi =>
 (h w args hb hi).mono fun _ _ ⟨u,a,b⟩ => ⟨u,a,b.sl_one hf hs hn hv hl⟩
end Go.Am
namespace Go.Proofs.YtifnpljmjhnbaaaGreatDoor
open Go Go.Am
set_option maxRecDepth 100000
variable {w0 : World}
noncomputable section
abbrev evK : List Kd := [ik,ik,ik,ik,ik,ik]
abbrev paK : List Kd := [.str,ik,ik,ik,ik]
abbrev strK : List Kd := [.str]
def ef (x : Tup evK) : Int := x.1
def et (x : Tup evK) : Int := x.2.1
def ee (x : Tup evK) : Int := x.2.2.1
def ep (x : Tup evK) : Int := x.2.2.2.1
def ea (x : Tup evK) : Int := x.2.2.2.2.1
def em (x : Tup evK) : Int := x.2.2.2.2.2.1
def pn (x : Tup paK) : ByteArray := x.1
def pf (x : Tup paK) : Int := x.2.1
def pt (x : Tup paK) : Int := x.2.2.1
def pl (x : Tup paK) : Int := x.2.2.2.1
def ph (x : Tup paK) : Int := x.2.2.2.2.1
abbrev evD (x : Tup evK) : D := .agg [I x.1,I x.2.1,I x.2.2.1,I x.2.2.2.1,I x.2.2.2.2.1,I x.2.2.2.2.2.1]
abbrev paD (x : Tup paK) : D := .agg [Str x.1,I x.2.1,I x.2.2.1,I x.2.2.2.1,I x.2.2.2.2.1]
theorem bif3_I {a b c : Bool} {e : Int} : (bif a then some (I (whenZ true e)) else bif b then some (I (whenZ true e)) else some (I (whenZ c e))) = some (I (whenZ (a || (b || c)) e)) := by cases a <;> cases b <;> rfl
def spanZ (f t m : Int) : Int := whenZ (decide (f < 0) || (decide (f ≥ t) || decide (t > m))) 14
theorem run123 (f t : Int) : bodyK ((cfg w0).at [whenC 104]) 40 (fnOf Tryz.f123) [.agg [I f,I t]] = bif decide (f < 0) then some (I (whenZ true 14)) else bif decide (f ≥ t) then some (I (whenZ true 14)) else some (I (whenZ (decide (t > 100000)) 14)) := by kernel_rfl
def c123 : Ct := ct 123 [.b IvK] fun a => .leaf (I (spanZ a.1.1 a.1.2.1 100000))
theorem gd123 (h0 : Lib0 w0) : Gd (cfg w0) c123 := gd_k h0 (cs := [whenC 104]) ⟨gd104 h0,trivial⟩ (fd := fnOf Tryz.f123) rfl (n := 40) fun a d hd => by
 obtain ⟨⟨f,t,_⟩,u⟩ := a
 cases hd
 exact (run123 f t).trans bif3_I
theorem run124 (f t m : Int) : bodyK ((cfg w0).at [whenC 102]) 40 (fnOf Tryz.f124) [.agg [I f,I t],I m] = bif decide (f < 0) then some (I (whenZ true 14)) else bif decide (f ≥ t) then some (I (whenZ true 14)) else some (I (whenZ (decide (t > m)) 14)) := by kernel_rfl
def c124 : Ct := ct 124 [.b IvK,.c ik] fun a => .leaf (I (spanZ a.1.1 a.1.2.1 a.2.1))
theorem gd124 (h0 : Lib0 w0) : Gd (cfg w0) c124 := gd_k h0 (cs := [whenC 102]) ⟨gd102 h0,trivial⟩ (fd := fnOf Tryz.f124) rfl (n := 40) fun a d hd => by
 obtain ⟨⟨f,t,_⟩,m,u⟩ := a
 cases hd
 exact (run124 f t m).trans bif3_I
def shortE (l : List (Tup evK)) : Bool := decide ((l.length : Int) ≤ 4) || ((l.length : Int) == 9)
theorem run52 (l : List (Tup evK)) : bodyK ((cfg w0).at []) 40 (fnOf Tryz.f52) [.vec evK l] = bif decide ((l.length : Int) ≤ 4) then some (Bo true) else some (Bo ((l.length : Int) == 9)) := by kernel_rfl
def c52 : Ct := ct 52 [.v evK] fun a => .leaf (Bo (shortE a.1))
theorem gd52 (h0 : Lib0 w0) : Gd (cfg w0) c52 := gd_k h0 (cs := []) trivial (fd := fnOf Tryz.f52) rfl (n := 40) fun a d hd => by
 obtain ⟨l,u⟩ := a
 cases hd
 refine (run52 l).trans ?_
 show _ = some (Bo (shortE l))
 unfold shortE
 cases decide ((l.length : Int) ≤ 4) <;> rfl
def longP (x : Tup paK) : Bool := decide (((pn x).size : Int) > 40)
def rel53 : List (Nat × Cv) := [(0,.id),(3,.id),(2,.id)]
def st53 (l : List (Tup paK)) (a : Int × Bool) : List D := [.vec paK l,I a.1,Bo a.2]
theorem round53 (l : List (Tup paK)) (j : Int) (b : Bool) : rndD ((cfg w0).at []) 40 [] 40 (fnOf Tryz.f53).ntmps rel53 (lpB 0 (fnOf Tryz.f53).body) (st53 l (j,b)) =
  bif decide (j < l.length) then bif (Nat.beq 5 5 && (decide (0 ≤ j) && decide (j < l.length))) then
   bif longP (nth l j.toNat) then some ([],.ret,st53 l (j,false)) else some ([],.normal,st53 l (W (j + 1),b))
  else none else some ([],.exit 0,st53 l (j,b)) := by kernel_rfl
theorem body53r (l : List (Tup paK)) (p : Int × Bool) : bodyT ((cfg w0).at []) 40 [ldP 0 (fnOf Tryz.f53).ntmps rel53 .ret (st53 l p)] 40 (fnOf Tryz.f53) [.vec paK l] =
  some ([(ldP 0 (fnOf Tryz.f53).ntmps rel53 .ret (st53 l p),.loop (lpB 0 (fnOf Tryz.f53).body),st53 l (0,false))],Bo p.2) := by kernel_rfl
theorem body53n (l : List (Tup paK)) (p : Int × Bool) : bodyT ((cfg w0).at []) 40 [ldP 0 (fnOf Tryz.f53).ntmps rel53 .normal (st53 l p)] 40 (fnOf Tryz.f53) [.vec paK l] =
  bif decide ((l.length : Int) ≤ 4) then some ([(ldP 0 (fnOf Tryz.f53).ntmps rel53 .normal (st53 l p),.loop (lpB 0 (fnOf Tryz.f53).body),st53 l (0,false))],Bo true) else some ([(ldP 0 (fnOf Tryz.f53).ntmps rel53 .normal (st53 l p),.loop (lpB 0 (fnOf Tryz.f53).body),st53 l (0,false))],Bo ((l.length : Int) == 9)) := by kernel_rfl
def shortP (l : List (Tup paK)) : Bool := !(l.any longP) && (decide ((l.length : Int) ≤ 4) || ((l.length : Int) == 9))
theorem lsRun_anyc {ks : List Kd} {β : Type} (p : Tup ks → Bool) (c : β) : ∀ (l : List (Tup ks)) (i : Nat) (a : β),∃ q : Nat,lsRun 0 (fun x a => bif p x then (X.ret,c) else (.normal,a)) l i a = bif l.any p then (.ret,((q : Int),c)) else (.exit 0,(((i + l.length : Nat) : Int),a))
 | [],i,a => ⟨0,rfl⟩
 | x :: xs,i,a => by
   obtain ⟨q,hq⟩ := lsRun_anyc p c xs (i + 1) a
   unfold lsRun
   rw [List.any_cons]
   cases hx : p x with
   | true => exact ⟨i,by simp⟩
   | false =>
     refine ⟨q,?_⟩
     simp only [cond_false,Bool.false_or]
     rw [hq,List.length_cons,show i + 1 + xs.length = i + (xs.length + 1) by omega]
theorem fn_lsW (h0 : Lib0 w0) {cs : List Ct} (hcs : Gds (cfg w0) cs) {g : FuncId} {fd : AFn} (hfd : fnTr.get g = some fd) (rel : List (Nat × Cv)) {ks : List Kd} (l : List (Tup ks)) (hlen : l.length ≤ 9223372036854775807) {α : Type} (st : Int × α → List D)
  (f : Tup ks → α → X × α) (inv : Nat → α → Prop) {a0 : α} (hi : inv 0 a0)
  (hr : ∀ (j : Nat) a,j < l.length → inv j a → RdOK ((cfg w0).at cs) fd.ntmps rel (lpB 0 fd.body) (st ((j : Int),a)) (f (nth l j) a).1 (st (nx j (f (nth l j) a))))
  (hn : ∀ (j : Nat) a a',j < l.length → inv j a → f (nth l j) a = (.normal,a') → inv (j + 1) a')
  (he : ∀ a,inv l.length a → RdOK ((cfg w0).at cs) fd.ntmps rel (lpB 0 fd.body) (st ((l.length : Int),a)) (.exit 0) (st ((l.length : Int),a)))
  {ds : List D} {d : D} (hb : ∀ x p,lsRun 0 f l 0 a0 = (x,p) → bodyT ((cfg w0).at cs) 40 [ldP 0 fd.ntmps rel (outX 0 x) (st p)] 40 fd ds = some ([(ldP 0 fd.ntmps rel (outX 0 x) (st p),.loop (lpB 0 fd.body),st (0,a0))],d)) : FnD (cfg w0) g ds d := by
 cases hx : lsRun 0 f l 0 a0 with
 | mk x p => exact fnD_lp (cfg_ok w0) h0 hcs hfd (hb x p hx) (ldT_lsW (at_ok (cfg_ok w0) cs) (at_sp h0 hcs) l (by omega) st f inv hr hn he hi hx)
theorem fn53 (h0 : Lib0 w0) (l : List (Tup paK)) (hl : l.length ≤ 9223372036854775807) : FnD (cfg w0) 53 [.vec paK l] (Bo (shortP l)) := by
 refine fn_lsW h0 (cs := []) trivial (fd := fnOf Tryz.f53) rfl rel53 l (by omega) (st53 l) (fun x a => bif longP x then (X.ret,false) else (.normal,a)) (fun _ _ => True) (a0 := false) trivial
  (fun j a hj _ => .leaf (by
   rw [round53,inb 5 hj,lt_t hj,Int.toNat_natCast]
   cases longP (nth l j) <;> rfl)) (fun _ _ _ _ _ _ => trivial)
  (fun a _ => .leaf (by rw [round53,ge_f]; rfl)) fun x p hx => ?_
 obtain ⟨q,hq⟩ := lsRun_anyc longP false l 0 false
 rw [hq] at hx
 unfold shortP
 cases ha : l.any longP <;> rw [ha] at hx <;> cases hx
 ·refine (body53n l _).trans ?_
  cases decide ((l.length : Int) ≤ 4) <;> rfl
 ·exact body53r l _
def c53 : Ct := ct 53 [.v paK] fun a => .br (Nat.ble (a.1 : List (Tup paK)).length 9223372036854775807) (.leaf (Bo (shortP a.1))) .bad
theorem gd53 (h0 : Lib0 w0) : Gd (cfg w0) c53 := gd_sig fun a d hd => by
 obtain ⟨hg,hd⟩ := br_run hd
 cases hd
 exact fn53 h0 a.1 (Nat.le_of_ble_eq_true hg)
def rel60 : List (Nat × Cv) := [(6,.id),(7,.id),(8,.id),(3,.ov evK)]
def st60 (l : List (Tup evK)) (a : Int × List (Tup evK)) : List D := [.vec evK l,I l.length,I a.1,.ovec evK a.2]
theorem round60 (l o : List (Tup evK)) (j : Int) : rndD ((cfg w0).at []) 40 [] 40 (fnOf Tryz.f60).ntmps rel60 (lpB 0 (fnOf Tryz.f60).body) (st60 l (j,o)) =
  bif decide (j < l.length) then bif (Nat.beq 6 6 && (decide (0 ≤ j) && decide (j < l.length))) then
   bif (Nat.ble ((o ++ [nth l j.toNat]).length * 48) 1000000000000 && Nat.ble (o ++ [nth l j.toNat]).length 1000000000000) then some ([],.normal,st60 l (W (j + 1),o ++ [nth l j.toNat])) else none
  else none else some ([],.exit 0,st60 l (j,o)) := by kernel_rfl
theorem body60 (l : List (Tup evK)) (p : Int × List (Tup evK)) : bodyT ((cfg w0).at []) 40 [ldP 0 (fnOf Tryz.f60).ntmps rel60 .normal (st60 l p)] 40 (fnOf Tryz.f60) [.vec evK l] =
  some ([(ldP 0 (fnOf Tryz.f60).ntmps rel60 .normal (st60 l p),.loop (lpB 0 (fnOf Tryz.f60).body),st60 l (0,[]))],.vec evK p.2) := by kernel_rfl
theorem fn60 (h0 : Lib0 w0) (l : List (Tup evK)) (hg : l.length ≤ 100000) : FnD (cfg w0) 60 [.vec evK l] (.vec evK l) := by
 refine fn_ls h0 (cs := []) trivial (fd := fnOf Tryz.f60) rfl rel60 l (by omega) (st60 l) (fun w a => (X.normal,a ++ [w])) (fun j a => a.length = j) (a0 := []) rfl
  (fun j a hj hi => .leaf (by
   have hi : a.length = j := hi
   rw [round60,inb 6 hj,lt_t hj,Int.toNat_natCast,room (by omega) (by omega)]
   rfl)) (fun j a a' _ hi h => by cases h; simp [hi])
  (fun a _ => .leaf (by rw [round60,ge_f]; rfl)) fun x p hx => ?_
 rw [lsRun_fold (h := fun w b => b ++ [w]) 0 l 0 [] (fun _ _ _ => rfl),show (fun b (w : Tup evK) => b ++ [w]) = (fun b w => b ++ [id w]) from rfl,foldl_snoc id,List.map_id,List.nil_append] at hx
 cases hx
 exact body60 l _
def rel63 : List (Nat × Cv) := [(6,.id),(7,.id),(8,.id),(3,.ov paK)]
def st63 (l : List (Tup paK)) (a : Int × List (Tup paK)) : List D := [.vec paK l,I l.length,I a.1,.ovec paK a.2]
theorem round63 (l o : List (Tup paK)) (j : Int) : rndD ((cfg w0).at []) 40 [] 40 (fnOf Tryz.f63).ntmps rel63 (lpB 0 (fnOf Tryz.f63).body) (st63 l (j,o)) =
  bif decide (j < l.length) then bif (Nat.beq 5 5 && (decide (0 ≤ j) && decide (j < l.length))) then
   bif (Nat.ble ((o ++ [nth l j.toNat]).length * 48) 1000000000000 && Nat.ble (o ++ [nth l j.toNat]).length 1000000000000) then some ([],.normal,st63 l (W (j + 1),o ++ [nth l j.toNat])) else none
  else none else some ([],.exit 0,st63 l (j,o)) := by kernel_rfl
theorem body63 (l : List (Tup paK)) (p : Int × List (Tup paK)) : bodyT ((cfg w0).at []) 40 [ldP 0 (fnOf Tryz.f63).ntmps rel63 .normal (st63 l p)] 40 (fnOf Tryz.f63) [.vec paK l] =
  some ([(ldP 0 (fnOf Tryz.f63).ntmps rel63 .normal (st63 l p),.loop (lpB 0 (fnOf Tryz.f63).body),st63 l (0,[]))],.vec paK p.2) := by kernel_rfl
theorem fn63 (h0 : Lib0 w0) (l : List (Tup paK)) (hg : l.length ≤ 100000) : FnD (cfg w0) 63 [.vec paK l] (.vec paK l) := by
 refine fn_ls h0 (cs := []) trivial (fd := fnOf Tryz.f63) rfl rel63 l (by omega) (st63 l) (fun w a => (X.normal,a ++ [w])) (fun j a => a.length = j) (a0 := []) rfl
  (fun j a hj hi => .leaf (by
   have hi : a.length = j := hi
   rw [round63,inb 5 hj,lt_t hj,Int.toNat_natCast,room (by omega) (by omega)]
   rfl)) (fun j a a' _ hi h => by cases h; simp [hi])
  (fun a _ => .leaf (by rw [round63,ge_f]; rfl)) fun x p hx => ?_
 rw [lsRun_fold (h := fun w b => b ++ [w]) 0 l 0 [] (fun _ _ _ => rfl),show (fun b (w : Tup paK) => b ++ [w]) = (fun b w => b ++ [id w]) from rfl,foldl_snoc id,List.map_id,List.nil_append] at hx
 cases hx
 exact body63 l _
def c60 : Ct := ct 60 [.v evK] fun a => .br (Nat.ble (a.1 : List (Tup evK)).length 100000) (.leaf (.vec evK a.1)) .bad
theorem gd60 (h0 : Lib0 w0) : Gd (cfg w0) c60 := gd_sig fun a d hd => by
 obtain ⟨hg,hd⟩ := br_run hd
 cases hd
 exact fn60 h0 a.1 (Nat.le_of_ble_eq_true hg)
def c63 : Ct := ct 63 [.v paK] fun a => .br (Nat.ble (a.1 : List (Tup paK)).length 100000) (.leaf (.vec paK a.1)) .bad
theorem gd63 (h0 : Lib0 w0) : Gd (cfg w0) c63 := gd_sig fun a d hd => by
 obtain ⟨hg,hd⟩ := br_run hd
 cases hd
 exact fn63 h0 a.1 (Nat.le_of_ble_eq_true hg)
end
end Go.Proofs.YtifnpljmjhnbaaaGreatDoor
