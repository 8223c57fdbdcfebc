/-
 A part of the proof of the statement that the claim names: see the last file.
-/
import Derived.Test.YtifnpljmjhnbaaaGreatDoorB6
import Derived.Test.YtifnpljmjhnbaaaGreatDoorAm6
namespace Go.Proofs.YtifnpljmjhnbaaaGreatDoor
open Go Go.Am
set_option maxRecDepth 100000
variable {w0 : World}
noncomputable section
def isNil (d : D) : Bool := match d with
 | .val (.slice none 0 0) => true
 | _ => false
theorem isNil_eq {d : D} (h : isNil d = true) : d = .val (.slice none 0 0) := by
 unfold isNil at h
 split at h
 ·rfl
 ·cases h
def c134 : Ct := ct 134 [.v evK,.v paK,.c ik,.x] fun a => .br (isNil a.2.2.2.1 && (Nat.blt 0 a.1.length && (Nat.ble a.1.length 4 && Nat.ble a.2.1.length 8))) (.leaf (.vec lsK (m134 a.2.1 a.2.2.1 a.1 []))) .bad
theorem gd134 (h0 : Lib0 w0) : Gd (cfg w0) c134 := gd_sig fun a d hd => by
 obtain ⟨l,p,s,b,u⟩ := a
 obtain ⟨hg,hd⟩ := br_run hd
 cases hd
 simp only [Bool.and_eq_true,Nat.blt_eq,Nat.ble_eq] at hg
 obtain ⟨g1,g2,g3,g4⟩ := hg
 cases isNil_eq g1
 exact fn134n h0 l p s g2 g3 g4
def T75 : Nat × Nat × Nat × Nat × Nat × Nat × Nat × Nat := (13,0,1,2,9,10,11,12)
abbrev rel75 : List (Nat × Cv) := relS T75
def st75 (l : List (Tup evK)) (p : List (Tup paK)) (s : Int) (al : TLL) (a : Int × S3) : List D := [I a.1,.vec evK l,.vec paK p,I s,.ovec lsK al,I a.2.1,I a.2.2.1,I a.2.2.2]
abbrev cgR (w0 : World) : Cfg := { (cfg w0).at [c70] with inr := true }
abbrev B75 : Code := .loop (Am.lpB 0 (fnOf Tryz.f75).body)
def nV (l : List (Tup evK)) (p : List (Tup paK)) (s : Int) (x : Tup lsK) : Int := (chkM l p s x.1).1
def inL (al : TLL) (j : Int) : Bool := Nat.beq 0 0 && (decide (0 ≤ j) && decide (j < al.length))
theorem round75 (l : List (Tup evK)) (p : List (Tup paK)) (s : Int) (al : TLL) (j : Int) (a : S3) : rndD (cgR w0) 40 [] 40 (fnOf Tryz.f75).ntmps rel75 (Am.lpB 0 (fnOf Tryz.f75).body) (st75 l p s al (j,a)) =
  bif decide (j < al.length) then bif inL al j then bif sm (nth al j.toNat).1 then
   bif decide (nV l p s (nth al j.toNat) > a.2.1) then some ([],.normal,st75 l p s al (W (j + 1),j,nV l p s (nth al j.toNat),a.2.1))
   else some ([],.normal,st75 l p s al (W (j + 1),a.1,a.2.1,mxI (nV l p s (nth al j.toNat)) a.2.2))
  else none else none else some ([],.exit 0,st75 l p s al (j,a)) := by kernel_rfl
def nx75 (l : List (Tup evK)) (p : List (Tup paK)) (s : Int) (al : TLL) (j : Nat) (a : S3) : S3 := bif decide (nV l p s (nth al j) > a.2.1) then ((j : Int),nV l p s (nth al j),a.2.1) else (a.1,a.2.1,mxI (nV l p s (nth al j)) a.2.2)
theorem fold75 (l : List (Tup evK)) (p : List (Tup paK)) (s : Int) (al : TLL) : ∀ (lb la : TLL) (a : S3),al = la ++ lb → (List.range' la.length lb.length).foldl (fun a j => nx75 l p s al j a) a = rfo la.length (lb.map (nV l p s)) a
 | [],la,a,h => rfl
 | x :: lb,la,a,h => by
   have hn : nth al la.length = x := by rw [h]; simp [nth,List.getD_eq_getElem?_getD]
   have ih := fold75 l p s al lb (la ++ [x]) (nx75 l p s al la.length a) (by rw [h]; simp)
   rw [List.length_cons,List.range'_succ,List.foldl_cons,List.map_cons]
   unfold rfo
   rw [show (la ++ [x]).length = la.length + 1 by simp] at ih
   rw [ih]
   unfold nx75
   rw [hn]
def smA (al : TLL) : Bool := Nat.blt 0 al.length && (Nat.ble al.length 100000 && al.all fun x => sm x.1)
def rs75 (l : List (Tup evK)) (p : List (Tup paK)) (s : Int) (al : TLL) : Int × Int × Int := rfo 0 (al.map (nV l p s)) (0,-1,-1)
def told75 (X : HsX evK paK lsK) : FT (Value × Value × Value × Value) := match X.j,X.s,X.x,X.y,X.z with
 | .int .i64 j,.int .i64 s,.int .i64 x,.int .i64 y,.int .i64 z => .br (decide (j = 0) && (decide (x = 0) && (decide (y = -1) && decide (z = -1)))) (.br (smA X.c) (.leaf (iv X.c.length,iv (rs75 X.a X.b s X.c).1,iv (rs75 X.a X.b s X.c).2.1,iv (rs75 X.a X.b s X.c).2.2)) .bad) .bad
 | _,_,_,_,_ => .bad
theorem told75_inv {X : HsX evK paK lsK} {y : Value × Value × Value × Value} (h : (told75 X).run = some y) : ∃ s : Int,X = ⟨iv 0,X.a,X.b,iv s,X.c,iv 0,iv (-1),iv (-1)⟩ ∧ smA X.c = true ∧ y = (iv X.c.length,iv (rs75 X.a X.b s X.c).1,iv (rs75 X.a X.b s X.c).2.1,iv (rs75 X.a X.b s X.c).2.2) := by
 obtain ⟨j,a,b,sl,c,vx,vy,vz⟩ := X
 unfold told75 at h
 simp only at h
 split at h
 ·rename_i j s x y z
  obtain ⟨g1,h⟩ := br_runH h
  obtain ⟨g2,h⟩ := br_runH h
  cases h
  simp only [Bool.and_eq_true,decide_eq_true_eq] at g1
  obtain ⟨rfl,rfl,rfl,rfl⟩ := g1
  exact ⟨s,rfl,g2,rfl⟩
 ·cases h
theorem cgR_ok (w0 : World) : CfgOk (cgR w0) := have ok := at_ok (cfg_ok w0) [c70]; ⟨ok.ty,ok.fn,ok.mixed⟩
theorem cgR_sp (h0 : Lib0 w0) : SpecOK (cgR w0) := (at_sp h0 (cs := [c70]) ⟨gd70 h0,trivial⟩ : SpecOK ((cfg w0).at [c70]))
theorem inL_nat {al : TLL} {j : Nat} (h : j < al.length) : inL al (j : Int) = true := inb 0 h
theorem ld75 (h0 : Lib0 w0) (l : List (Tup evK)) (p : List (Tup paK)) (s : Int) (al : TLL) (hs : smA al = true) : LdT (cgR w0) (ldP 0 (fnOf Tryz.f75).ntmps rel75 .normal (st75 l p s al ((al.length : Int),rs75 l p s al))) B75 (st75 l p s al (0,0,-1,-1)) := by
 unfold smA at hs
 simp only [Bool.and_eq_true,Nat.blt_eq,Nat.ble_eq,List.all_eq_true] at hs
 obtain ⟨s1,s2,s3⟩ := hs
 have hx := rgRun_fold (id := 0) (step := fun j (a : S3) => (X.normal,nx75 l p s al j a)) (h := fun j a => nx75 l p s al j a) al.length 0 (0,-1,-1) fun _ _ _ _ => rfl
 have hf := fold75 l p s al al [] (0,-1,-1) rfl
 rw [List.length_nil] at hf
 rw [hf,Nat.zero_add] at hx
 exact ldT_rg (cgR_ok w0) (cgR_sp h0) (N := (fnOf Tryz.f75).ntmps) (rel := rel75) (B := Am.lpB 0 (fnOf Tryz.f75).body) (id := 0) (k := al.length) (by omega) (st75 l p s al) (fun j (a : S3) => (X.normal,nx75 l p s al j a)) (fun _ _ => True)
  (fun j a hj _ => .leaf (by
   rw [round75,lt_t hj,inL_nat hj,Int.toNat_natCast,s3 (nth al j) (by rw [show nth al j = al[j] by simp [nth,hj]]; exact List.getElem_mem _)]
   unfold nx75
   cases decide (nV l p s (nth al j) > a.2.1) <;> rfl)) (fun _ _ _ _ _ _ => trivial)
  (fun a _ => .leaf (by rw [round75,ge_f]; rfl)) trivial hx
def hk75 (h0 : Lib0 w0) : Hook (cgR w0).P (cgR w0).G (cgR w0).GB := hookS (C := cgR w0) (b := B75) 0 (fnOf Tryz.f75).ntmps T75 [] told75 rfl rfl rfl (by decide)
 (fun X y h => by
  obtain ⟨s,e,hs,rfl⟩ := told75_inv h
  unfold smA at hs
  simp only [Bool.and_eq_true,Nat.blt_eq] at hs
  exact hs.1)
 (fun X y h => by obtain ⟨s,e,hs,rfl⟩ := told75_inv h; rfl)
 (fun X y h => by
  obtain ⟨s,e,hs,rfl⟩ := told75_inv h
  generalize X.a = a at *
  generalize X.b = b at *
  generalize X.c = c at *
  subst e
  exact ld75 h0 a b s c hs)
end
end Go.Proofs.YtifnpljmjhnbaaaGreatDoor
