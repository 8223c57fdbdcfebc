/-
 A part of the proof of the statement that the claim names: see the last file.
-/
import Derived.Test.YtifnpljmjhnbaaaGreatDoorB5
import Derived.Test.YtifnpljmjhnbaaaGreatDoorAm6
namespace Go.Proofs.YtifnpljmjhnbaaaGreatDoor
open Go Go.Am
set_option maxRecDepth 100000
variable {w0 : World}
noncomputable section
abbrev lsK : List Kd := [.list intK]
abbrev TLL := List (Tup lsK)
def tl (l : TLi) : Tup lsK := (l,())
def leafD (b : TLi) : D := .sl 1 1 [.vec intK b]
def m134 (p : List (Tup paK)) (s : Int) (l : List (Tup evK)) (b : TLi) : TLL := (mr p s (l.drop b.length) b).map tl
def F134 (j : Nat) : List D → FT D := fun ds => match ds with
 | [.vec k1 l,.vec k2 p,.val (.int .i64 s),.ovec k3 b] => match recast k1 evK l,recast k2 paK p,recast k3 intK b with
   | some l,some p,some b => .br (Nat.beq b.length j && (Nat.ble j l.length && (Nat.ble l.length 4 && Nat.ble p.length 8))) (.br (Nat.beq l.length j) (.leaf (leafD b)) (.leaf (.vec lsK (m134 p s l b)))) .bad
   | _,_,_ => .bad
 | _ => .bad
def rel134 : List (Nat × Cv) := [(11,.id),(0,.id),(1,.id),(2,.id),(3,.id),(9,.id),(10,.ov lsK)]
def st134 (l : List (Tup evK)) (p : List (Tup paK)) (s : Int) (b : TLi) (a : Int × TLL) : List D := [I a.1,.vec evK l,.vec paK p,I s,.ovec intK b,I b.length,.ovec lsK a.2]
def st134n (l : List (Tup evK)) (p : List (Tup paK)) (s : Int) (a : Int × TLL) : List D := [I a.1,.vec evK l,.vec paK p,I s,.val (.slice none 0 0),I 0,.ovec lsK a.2]
abbrev cgM (w0 : World) (j : Nat) : Cfg := ((cfg w0).onH [(134,mvF (F134 j))]).at [c78,c122]
abbrev Rnd := Option (Obs × X × List D)
def gX (b : Bool) (k : Rnd) : Rnd := bif b then k else none
def rmI (x : TLi) : Bool := Nat.ble (x.length * 8) 1000000000000 && Nat.ble x.length 1000000000000
def rmL (x : TLL) : Bool := Nat.ble (x.length * 24) 1000000000000 && Nat.ble x.length 1000000000000
def okJ (j : Nat) (l : List (Tup evK)) (p : List (Tup paK)) (c : TLi) : Bool := Nat.beq c.length j && (Nat.ble j l.length && (Nat.ble l.length 4 && Nat.ble p.length 8))
def call1 (st : Int × TLL → List D) (j : Nat) (l : List (Tup evK)) (p : List (Tup paK)) (s : Int) (c : TLi) (k : Int) (o : TLL) : Rnd :=
 gX (okJ j l p c) (bif Nat.beq l.length j then gX (rmL (o ++ [tl c])) (some ([],.normal,st (W (k + 1),o ++ [tl c]))) else gX (rmL (o ++ m134 p s l c)) (some ([],.normal,st (W (k + 1),o ++ m134 p s l c))))
def ap (st : Int × TLL → List D) (j : Nat) (l : List (Tup evK)) (p : List (Tup paK)) (s : Int) (b : TLi) (k : Int) (o : TLL) (n : Int) : Rnd :=
 gX (rmI ([] ++ b)) (gX (rmI (([] ++ b) ++ [t1 n])) (call1 st j l p s (([] ++ b) ++ [t1 n]) k o))
theorem round134 (j : Nat) (l : List (Tup evK)) (p : List (Tup paK)) (s : Int) (b : TLi) (k : Int) (o : TLL) : rndD (cgM w0 j) 40 [] 40 (fnOf Tryz.f134).ntmps rel134 (Am.lpB 0 (fnOf Tryz.f134).body) (st134 l p s b (k,o)) =
  bif decide (k ≤ p.length) then bif k == (p.length : Int) then ap (st134 l p s b) j l p s b k o (-1) else bif k != -1 then
   gX (sm b) (bif b.any (fun x => i1 x == k) then some ([],.normal,st134 l p s b (W (k + 1),o)) else gX (inE l b.length) (gX (inP p k)
    (bif !exR (nth l (b.length : Int).toNat) (nth p k.toNat) s then some ([],.normal,st134 l p s b (W (k + 1),o)) else ap (st134 l p s b) j l p s b k o k)))
  else ap (st134 l p s b) j l p s b k o k
  else some ([],.exit 0,st134 l p s b (k,o)) := by kernel_rfl
theorem round134n (j : Nat) (l : List (Tup evK)) (p : List (Tup paK)) (s : Int) (k : Int) (o : TLL) : rndD (cgM w0 j) 40 [] 40 (fnOf Tryz.f134).ntmps rel134 (Am.lpB 0 (fnOf Tryz.f134).body) (st134n l p s (k,o)) =
  bif decide (k ≤ p.length) then bif k == (p.length : Int) then call1 (st134n l p s) j l p s [t1 (-1)] k o else bif k != -1 then
   gX (inE l 0) (gX (inP p k)
    (bif !exR (nth l 0) (nth p k.toNat) s then some ([],.normal,st134n l p s (W (k + 1),o)) else call1 (st134n l p s) j l p s [t1 k] k o))
  else call1 (st134n l p s) j l p s [t1 k] k o
  else some ([],.exit 0,st134n l p s (k,o)) := by kernel_rfl
theorem body134 (j : Nat) (l : List (Tup evK)) (p : List (Tup paK)) (s : Int) (b : TLi) (a : Int × TLL) : bodyT (cgM w0 j) 40 [ldP 0 (fnOf Tryz.f134).ntmps rel134 .normal (st134 l p s b a)] 40 (fnOf Tryz.f134) [.vec evK l,.vec paK p,I s,.ovec intK b] =
  bif (b.length : Int) == l.length then some ([],leafD b) else some ([(ldP 0 (fnOf Tryz.f134).ntmps rel134 .normal (st134 l p s b a),.loop (Am.lpB 0 (fnOf Tryz.f134).body),st134 l p s b (0,[]))],.vec lsK a.2) := by kernel_rfl
theorem body134l (l : List (Tup evK)) (p : List (Tup paK)) (s : Int) (b : TLi) : bodyT ((cfg w0).at [c78,c122]) 40 [ldP 0 (fnOf Tryz.f134).ntmps rel134 .normal (st134 l p s b (0,[]))] 40 (fnOf Tryz.f134) [.vec evK l,.vec paK p,I s,.ovec intK b] =
  bif (b.length : Int) == l.length then some ([],leafD b) else some ([(ldP 0 (fnOf Tryz.f134).ntmps rel134 .normal (st134 l p s b (0,[])),.loop (Am.lpB 0 (fnOf Tryz.f134).body),st134 l p s b (0,[]))],.vec lsK []) := by kernel_rfl
theorem body134n (j : Nat) (l : List (Tup evK)) (p : List (Tup paK)) (s : Int) (a : Int × TLL) : bodyT (cgM w0 j) 40 [ldP 0 (fnOf Tryz.f134).ntmps rel134 .normal (st134n l p s a)] 40 (fnOf Tryz.f134) [.vec evK l,.vec paK p,I s,.val (.slice none 0 0)] =
  bif (0 : Int) == l.length then some ([],.sl 1 1 [.val (.slice none 0 0)]) else some ([(ldP 0 (fnOf Tryz.f134).ntmps rel134 .normal (st134n l p s a),.loop (Am.lpB 0 (fnOf Tryz.f134).body),st134n l p s (0,[]))],.vec lsK a.2) := by kernel_rfl
end
end Go.Proofs.YtifnpljmjhnbaaaGreatDoor
namespace Go.Proofs.YtifnpljmjhnbaaaGreatDoor
open Go Go.Am
set_option maxRecDepth 100000
variable {w0 : World}
noncomputable section
def add134 (p : List (Tup paK)) (s : Int) (l : List (Tup evK)) (b : TLi) (k : Nat) : TLL := bif Nat.beq k p.length then m134 p s l (b ++ [t1 (-1)]) else bif skp p s (nth l b.length) b k then [] else m134 p s l (b ++ [t1 (k : Int)])
theorem flatMap_len {α β : Type} {f : α → List β} {B : Nat} : ∀ (L : List α),(∀ x ∈ L,(f x).length ≤ B) → (L.flatMap f).length ≤ L.length * B
 | [],_ => by simp
 | x :: L,h => by
   have := flatMap_len L fun y hy => h y (by simp [hy])
   have := h x (by simp)
   rw [List.flatMap_cons,List.length_append,List.length_cons,Nat.succ_mul]
   omega
theorem mr_len {p : List (Tup paK)} {s : Int} (hp8 : p.length ≤ 8) : ∀ (es : List (Tup evK)) (pre : TLi),(mr p s es pre).length ≤ 9 ^ es.length
 | [],pre => by simp [mr]
 | e :: es,pre => by
   have h1 := flatMap_len (f := fun k => bif skp p s e pre k then [] else mr p s es (pre ++ [t1 (k : Int)])) (B := 9 ^ es.length) (List.range' 0 p.length) fun k _ => by
    cases skp p s e pre k with
    | true => exact Nat.zero_le _
    | false => exact mr_len hp8 es _
   have h2 := mr_len (s := s) hp8 es (pre ++ [t1 (-1)])
   rw [List.length_range'] at h1
   unfold mr
   rw [List.length_append,List.length_cons,Nat.pow_succ]
   have : p.length * 9 ^ es.length ≤ 8 * 9 ^ es.length := Nat.mul_le_mul_right _ hp8
   omega
theorem m134_len {p : List (Tup paK)} {s : Int} {l : List (Tup evK)} {c : TLi} (hl : l.length ≤ 4) (hp8 : p.length ≤ 8) : (m134 p s l c).length ≤ 6561 := by
 unfold m134
 rw [List.length_map]
 have h1 := mr_len (s := s) hp8 (l.drop c.length) c
 have h2 : 9 ^ (l.drop c.length).length ≤ 9 ^ 4 := Nat.pow_le_pow_right (by omega) (by rw [List.length_drop]; omega)
 omega
section
variable {st : Int × TLL → List D} {l : List (Tup evK)} {p : List (Tup paK)} {s : Int} {b : TLi} {k n : Int} {o : TLL}
theorem rmL_ok {x y : TLL} (hx : x.length ≤ 100000) (hy : y.length ≤ 6561) : rmL (x ++ y) = true := by
 unfold rmL
 rw [List.length_append,Bool.and_eq_true,Nat.ble_eq,Nat.ble_eq]
 omega
theorem call1_eq {j : Nat} {c : TLi} (hc : c.length = j) (hj : j ≤ l.length) (hl : l.length ≤ 4) (hp8 : p.length ≤ 8) (ho : o.length ≤ 100000) : call1 st j l p s c k o = some ([],.normal,st (W (k + 1),o ++ m134 p s l c)) := by
 unfold call1 gX okJ
 rw [beq_t hc,(Nat.ble_eq ..).mpr hj,(Nat.ble_eq ..).mpr hl,(Nat.ble_eq ..).mpr hp8,rmL_ok ho (m134_len hl hp8),rmL_ok ho (y := [tl c]) (by simp)]
 cases hb : Nat.beq l.length j with
 | true =>
   rw [Nat.beq_eq] at hb
   have : m134 p s l c = [tl c] := by
    unfold m134
    rw [List.drop_eq_nil_of_le (by omega)]; rfl
   rw [this]; rfl
 | false => rfl
theorem rmI_ok {x : TLi} (h : x.length ≤ 100000) : rmI x = true := by
 unfold rmI
 rw [Bool.and_eq_true,Nat.ble_eq,Nat.ble_eq]
 omega
theorem ap_eq (hb : b.length < l.length) (hl : l.length ≤ 4) (hp8 : p.length ≤ 8) (ho : o.length ≤ 100000) : ap st (b.length + 1) l p s b k o n = some ([],.normal,st (W (k + 1),o ++ m134 p s l (b ++ [t1 n]))) := by
 unfold ap
 rw [List.nil_append,rmI_ok (by omega),rmI_ok (by simp; omega),call1_eq (by simp) (by omega) hl hp8 ho]
 rfl
theorem rd134 (w0 : World) {k : Nat} (hk : k < p.length + 1) (hb : b.length < l.length) (hl : l.length ≤ 4) (hp8 : p.length ≤ 8) (ho : o.length ≤ 100000) :
  rndD (cgM w0 (b.length + 1)) 40 [] 40 (fnOf Tryz.f134).ntmps rel134 (Am.lpB 0 (fnOf Tryz.f134).body) (st134 l p s b ((k : Int),o)) = some ([],.normal,st134 l p s b (W ((k : Int) + 1),o ++ add134 p s l b k)) := by
 rw [round134,decide_eq_true (show (k : Int) ≤ p.length by omega)]
 unfold add134
 by_cases e : k = p.length
 ·subst e
  rw [beq_self_eq_true,Nat.beq_refl]
  exact ap_eq hb hl hp8 ho
 ·have e1 : Nat.beq k p.length = false := by cases h : Nat.beq k p.length with
   | true => exact absurd (Nat.eq_of_beq_eq_true h) e
   | false => rfl
  rw [beq_eq_false_iff_ne.2 (show (k : Int) ≠ p.length by omega),show ((k : Int) != -1) = true by simp,e1,show sm b = true from (Nat.ble_eq ..).mpr (by omega),inE_nat hb,inP_nat (by omega),Int.toNat_natCast,Int.toNat_natCast]
  unfold skp gX
  cases (b.any fun x => i1 x == (k : Int)) with
  | true => simp
  | false =>
    cases exR (nth l b.length) (nth p k) s with
    | false => simp
    | true => exact ap_eq hb hl hp8 ho
theorem rd134n (w0 : World) {k : Nat} (hk : k < p.length + 1) (hb : 0 < l.length) (hl : l.length ≤ 4) (hp8 : p.length ≤ 8) (ho : o.length ≤ 100000) :
  rndD (cgM w0 1) 40 [] 40 (fnOf Tryz.f134).ntmps rel134 (Am.lpB 0 (fnOf Tryz.f134).body) (st134n l p s ((k : Int),o)) = some ([],.normal,st134n l p s (W ((k : Int) + 1),o ++ add134 p s l [] k)) := by
 rw [round134n,decide_eq_true (show (k : Int) ≤ p.length by omega)]
 unfold add134
 by_cases e : k = p.length
 ·subst e
  rw [beq_self_eq_true,Nat.beq_refl]
  exact call1_eq rfl (by omega) hl hp8 ho
 ·have e1 : Nat.beq k p.length = false := by cases h : Nat.beq k p.length with
   | true => exact absurd (Nat.eq_of_beq_eq_true h) e
   | false => rfl
  rw [beq_eq_false_iff_ne.2 (show (k : Int) ≠ p.length by omega),show ((k : Int) != -1) = true by simp,e1,show inE l 0 = true from inE_nat (j := 0) hb,inP_nat (by omega),Int.toNat_natCast]
  unfold skp gX
  simp only [cond_true,cond_false,List.any_nil,Bool.false_or,List.length_nil]
  cases exR (nth l 0) (nth p k) s with
  | false => simp
  | true => exact call1_eq rfl (by omega) hl hp8 ho
theorem foldl_app {α β : Type} (f : α → List β) : ∀ (L : List α) (a : List β),L.foldl (fun o k => o ++ f k) a = a ++ L.flatMap f
 | [],a => by simp
 | x :: L,a => by
   rw [List.foldl_cons,foldl_app f L,List.flatMap_cons,List.append_assoc]
theorem flatMap_cg {α β : Type} {f g : α → List β} : ∀ (L : List α),(∀ x ∈ L,f x = g x) → L.flatMap f = L.flatMap g
 | [],_ => rfl
 | x :: L,h => by rw [List.flatMap_cons,List.flatMap_cons,h x (by simp),flatMap_cg L fun y hy => h y (by simp [hy])]
theorem fold134 (hb : b.length < l.length) : (List.range' 0 (p.length + 1)).foldl (fun o k => o ++ add134 p s l b k) [] = m134 p s l b := by
 rw [foldl_app,List.nil_append,List.range'_1_concat,List.flatMap_append,List.flatMap_singleton]
 have hd : l.drop b.length = nth l b.length :: l.drop (b.length + 1) := by
  rw [show nth l b.length = l[b.length] by simp [nth,hb]]
  exact List.drop_eq_getElem_cons hb
 unfold m134
 rw [hd]
 unfold mr
 rw [List.map_append,List.map_flatMap]
 congr 1
 ·refine flatMap_cg _ fun k hk => ?_
  rw [List.mem_range'_1] at hk
  have e1 : Nat.beq k p.length = false := by cases h : Nat.beq k p.length with
   | true => have := Nat.eq_of_beq_eq_true h; omega
   | false => rfl
  unfold add134 m134
  simp only [e1,List.length_append,List.length_singleton,cond_false]
  cases skp p s (nth l b.length) b k <;> rfl
 ·unfold add134 m134
  rw [Nat.zero_add,Nat.beq_refl,List.length_append]; rfl
end
theorem F134_ok (h0 : Lib0 w0) : ∀ (n j : Nat),4 - j ≤ n → ∀ (ds : List D) (d : D),(F134 j ds).run = some d → FnM (cfg w0) 134 ds d := fun n => by
 induction n with
 | zero =>
   intro j hn ds d h
   unfold F134 at h
   split at h
   ·rename_i k1 l k2 p s k3 b
    split at h
    ·rename_i l' p' b' e1 e2 e3
     obtain ⟨rfl,q1⟩ := recast_eq e1
     obtain ⟨rfl,q2⟩ := recast_eq e2
     obtain ⟨rfl,q3⟩ := recast_eq e3
     have q1 : l = l' := q1.symm
     have q2 : p = p' := q2.symm
     have q3 : b = b' := q3.symm
     subst q1
     subst q2
     subst q3
     obtain ⟨hg,h⟩ := br_run h
     simp only [Bool.and_eq_true,Nat.ble_eq,Nat.beq_eq] at hg
     obtain ⟨g1,g2,g3,g4⟩ := hg
     rw [beq_t (show l.length = j by omega)] at h
     cases h
     exact FnM.sy (bodyT_move (C := (cfg w0).at [c78,c122]) (at_ok (cfg_ok w0) _) (at_sp h0 ⟨gd78 h0,gd122 h0,trivial⟩) (g := 134) (fd := fnOf Tryz.f134) rfl (o := []) ((body134l l p s b).trans (by
      rw [show ((b.length : Int) == l.length) = true by simp; omega]; rfl)) trivial)
    ·cases h
   ·cases h
 | succ n ih =>
   intro j hn ds d h
   unfold F134 at h
   split at h
   ·rename_i k1 l k2 p s k3 b
    split at h
    ·rename_i l' p' b' e1 e2 e3
     obtain ⟨rfl,q1⟩ := recast_eq e1
     obtain ⟨rfl,q2⟩ := recast_eq e2
     obtain ⟨rfl,q3⟩ := recast_eq e3
     have q1 : l = l' := q1.symm
     have q2 : p = p' := q2.symm
     have q3 : b = b' := q3.symm
     subst q1
     subst q2
     subst q3
     obtain ⟨hg,h⟩ := br_run h
     simp only [Bool.and_eq_true,Nat.ble_eq,Nat.beq_eq] at hg
     obtain ⟨g1,g2,g3,g4⟩ := hg
     cases hb : Nat.beq l.length j with
     | true =>
       rw [hb] at h
       rw [Nat.beq_eq] at hb
       cases h
       exact FnM.sy (bodyT_move (C := (cfg w0).at [c78,c122]) (at_ok (cfg_ok w0) _) (at_sp h0 ⟨gd78 h0,gd122 h0,trivial⟩) (g := 134) (fd := fnOf Tryz.f134) rfl (o := []) ((body134l l p s b).trans (by
        rw [show ((b.length : Int) == l.length) = true by simp; omega]; rfl)) trivial)
     | false =>
       rw [hb] at h
       cases h
       have hlt : b.length < l.length := by
        have : l.length ≠ j := fun e => by rw [beq_t e] at hb; cases hb
        omega
       subst g1
       have ok : CfgOk (cgM w0 (b.length + 1)) := at_ok (Cfg.onH_ok (cfg_ok w0) _) _
       have sp : SpecOK (cgM w0 (b.length + 1)) := at_sp (specs_onH h0 (hs := [(134,mvF (F134 (b.length + 1)))]) ⟨fun argv h v h' hv => callM_sound (ih (b.length + 1) (by omega)) hv,trivial⟩) (Gds.onH (C := cfg w0) ⟨gd78 h0,gd122 h0,trivial⟩)
       have hx := rgRun_fold (id := 0) (step := fun k (o : TLL) => (X.normal,o ++ add134 p s l b k)) (h := fun k o => o ++ add134 p s l b k) (p.length + 1) 0 [] fun _ _ _ _ => rfl
       rw [fold134 hlt] at hx
       have hL := ldT_rg ok sp (N := (fnOf Tryz.f134).ntmps) (rel := rel134) (B := Am.lpB 0 (fnOf Tryz.f134).body) (id := 0) (k := p.length + 1) (by omega) (st134 l p s b) (fun k (o : TLL) => (X.normal,o ++ add134 p s l b k)) (fun k o => o.length ≤ 6561 * k)
        (fun k o hk hi => .leaf (rd134 w0 hk hlt g3 g4 (by omega))) (fun k o o' hk hi he => by
         cases he
         rw [List.length_append]
         have : (add134 p s l b k).length ≤ 6561 := by
          unfold add134
          cases Nat.beq k p.length with
          | true => exact m134_len g3 g4
          | false =>
            cases skp p s (nth l b.length) b k with
            | true => exact Nat.zero_le _
            | false => exact m134_len g3 g4
         omega)
        (fun o _ => .leaf (by
         rw [round134,decide_eq_false (show ¬ (((p.length + 1 : Nat) : Int) ≤ p.length) by omega)]; rfl)) (by simp) hx
       exact FnM.sy (cs := [c78,c122]) (C := (cfg w0).onH [(134,mvF (F134 (b.length + 1)))]) (bodyT_move (C := cgM w0 (b.length + 1)) ok sp (g := 134) (fd := fnOf Tryz.f134) rfl (o := [(ldP 0 (fnOf Tryz.f134).ntmps rel134 .normal (st134 l p s b (((0 + (p.length + 1) : Nat) : Int),m134 p s l b)),.loop (Am.lpB 0 (fnOf Tryz.f134).body),st134 l p s b (0,[]))]) ((body134 (b.length + 1) l p s b (((0 + (p.length + 1) : Nat) : Int),m134 p s l b)).trans (by
        rw [show ((b.length : Int) == l.length) = false from beq_eq_false_iff_ne.2 (by omega)]; rfl)) ⟨hL,trivial⟩)
    ·cases h
   ·cases h
theorem fn134n (h0 : Lib0 w0) (l : List (Tup evK)) (p : List (Tup paK)) (s : Int) (hl0 : 0 < l.length) (hl : l.length ≤ 4) (hp8 : p.length ≤ 8) : FnD (cfg w0) 134 [.vec evK l,.vec paK p,I s,.val (.slice none 0 0)] (.vec lsK (m134 p s l [])) := by
 have ok : CfgOk (cgM w0 1) := at_ok (Cfg.onH_ok (cfg_ok w0) _) _
 have gh : GdsH (cfg w0) [(134,mvF (F134 1))] := ⟨fun argv h v h' hv => callM_sound (F134_ok h0 3 1 (by omega)) hv,trivial⟩
 have sp : SpecOK (cgM w0 1) := at_sp (specs_onH h0 gh) (Gds.onH (C := cfg w0) ⟨gd78 h0,gd122 h0,trivial⟩)
 have hx := rgRun_fold (id := 0) (step := fun k (o : TLL) => (X.normal,o ++ add134 p s l [] k)) (h := fun k o => o ++ add134 p s l [] k) (p.length + 1) 0 [] fun _ _ _ _ => rfl
 rw [fold134 (b := []) hl0] at hx
 have hL := ldT_rg ok sp (N := (fnOf Tryz.f134).ntmps) (rel := rel134) (B := Am.lpB 0 (fnOf Tryz.f134).body) (id := 0) (k := p.length + 1) (by omega) (st134n l p s) (fun k (o : TLL) => (X.normal,o ++ add134 p s l [] k)) (fun k o => o.length ≤ 6561 * k)
  (fun k o hk hi => .leaf (rd134n w0 hk hl0 hl hp8 (by omega))) (fun k o o' hk hi he => by
   cases he
   rw [List.length_append]
   have : (add134 p s l [] k).length ≤ 6561 := by
    unfold add134
    cases Nat.beq k p.length with
    | true => exact m134_len hl hp8
    | false =>
      cases skp p s (nth l ([] : TLi).length) [] k with
      | true => exact Nat.zero_le _
      | false => exact m134_len hl hp8
   omega)
  (fun o _ => .leaf (by
   rw [round134n,decide_eq_false (show ¬ (((p.length + 1 : Nat) : Int) ≤ p.length) by omega)]; rfl)) (by simp) hx
 exact fnD_t (C := (cfg w0).onH [(134,mvF (F134 1))]) (Cfg.onH_ok (cfg_ok w0) _) (specs_onH h0 gh) (cs := [c78,c122]) (Gds.onH (C := cfg w0) ⟨gd78 h0,gd122 h0,trivial⟩) (fd := fnOf Tryz.f134) rfl (o := [(ldP 0 (fnOf Tryz.f134).ntmps rel134 .normal (st134n l p s (((0 + (p.length + 1) : Nat) : Int),m134 p s l [])),.loop (Am.lpB 0 (fnOf Tryz.f134).body),st134n l p s (0,[]))]) ((body134n 1 l p s (((0 + (p.length + 1) : Nat) : Int),m134 p s l [])).trans (by
  rw [show ((0 : Int) == l.length) = false from beq_eq_false_iff_ne.2 (by omega)]; rfl)) ⟨hL,trivial⟩
end
end Go.Proofs.YtifnpljmjhnbaaaGreatDoor
