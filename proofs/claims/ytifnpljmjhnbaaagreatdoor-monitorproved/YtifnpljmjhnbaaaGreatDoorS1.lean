/-
 A part of the proof of the statement that the claim names: see the last file.
-/
import Derived.Test.YtifnpljmjhnbaaaGreatDoorP1
import Derived.Test.YtifnpljmjhnbaaaGreatDoorAm4
namespace Go.Proofs.YtifnpljmjhnbaaaGreatDoor
open Go Go.Am
set_option maxRecDepth 100000
variable {w0:World}
def p0:Value:=.pointer (some ⟨K0,0,none⟩)
def isPtr (v:Value) (b:Nat):Bool:=
 match v with
 | .pointer (some ⟨c,0,none⟩)=>Nat.beq c b
 | _=>false
theorem isPtr_eq {v:Value} {b:Nat} (h:isPtr v b = true):v = .pointer (some ⟨b,0,none⟩):=by
 unfold isPtr at h
 split at h
 ·rw [Nat.beq_eq] at h;subst h;rfl
 ·cases h
theorem good_loops {w0:World} (h0:Lib0 w0) {cs:List Ctr} (hcs:Goods w0 cs) (c:Ctr) (fd:AFn) (hfd:fnTr.get c.g = some fd)
  (H:∀ ds d,c.F ds = some (true,d)→∃ F L m,(∀ p ∈ obs L fd.body,OraOK (cfgC w0 cs) F p.1.c p.1.o p.2.1 p.2.2)∧bodyL (cfgC w0 cs) F L m fd ds = some d):Good w0 c:=
 good_body h0 hcs c fd hfd fun ds d hd=>by
  obtain ⟨F,L,m,hL,hb⟩:=H ds d hd
  exact ⟨F + m,bodyL_ok (lpOK_of _ hL) hb⟩
def letterN (c:Nat):Bool:=(decide (97 ≤ c) && decide (c ≤ 122)) || (decide (65 ≤ c) && decide (c ≤ 90))
def otherN (c:Nat):Bool:=decide (c = 95) || (decide (48 ≤ c) && decide (c ≤ 57))
def okAt (s:ByteArray) (i:Nat):Bool:=letterN (s.get! i).toNat || (decide (i ≠ 0) && otherN (s.get! i).toNat)
def nameFrom (s:ByteArray):Nat→Nat→Bool
 | 0,_=>true
 | f + 1,i=>okAt s i && nameFrom s f (i + 1)
def isName (s:ByteArray):Bool:=decide (s.size ≠ 0) && decide (s.size ≤ 24) && nameFrom s s.size 0
def nameF (ds:List D):Option (Bool × D):=
 match ds with
 | [.val (.string s)]=>some (true,Bo (isName s))
 | _=>none
theorem nameF_inv {ds:List D} {d:D} (h:nameF ds = some (true,d)):∃ s,ds = [Str s]∧d = Bo (isName s):=by
 unfold nameF at h
 split at h
 ·rename_i s;cases h;exact ⟨s,rfl,rfl⟩
 ·cases h
def okB (A B E G Q U V Y:Bool):Bool:=(A && B) || (E && G) || (!Q && (U || (V && Y)))
def tree126 {α:Type} (b A B E G Q U V Y:Bool) (NM RT EX:α):α:=bif b then bif A then bif B then NM else bif E then bif (!G) then bif Q then RT else bif (!U) then bif V then RT else bif Y then RT else NM else NM else NM else bif Q then RT else bif (!U) then bif V then RT else bif Y then RT else NM else NM else bif E then bif (!G) then bif Q then RT else bif (!U) then bif V then RT else bif Y then RT else NM else NM else NM else bif Q then RT else bif (!U) then bif V then RT else bif Y then RT else NM else NM else EX
theorem tree126_eq {α:Type} (b A B E G Q U V Y:Bool) (NM RT EX:α):tree126 b A B E G Q U V Y NM RT EX = bif b then (bif okB A B E G Q U (!V) (!Y) then NM else RT) else EX:=by
 cases b
 ·rfl
 ·cases A <;> cases B <;> cases E <;> cases G <;> cases Q <;> cases U <;> cases V <;> cases Y <;> rfl
def tree159 {α:Type} (l g A B E G Q U V Y:Bool) (NM RT EX:α) (none:α):α:=bif l then bif g then bif E then bif g then bif G then bif g then bif V then bif g then bif Y then NM else bif g then NM else none else none else bif g then NM else none else none else bif g then bif A then bif g then bif g then bif V then bif g then bif Y then bif (!B) then bif Q then RT else NM else NM else bif g then bif (!B) then bif Q then RT else bif (!U) then RT else NM else NM else none else none else bif g then bif (!B) then bif Q then RT else bif (!U) then RT else NM else NM else none else none else none else bif g then bif V then bif g then bif Y then bif Q then RT else NM else bif g then bif Q then RT else bif (!U) then RT else NM else none else none else bif g then bif Q then RT else bif (!U) then RT else NM else none else none else none else none else bif g then bif A then bif g then bif g then bif V then bif g then bif Y then bif (!B) then bif Q then RT else NM else NM else bif g then bif (!B) then bif Q then RT else bif (!U) then RT else NM else NM else none else none else bif g then bif (!B) then bif Q then RT else bif (!U) then RT else NM else NM else none else none else none else bif g then bif V then bif g then bif Y then bif Q then RT else NM else bif g then bif Q then RT else bif (!U) then RT else NM else none else none else bif g then bif Q then RT else bif (!U) then RT else NM else none else none else none else none else EX
theorem tree159_eq {α:Type} (A B E G Q U V Y:Bool) (NM RT EX none:α):tree159 true true A B E G Q U V Y NM RT EX none = bif okB A B E G Q U V Y then NM else RT:=by
 cases A <;> cases B <;> cases E <;> cases G <;> cases Q <;> cases U <;> cases V <;> cases Y <;> rfl
theorem tree159_end {α:Type} (g A B E G Q U V Y:Bool) (NM RT EX none:α):tree159 false g A B E G Q U V Y NM RT EX none = EX:=rfl
theorem okB_at (c:Nat) (q:Int) (i:Nat) (hq:q = i):okB (decide ((c:Int) ≥ 97)) (decide ((c:Int) ≤ 122)) (decide ((c:Int) ≥ 65)) (decide ((c:Int) ≤ 90)) (q == 0) ((c:Int) == 95) (decide ((c:Int) ≥ 48)) (decide ((c:Int) ≤ 57)) =
  (letterN c || (decide (i ≠ 0) && otherN c)):=by
 subst hq
 unfold okB letterN otherN
 have e1:decide ((c:Int) ≥ 97) = decide (97 ≤ c):=by apply decide_eq_decide.2;omega
 have e2:decide ((c:Int) ≤ 122) = decide (c ≤ 122):=by apply decide_eq_decide.2;omega
 have e3:decide ((c:Int) ≥ 65) = decide (65 ≤ c):=by apply decide_eq_decide.2;omega
 have e4:decide ((c:Int) ≤ 90) = decide (c ≤ 90):=by apply decide_eq_decide.2;omega
 have e5:((i:Int) == 0) = !decide (i ≠ 0):=by by_cases h:i = 0 <;> simp [h]
 have e6:((c:Int) == 95) = decide (c = 95):=by by_cases h:c = 95 <;> simp [h] <;> omega
 have e7:decide ((c:Int) ≥ 48) = decide (48 ≤ c):=by apply decide_eq_decide.2;omega
 have e8:decide ((c:Int) ≤ 57) = decide (c ≤ 57):=by apply decide_eq_decide.2;omega
 rw [e1,e2,e3,e4,e5,e6,e7,e8,Bool.not_not]
theorem dec_small {s:ByteArray} {i:Nat} (h:(s.get! i).toNat < 128):Utf8.decode s i = ((s.get! i).toNat,1):=by
 unfold Utf8.decode
 simp only [Nat.add_zero]
 rw [if_pos h]
theorem fst_ite {p:Prop} [Decidable p] {x y:Nat × Nat} (hx:p→128 ≤ x.1) (hy:¬ p→128 ≤ y.1):128 ≤ (if p then x else y).1:=by
 split
 ·rename_i h;exact hx h
 ·rename_i h;exact hy h
theorem and_ge {c k:Nat} {b:Bool} (h:(decide (c ≥ k) && b) = true):k ≤ c:=by
 simp only [Bool.and_eq_true,decide_eq_true_eq] at h;exact h.1
theorem dec_big {s:ByteArray} {i:Nat} (h:¬ (s.get! i).toNat < 128):128 ≤ (Utf8.decode s i).1:=by
 unfold Utf8.decode
 refine fst_ite (fun h'=>absurd h' h) fun _=>fst_ite (fun _=>fst_ite (fun h2=>h2) fun _=>?_) fun _=>fst_ite (fun _=>fst_ite (fun h2=>Nat.le_trans (by decide) (and_ge h2)) fun _=>?_) fun _=>fst_ite (fun _=>fst_ite (fun h2=>Nat.le_trans (by decide) (and_ge h2)) fun _=>?_) fun _=>?_
 all_goals (show 128 ≤ 65533;decide)
theorem okAt_big {s:ByteArray} {i:Nat} (h:¬ (s.get! i).toNat < 128):okAt s i = false:=by
 unfold okAt letterN otherN
 generalize (s.get! i).toNat = c at h
 simp;omega
theorem ok_big {c:Nat} (h:128 ≤ c) (i:Nat):(letterN c || (decide (i ≠ 0) && otherN c)) = false:=by
 unfold letterN otherN
 simp;omega
def nm126 (s:ByteArray) (pos:Nat):X × Nat:=
 if pos < s.size then (if okAt s pos then (.normal,pos + 1) else (.ret,pos + (Utf8.decode s pos).2)) else (.exit 0,pos)
noncomputable def L126:Code:=lpB 0 (fnOf Tryz.f126).body
theorem nm126_step (cs:List Ctr) (s:ByteArray) (m:Nat) (pos:Nat) (j:Nat→Value) :
  evK (cfgC w0 cs) none (m + 14) false L126 ⟨mkT (fnOf Tryz.f126).ntmps [0,2,7] [.string s,.bool false,p0] j,[.iter s pos]⟩ (prj [0,2,7]) =
   some ((nm126 s pos).1,[.string s,.bool false,p0],(fnOf Tryz.f126).ntmps,[.iter s (nm126 s pos).2]):=by
 have t:evK (cfgC w0 cs) none (m + 14) false L126 ⟨mkT (fnOf Tryz.f126).ntmps [0,2,7] [.string s,.bool false,p0] j,[.iter s pos]⟩ (prj [0,2,7]) =
  tree126 (Nat.blt pos s.size) (decide ((((Utf8.decode s pos).1:Nat):Int) ≥ 97)) (decide ((((Utf8.decode s pos).1:Nat):Int) ≤ 122)) (decide ((((Utf8.decode s pos).1:Nat):Int) ≥ 65)) (decide ((((Utf8.decode s pos).1:Nat):Int) ≤ 90)) (((pos:Nat):Int) == 0) ((((Utf8.decode s pos).1:Nat):Int) == 95) (decide ((((Utf8.decode s pos).1:Nat):Int) < 48)) (decide ((((Utf8.decode s pos).1:Nat):Int) > 57))
   (some (.normal,[.string s,.bool false,p0],(fnOf Tryz.f126).ntmps,[.iter s (pos + (Utf8.decode s pos).2)])) (some (.ret,[.string s,.bool false,p0],(fnOf Tryz.f126).ntmps,[.iter s (pos + (Utf8.decode s pos).2)])) (some (.exit 0,[.string s,.bool false,p0],(fnOf Tryz.f126).ntmps,[.iter s pos])):=by kernel_rfl
 refine t.trans ?_
 rw [tree126_eq]
 have e1:(!decide ((((Utf8.decode s pos).1:Nat):Int) < 48)) = decide ((((Utf8.decode s pos).1:Nat):Int) ≥ 48):=by
  by_cases h:(((Utf8.decode s pos).1:Nat):Int) < 48 <;> simp [h] <;> omega
 have e2:(!decide ((((Utf8.decode s pos).1:Nat):Int) > 57)) = decide ((((Utf8.decode s pos).1:Nat):Int) ≤ 57):=by
  by_cases h:(((Utf8.decode s pos).1:Nat):Int) > 57 <;> simp [h] <;> omega
 rw [e1,e2,okB_at _ _ pos rfl]
 unfold nm126
 by_cases hp:pos < s.size
 ·have hb:Nat.blt pos s.size = true:=by rw [Nat.blt_eq];exact hp
  rw [hb,if_pos hp]
  by_cases hc:(s.get! pos).toNat < 128
  ·rw [dec_small hc]
   show (bif true then bif okAt s pos then _ else _ else _) = _
   cases okAt s pos <;> rfl
  ·rw [ok_big (dec_big hc),okAt_big hc];rfl
 ·have hb:Nat.blt pos s.size = false:=by
   cases h:Nat.blt pos s.size with
   | false=>rfl
   | true=>rw [Nat.blt_eq] at h;exact absurd h hp
  rw [hb,if_neg hp];rfl
theorem nm126_iter (s:ByteArray):∀ (f pos:Nat),s.size - pos = f→pos ≤ s.size→∃ p,iterN (nm126 s) (f + 1) pos = some (bif nameFrom s f pos then (.exit 0) else .ret,p)
 | 0,pos,h,hp=>by
   refine ⟨pos,?_⟩
   unfold iterN nm126
   rw [if_neg (by omega)];rfl
 | f + 1,pos,h,hp=>by
   unfold iterN
   unfold nameFrom
   cases ho:okAt s pos with
   | true=>
     have e:nm126 s pos = (.normal,pos + 1):=by unfold nm126;rw [if_pos (by omega),ho];rfl
     rw [e]
     simp only [Bool.true_and]
     exact nm126_iter s f (pos + 1) (by omega) (by omega)
   | false=>
     have e:nm126 s pos = (.ret,pos + (Utf8.decode s pos).2):=by unfold nm126;rw [if_pos (by omega),ho];rfl
     rw [e]
     exact ⟨_,rfl⟩
def endP (s:ByteArray):Nat:=match iterN (nm126 s) (s.size + 1) 0 with
 | some (_,p)=>p
 | none=>0
def isZero (n:Nat):Bool:=Nat.beq n 0
def nm126O (F:Nat):Ora:=fun j s k=>
 match Nat.beq s.tmps.length 51,relV [0,2,7] s.tmps,s.heap with
 | true,[.string a,.bool false,q],[.iter b pos]=>
   match isPtr q K0 && isZero pos with
   | true=>cond (a.data.toList == b.data.toList && decide (b.size + 1 ≤ F)) (cond (nameFrom b b.size 0) (k .normal ⟨mkT 51 [0,2,7] [.string b,.bool false,p0] j,[.iter b (endP b)]⟩) (k .ret ⟨mkT 51 [0,2,7] [.string b,.bool false,p0] j,[.iter b (endP b)]⟩)) none
   | false=>none
 | _,_,_=>none
theorem bytes_eq {a b:ByteArray} (h:(a.data.toList == b.data.toList) = true):a = b:=by
 obtain ⟨⟨x⟩⟩:=a
 obtain ⟨⟨y⟩⟩:=b
 simp at h
 subst h;rfl
theorem nm126_ok (cs:List Ctr) (F:Nat):OraOK (cfgC w0 cs) F 15 (nm126O F) 0 (.loop L126):=by
 have hN:(fnOf Tryz.f126).ntmps = 51:=by kernel_rfl
 intro m hm s k d hd
 have main:∀ b:ByteArray,s.tmps.length = 51→relV [0,2,7] s.tmps = [.string b,.bool false,p0]→s.heap = [.iter b 0]→b.size + 1 ≤ F →
   k (bif nameFrom b b.size 0 then .normal else .ret) ⟨mkT 51 [0,2,7] [.string b,.bool false,p0] (junk (cfgC w0 cs) (F + m) 0 (.loop L126) s),[.iter b (endP b)]⟩ = some d →
   ∃ x s',ev (cfgC w0 cs) (F + m) false (.block 0 (.loop L126)) s = some (x,s')∧k x s' = some d:=by
  intro b hl hv hh hF hk
  refine ora_loop (c:=14) (o:=fun j s' k=>match (Classical.propDecidable (s' = s)).decide with | true=>k (bif nameFrom b b.size 0 then .normal else .ret) ⟨mkT 51 [0,2,7] [.string b,.bool false,p0] j,[.iter b (endP b)]⟩ | false=>none) (vals:=fun _=>[.string b,.bool false,p0]) (hp:=fun pos=>[.iter b pos]) (next:=nm126 b) (inv:=fun _=>True) (fun _ _ _ _=>trivial) (fun m a j _=>nm126_step cs b m a j) ?_ rfl m hm s k d ?_
  ·intro j s' k' d' h'
   cases hc:(Classical.propDecidable (s' = s)).decide with
   | false=>rw [hc] at h';cases h'
   | true=>
     rw [hc] at h'
     have e:=@of_decide_eq_true _ (Classical.propDecidable _) hc
     subst e
     obtain ⟨p,hp⟩:=nm126_iter b b.size 0 (by omega) (by omega)
     have ep:endP b = p:=by unfold endP;rw [hp]
     refine ⟨0,b.size + 1,bif nameFrom b b.size 0 then (.exit 0) else .ret,p,by rw [hN];exact hl,hv,hh,trivial,hF,hp,?_⟩
     rw [hN]
     rw [ep] at h'
     have:outX 0 (bif nameFrom b b.size 0 then (.exit 0) else .ret) = (bif nameFrom b b.size 0 then .normal else .ret):=by cases nameFrom b b.size 0 <;> rfl
     rw [this];exact h'
  ·simp only
   exact hk
 unfold nm126O at hd
 split at hd
 ·rename_i a q b pos hl hv hh
  rw [Nat.beq_eq] at hl
  split at hd
  ·rename_i hq
   simp only [Bool.and_eq_true,isZero,Nat.beq_eq] at hq
   have e0:=isPtr_eq hq.1
   cases hc:(a.data.toList == b.data.toList && decide (b.size + 1 ≤ F)) with
   | false=>rw [hc] at hd;cases hd
   | true=>
     rw [hc] at hd
     simp only [Bool.and_eq_true,decide_eq_true_eq] at hc
     obtain ⟨g1,g2⟩:=hc
     have g1:=bytes_eq g1
     subst g1
     refine main a hl (by rw [hv,e0];rfl) (by rw [hh,hq.2]) g2 ?_
     cases hn:nameFrom a a.size 0 <;> rw [hn] at hd <;> exact hd
  ·cases hd
 ·cases hd
theorem empty_bytes (s:ByteArray):(s.toList == (ByteArray.mk #[]).toList) = decide (s.size = 0):=by
 rw [← beq_toListBytes]
 obtain ⟨⟨x⟩⟩:=s
 cases x with
 | nil=>rfl
 | cons a l=>rfl
theorem name_good (h0:Lib0 w0):Good w0 ⟨126,nameF⟩:=good_loops h0 (cs:=[]) trivial _ (fnOf Tryz.f126) rfl fun ds d h=>by
 obtain ⟨s,rfl,rfl⟩:=nameF_inv h
 refine ⟨s.size + 1,[⟨0,15,nm126O (s.size + 1)⟩],60,?_,?_⟩
 ·have e:obs [⟨0,15,nm126O (s.size + 1)⟩] (fnOf Tryz.f126).body = [(⟨0,15,nm126O (s.size + 1)⟩,0,.loop L126)]:=by kernel_rfl
  rw [e]
  intro p hp
  simp only [List.mem_singleton] at hp
  subst hp
  exact nm126_ok [] _
 ·refine (show bodyL (cfgC w0 []) (s.size + 1) [⟨0,15,nm126O (s.size + 1)⟩] 60 (fnOf Tryz.f126) [Str s] =
   bif (s.data.toList == s.data.toList && decide (s.size + 1 ≤ s.size + 1)) then bif nameFrom s s.size 0 then bif (!(s.toList == (ByteArray.mk #[]).toList)) then some (Bo (decide ((s.size:Int) ≤ 24))) else some (Bo false) else some (Bo false) else none by kernel_rfl).trans ?_
  rw [show (s.data.toList == s.data.toList && decide (s.size + 1 ≤ s.size + 1)) = true by simp,empty_bytes]
  unfold isName
  have e2:decide ((s.size:Int) ≤ 24) = decide (s.size ≤ 24):=by apply decide_eq_decide.2;omega
  rw [e2]
  by_cases hz:s.size = 0
  ·simp [hz]
  ·simp [hz]
   cases nameFrom s s.size 0 <;> simp
def nm159 (s:ByteArray) (i:Nat):X × Nat:=
 if i < s.size then (if okAt s i then (.normal,i + 1) else (.ret,i)) else (.exit 0,i)
noncomputable def L159:Code:=lpB 0 (fnOf Tryz.f159).body
def nm159I (s:ByteArray) (i:Nat):Prop:=s.size ≤ 24∧i ≤ s.size
theorem nm159_next (s:ByteArray) (a b:Nat) (ha:nm159I s a) (h:nm159 s a = (.normal,b)):nm159I s b:=by
 unfold nm159 at h
 split at h
 ·split at h
  ·simp only [Prod.mk.injEq,true_and] at h;subst h;exact ⟨ha.1,by omega⟩
  ·simp at h
 ·simp at h
theorem nm159_step (cs:List Ctr) (s:ByteArray) (m:Nat) (i:Nat) (j:Nat→Value) (hi:nm159I s i) :
  evK (cfgC w0 cs) none (m + 14) false L159 ⟨mkT (fnOf Tryz.f159).ntmps [0,2,3] [.string s,.bool false,iv (i:Nat)] j,[]⟩ (prj [0,2,3]) =
   some ((nm159 s i).1,[.string s,.bool false,iv ((nm159 s i).2:Nat)],(fnOf Tryz.f159).ntmps,[]):=by
 have t:evK (cfgC w0 cs) none (m + 14) false L159 ⟨mkT (fnOf Tryz.f159).ntmps [0,2,3] [.string s,.bool false,iv (i:Nat)] j,[]⟩ (prj [0,2,3]) =
  tree159 (decide (((i:Nat):Int) < s.size)) (decide (0 ≤ ((i:Nat):Int)) && decide (((i:Nat):Int) < s.size)) (decide ((((s.get! ((i:Nat):Int).toNat).toNat:Nat):Int) ≥ 97)) (decide ((((s.get! ((i:Nat):Int).toNat).toNat:Nat):Int) ≤ 122)) (decide ((((s.get! ((i:Nat):Int).toNat).toNat:Nat):Int) ≥ 65)) (decide ((((s.get! ((i:Nat):Int).toNat).toNat:Nat):Int) ≤ 90)) (((i:Nat):Int) == 0) ((((s.get! ((i:Nat):Int).toNat).toNat:Nat):Int) == 95) (decide ((((s.get! ((i:Nat):Int).toNat).toNat:Nat):Int) ≥ 48)) (decide ((((s.get! ((i:Nat):Int).toNat).toNat:Nat):Int) ≤ 57))
   (some (.normal,[.string s,.bool false,iv (W (((i:Nat):Int) + 1))],(fnOf Tryz.f159).ntmps,[])) (some (.ret,[.string s,.bool false,iv (i:Nat)],(fnOf Tryz.f159).ntmps,[])) (some (.exit 0,[.string s,.bool false,iv (i:Nat)],(fnOf Tryz.f159).ntmps,[])) none:=by kernel_rfl
 refine t.trans ?_
 unfold nm159
 obtain ⟨h1,h2⟩:=hi
 by_cases hp:i < s.size
 ·have e1:decide (((i:Nat):Int) < s.size) = true:=decide_eq_true (by omega)
  have e2:decide (0 ≤ ((i:Nat):Int)) = true:=decide_eq_true (by omega)
  have e3:W (((i:Nat):Int) + 1) = ((i + 1:Nat):Int):=by rw [show W ((i:Int) + 1) = (i:Int) + 1 from W_id (by omega) (by omega)];omega
  rw [e1,e2,Bool.and_self,tree159_eq,okB_at _ _ i rfl,Int.toNat_natCast,e3,if_pos hp]
  show (bif okAt s i then _ else _) = _
  cases okAt s i <;> rfl
 ·have e1:decide (((i:Nat):Int) < s.size) = false:=decide_eq_false (by omega)
  rw [e1,tree159_end,if_neg hp]
theorem nm159_iter (s:ByteArray):∀ (f i:Nat),s.size - i = f→i ≤ s.size→∃ p,iterN (nm159 s) (f + 1) i = some (bif nameFrom s f i then (.exit 0) else .ret,p)
 | 0,pos,h,hp=>by
   refine ⟨pos,?_⟩
   unfold iterN nm159
   rw [if_neg (by omega)];rfl
 | f + 1,pos,h,hp=>by
   unfold iterN
   unfold nameFrom
   cases ho:okAt s pos with
   | true=>
     have e:nm159 s pos = (.normal,pos + 1):=by unfold nm159;rw [if_pos (by omega),ho];rfl
     rw [e]
     simp only [Bool.true_and]
     exact nm159_iter s f (pos + 1) (by omega) (by omega)
   | false=>
     have e:nm159 s pos = (.ret,pos):=by unfold nm159;rw [if_pos (by omega),ho];rfl
     rw [e]
     exact ⟨_,rfl⟩
def endQ (s:ByteArray):Nat:=match iterN (nm159 s) (s.size + 1) 0 with
 | some (_,p)=>p
 | none=>0
def nm159O (F N:Nat):Ora:=fun j s k=>
 match Nat.beq s.tmps.length N,relV [0,2,3] s.tmps,s.heap with
 | true,[.string b,.bool false,.int .i64 i],[]=>
   cond (decide (i = 0) && decide (b.size ≤ 24) && decide (b.size + 1 ≤ F)) (cond (nameFrom b b.size 0) (k .normal ⟨mkT N [0,2,3] [.string b,.bool false,iv (endQ b:Nat)] j,[]⟩) (k .ret ⟨mkT N [0,2,3] [.string b,.bool false,iv (endQ b:Nat)] j,[]⟩)) none
 | _,_,_=>none
theorem nm159_ok (cs:List Ctr) (F:Nat):OraOK (cfgC w0 cs) F 15 (nm159O F 68) 0 (.loop L159):=by
 have hN:(fnOf Tryz.f159).ntmps = 68:=by kernel_rfl
 intro m hm s k d hd
 have main:∀ b:ByteArray,s.tmps.length = 68→relV [0,2,3] s.tmps = [.string b,.bool false,iv 0]→s.heap = []→b.size ≤ 24→b.size + 1 ≤ F →
   k (bif nameFrom b b.size 0 then .normal else .ret) ⟨mkT 68 [0,2,3] [.string b,.bool false,iv (endQ b:Nat)] (junk (cfgC w0 cs) (F + m) 0 (.loop L159) s),[]⟩ = some d →
   ∃ x s',ev (cfgC w0 cs) (F + m) false (.block 0 (.loop L159)) s = some (x,s')∧k x s' = some d:=by
  intro b hl hv hh h24 hF hk
  refine ora_loop (c:=14) (o:=fun j s' k=>match (Classical.propDecidable (s' = s)).decide with | true=>k (bif nameFrom b b.size 0 then .normal else .ret) ⟨mkT 68 [0,2,3] [.string b,.bool false,iv (endQ b:Nat)] j,[]⟩ | false=>none) (vals:=fun (i:Nat)=>[.string b,.bool false,iv (i:Nat)]) (hp:=fun _=>[]) (next:=nm159 b) (inv:=nm159I b) (fun x y=>nm159_next b x y) (fun m a j h=>nm159_step cs b m a j h) ?_ rfl m hm s k d ?_
  ·intro j s' k' d' h'
   cases hc:(Classical.propDecidable (s' = s)).decide with
   | false=>rw [hc] at h';cases h'
   | true=>
     rw [hc] at h'
     have e:=@of_decide_eq_true _ (Classical.propDecidable _) hc
     subst e
     obtain ⟨p,hp⟩:=nm159_iter b b.size 0 (by omega) (by omega)
     have ep:endQ b = p:=by unfold endQ;rw [hp]
     refine ⟨0,b.size + 1,bif nameFrom b b.size 0 then (.exit 0) else .ret,p,by rw [hN];exact hl,hv,hh,⟨h24,by omega⟩,hF,hp,?_⟩
     rw [hN]
     rw [ep] at h'
     have:outX 0 (bif nameFrom b b.size 0 then (.exit 0) else .ret) = (bif nameFrom b b.size 0 then .normal else .ret):=by cases nameFrom b b.size 0 <;> rfl
     rw [this];exact h'
  ·simp only
   exact hk
 unfold nm159O at hd
 split at hd
 ·rename_i b i hl hv hh
  rw [Nat.beq_eq] at hl
  cases hc:(decide (i = 0) && decide (b.size ≤ 24) && decide (b.size + 1 ≤ F)) with
  | false=>rw [hc] at hd;cases hd
  | true=>
    rw [hc] at hd
    simp only [Bool.and_eq_true,decide_eq_true_eq] at hc
    obtain ⟨⟨g1,g2⟩,g3⟩:=hc
    subst g1
    refine main b hl hv hh g2 g3 ?_
    cases hn:nameFrom b b.size 0 <;> rw [hn] at hd <;> exact hd
 ·cases hd
theorem rname_good (h0:Lib0 w0):Good w0 ⟨159,nameF⟩:=good_loops h0 (cs:=[]) trivial _ (fnOf Tryz.f159) rfl fun ds d h=>by
 obtain ⟨s,rfl,rfl⟩:=nameF_inv h
 refine ⟨s.size + 1,[⟨0,15,nm159O (s.size + 1) 68⟩],60,?_,?_⟩
 ·have e:obs [⟨0,15,nm159O (s.size + 1) 68⟩] (fnOf Tryz.f159).body = [(⟨0,15,nm159O (s.size + 1) 68⟩,0,.loop L159)]:=by kernel_rfl
  rw [e]
  intro p hp
  simp only [List.mem_singleton] at hp
  subst hp
  exact nm159_ok [] _
 ·refine (show bodyL (cfgC w0 []) (s.size + 1) [⟨0,15,nm159O (s.size + 1) 68⟩] 60 (fnOf Tryz.f159) [Str s] =
   bif ((s.size:Int) == 0) then some (Bo false) else bif decide ((s.size:Int) > 24) then some (Bo false) else
   bif (decide ((0:Int) = 0) && decide (s.size ≤ 24) && decide (s.size + 1 ≤ s.size + 1)) then bif nameFrom s s.size 0 then some (Bo true) else some (Bo false) else none by kernel_rfl).trans ?_
  unfold isName
  by_cases hz:s.size = 0
  ·simp [hz]
  ·have e1:((s.size:Int) == 0) = false:=by simp [hz]
   rw [e1]
   by_cases hb:s.size ≤ 24
   ·have e2:decide ((s.size:Int) > 24) = false:=decide_eq_false (by omega)
    rw [e2]
    simp [hz,hb]
    cases nameFrom s s.size 0 <;> rfl
   ·have e2:decide ((s.size:Int) > 24) = true:=decide_eq_true (by omega)
    rw [e2]
    simp [hb]
end Go.Proofs.YtifnpljmjhnbaaaGreatDoor
