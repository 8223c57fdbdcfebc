/-
 A part of the proof of the statement that the claim names: see the last file.
-/
import Derived.Test.YtifnpljmjhnbaaaGreatDoorAm4
import Derived.IntWalk
import Derived.Test.YtifnpljmjhnbaaaGreatDoorAm1
import Derived.LaidMore
import Derived.Carry
import Derived.ChangeArms
namespace Go.Am
noncomputable section
open Go Go.RowKit
inductive Sh where
 | c (k:Kd)
 | b (ks:List Kd)
 | r (ks:List Kd)
 | v (ks:List Kd)
 | x
def ShT:Sh→Type
 | .c k=>El k
 | .b ks=>Tup ks
 | .r ks=>Tup ks
 | .v ks=>List (Tup ks)
 | .x=>D
def ArgT:List Sh→Type
 | []=>Unit
 | s :: ss=>ShT s × ArgT ss
def valsOf:List D→Option (List Value)
 | []=>some []
 | .val v :: ds=>match valsOf ds with
   | some vs=>some (v :: vs)
   | none=>none
 | _=>none
theorem valsOf_eq:∀ {ds:List D} {vs:List Value},valsOf ds = some vs→ds = vs.map .val
 | [],vs,h=>by simp [valsOf] at h;subst h;rfl
 | d :: ds,vs,h=>by
   unfold valsOf at h
   split at h
   ·rename_i e;cases e
   ·rename_i v ds' e
    cases e
    cases hr:valsOf ds with
    | none=>simp [hr] at h
    | some ws=>simp [hr] at h;subst h;rw [valsOf_eq hr];rfl
   ·cases h
def toSh:(s:Sh)→ShT s→D
 | .c k,x=>.val (toV k x)
 | .b ks,x=>.agg ((toVs ks x).map .val)
 | .r ks,x=>.box ((toVs ks x).map .val)
 | .v ks,l=>.vec ks l
 | .x,d=>d
def asL (ks:List Kd):D→Option (List (Tup ks))
 | .vec k l=>recast k ks l
 | .val (.slice none 0 0)=>match okK ks && Nat.blt 0 ks.length with
   | true=>some []
   | false=>none
 | .emp sz=>match Nat.beq sz ks.length && (okK ks && Nat.blt 0 ks.length) with
   | true=>some []
   | false=>none
 | .sl n sz cs=>match Nat.beq sz ks.length && (Nat.blt 0 n && (flatK ks && Nat.blt 0 ks.length)),valsOf cs with
   | true,some vs=>match Nat.beq vs.length (n * ks.length) with
     | true=>ofRows ks n vs
     | false=>none
   | _,_=>none
 | _=>none
def ofSh:(s:Sh)→D→Option (ShT s)
 | .c k,d=>match d with
   | .val v=>ofV k v
   | _=>none
 | .b ks,d=>match d with
   | .agg ds=>match valsOf ds with
     | some vs=>ofVs ks vs
     | none=>none
   | _=>none
 | .r ks,d=>match d with
   | .box ds=>match valsOf ds with
     | some vs=>ofVs ks vs
     | none=>none
   | _=>none
 | .v ks,d=>asL ks d
 | .x,d=>some d
def toShs:(ss:List Sh)→ArgT ss→List D
 | [],_=>[]
 | s :: ss,x=>toSh s x.1 :: toShs ss x.2
def ofShs:(ss:List Sh)→List D→Option (ArgT ss)
 | [],[]=>some ()
 | s :: ss,d :: ds=>match ofSh s d,ofShs ss ds with
   | some x,some xs=>some (x,xs)
   | _,_=>none
 | _,_=>none
theorem ImpOK.nil_vec {G:Gl} {GB:Nat} {w:World} {u:Value} {ks:List Kd} (hf:okK ks = true) (hs:0 < ks.length) (h:ImpOK G GB w (.val (.slice none 0 0)) u):ImpOK G GB w (.vec ks []) u:=fun h0 r0 H0 hno=>by
 obtain ⟨r1,le,_,v,_⟩:=h h0 r0 H0 hno
 simp only [imp] at v
 have:=v.scal_eq rfl
 subst this
 obtain ⟨a1,a2,a3⟩:=H0.nothing hf hs [] rfl false
 refine ⟨_,Ren.le_put H0 _,by simpa [imp] using a1,?_,fun k hk=>hno k (a3 k (by simpa [imp] using hk))⟩
 simpa [imp] using VR.vsl (K0 + h0.length) 0 ks.length _ (.slice none 0 0) (Ren.put_self ..) (by omega) ⟨rfl,hs,.inl ⟨rfl,.inl rfl,.of_len rfl⟩⟩ (by simp)
theorem ImpOK.emp_vec {G:Gl} {GB:Nat} {w:World} {u:Value} {ks:List Kd} {sz:Nat} (hf:okK ks = true) (hs:0 < ks.length) (h:ImpOK G GB w (.emp sz) u):ImpOK G GB w (.vec ks []) u:=fun h0 r0 H0 hno=>by
 obtain ⟨r1,le,_,v,_⟩:=h h0 r0 H0 hno
 simp only [imp] at v
 have hu:∃ a cap,u = .slice (some a) 0 cap:=by
  rcases v.slice' with ⟨t,cap,hr,hk,_⟩ | ⟨_,_,_,hz,a,cap,rfl⟩
  ·exact absurd hk (by decide)
  ·exact ⟨a,cap,rfl⟩
 obtain ⟨a,cap,rfl⟩:=hu
 obtain ⟨a1,a2,a3⟩:=H0.nothing hf hs [] rfl false
 refine ⟨_,Ren.le_put H0 _,by simpa [imp] using a1,?_,fun k hk=>hno k (a3 k (by simpa [imp] using hk))⟩
 simpa [imp] using VR.vsl (K0 + h0.length) 0 ks.length _ (.slice (some a) 0 cap) (Ren.put_self ..) (by omega) ⟨rfl,hs,.inl ⟨rfl,.inr ⟨a,cap,rfl⟩,.of_len rfl⟩⟩ (by simp)
theorem imps_vals (own:Bool):∀ (vs:List Value) (h:Heap),imps own (vs.map .val) h = (vs,h)
 | [],h=>rfl
 | v :: vs,h=>by
   simp only [List.map_cons,imps,imp,imps_vals own vs h]
theorem ImpOK.sl_vec {G:Gl} {GB:Nat} {w:World} {u:Value} {ks:List Kd} {n:Nat} {vs:List Value} {l:List (Tup ks)} (hf:flatK ks = true) (hs:0 < ks.length) (hn:0 < n) (hv:vs.length = n * ks.length) (hl:ofRows ks n vs = some l)
  (h:ImpOK G GB w (.sl n ks.length (vs.map .val)) u):ImpOK G GB w (.vec ks l) u:=fun h0 r0 H0 hno=>by
 obtain ⟨r1,le,H1,v,_⟩:=h h0 r0 H0 hno
 simp only [imp,imps_vals] at H1 v
 obtain ⟨el,hg⟩:=ofRows_get hl
 obtain ⟨t,ht,hlt,hob⟩:=H1.obj (K0 + h0.length) (by rw [at_snoc,if_pos rfl];rfl)
 rw [at_snoc,if_pos rfl] at hob
 obtain ⟨⟨o1,o2⟩,o3,_⟩:=hob
 obtain ⟨cap,hcap,hlim,rfl⟩:∃ cap,n ≤ cap∧t.off + cap * ks.length ≤ t.lim∧u = .slice (some ⟨t.blk,t.off,none⟩) n cap:=by
  have hk:K0 ≤ K0 + h0.length:=by omega
  generalize K0 + h0.length = b at *
  cases v with
  | scal _ hs=>simp [Am.scal] at hs
  | slice _ _ _ _ cap t' h' hc hl'=>
    rw [ht] at h'
    cases h'
    exact ⟨cap,hc,by omega,by simp⟩
  | slice0=>exact absurd hk (by decide)
 have hcell:∀ (j:Nat) (c:Value),vs[j]? = some c→w.cell? ⟨t.blk,t.off + j,none⟩ = some c:=fun j c hc=>by
  obtain ⟨u',hu',hv'⟩:=o3 j c hc
  have hsc:scal c = true:=rows_scal hf hl hv c (List.mem_of_getElem? hc)
  rw [hv'.scal_eq hsc] at hu'
  exact hu'
 have hnz:n * ks.length = l.length * ks.length:=by rw [el]
 obtain ⟨a1,a2,a3⟩:=H0.addRO (.vec ks l false) ⟨t.blk,t.off,t.lim,n * ks.length,ks.length,no⟩ rfl hlt (hno _) ⟨okK_of_flat hf,⟨rfl,hs,hnz⟩,fun h=>by omega,fun _=>⟨by rw [el,← hv];exact o2,fun i x hx=>RowIn.of_vals hf fun j c hc=>by
  have e:=hg i x hx
  have hi:i < l.length:=(List.getElem?_eq_some_iff.1 hx).1
  have hj:j < ks.length:=by
   have:=(List.getElem?_eq_some_iff.1 hc).1
   rwa [toVs_len] at this
  rw [← e,List.getElem?_take,if_pos hj,List.getElem?_drop] at hc
  have:=hcell _ _ hc
  rw [show t.off + i * ks.length + j = t.off + (i * ks.length + j) by omega]
  exact this,fun h=>by cases h⟩⟩
 refine ⟨_,Ren.le_put H0 _,by simpa [imp] using a1,?_,fun k hk=>hno k (a3 k (by simpa [imp] using hk))⟩
 simp only [imp]
 rw [el]
 exact VR.vsl (K0 + h0.length) n ks.length _ _ (Ren.put_self ..) (by omega) ⟨rfl,hs,.inr ⟨hn,by simp,cap,⟨hcap,by simpa using Nat.mul_le_mul_right _ hcap⟩,by simpa using hlim,by simp⟩⟩ rfl
theorem vals_le {ks:List Kd} {ds:List D} {x:Tup ks} (h:(match valsOf ds with
  | some vs=>ofVs ks vs
  | none=>none) = some x):ds = (toVs ks x).map .val:=by
 cases hv:valsOf ds with
 | none=>rw [hv] at h;cases h
 | some vs=>
   rw [hv] at h
   rw [valsOf_eq hv,ofVs_toVs h]
theorem asL_le {G:Gl} {GB:Nat} {w:World} {ks:List Kd} {d:D} {l:List (Tup ks)} {u:Value} (h:asL ks d = some l) (hi:ImpOK G GB w d u):ImpOK G GB w (.vec ks l) u:=by
 unfold asL at h
 split at h
 ·obtain ⟨e,rfl⟩:=recast_eq h
  subst e;exact hi
 ·split at h
  ·rename_i hb
   simp only [Bool.and_eq_true,Nat.blt_eq] at hb
   cases h
   exact hi.nil_vec hb.1 hb.2
  ·cases h
 ·split at h
  ·rename_i hb
   simp only [Bool.and_eq_true,Nat.blt_eq] at hb
   cases h
   exact hi.emp_vec hb.2.1 hb.2.2
  ·cases h
 ·rename_i n sz cs
  split at h
  ·rename_i vs hb hvs
   simp only [Bool.and_eq_true,Nat.blt_eq,Nat.beq_eq] at hb
   obtain ⟨rfl,hn,hf,hs⟩:=hb
   split at h
   ·rename_i hl
    rw [Nat.beq_eq] at hl
    rw [valsOf_eq hvs] at hi
    exact hi.sl_vec hf hs hn hl h
   ·cases h
  ·cases h
 ·cases h
theorem c_le {k:Kd} {d:D} {x:El k} (h:ofSh (.c k) d = some x):d = .val (toV k x):=by
 cases d with
 | val v=>exact congrArg D.val (ofV_toV (show ofV k v = some x from h))
 | _=>cases (show (none:Option (El k)) = some x from h)
theorem b_le {ks:List Kd} {d:D} {x:Tup ks} (h:ofSh (.b ks) d = some x):d = .agg ((toVs ks x).map .val):=by
 cases d with
 | agg ds=>exact congrArg D.agg (vals_le h)
 | _=>cases (show (none:Option (Tup ks)) = some x from h)
theorem r_le {ks:List Kd} {d:D} {x:Tup ks} (h:ofSh (.r ks) d = some x):d = .box ((toVs ks x).map .val):=by
 cases d with
 | box ds=>exact congrArg D.box (vals_le h)
 | _=>cases (show (none:Option (Tup ks)) = some x from h)
theorem ofSh_le {G:Gl} {GB:Nat} {w:World} {s:Sh} {d:D} {x:ShT s} {u:Value} (h:ofSh s d = some x) (hi:ImpOK G GB w d u):ImpOK G GB w (toSh s x) u:=by
 cases s with
 | c k=>rw [c_le h] at hi;exact hi
 | b ks=>rw [b_le h] at hi;exact hi
 | r ks=>rw [r_le h] at hi;exact hi
 | v ks=>exact asL_le h hi
 | x=>cases h;exact hi
theorem ofShs_le {G:Gl} {GB:Nat} {w:World}:∀ {ss:List Sh} {ds:List D} {a:ArgT ss} {us:List Value},ofShs ss ds = some a→ImpsOK G GB w ds us→ImpsOK G GB w (toShs ss a) us
 | [],[],_,us,_,hi=>hi
 | [],_ :: _,_,_,h,_=>by simp [ofShs] at h
 | _ :: _,[],_,_,h,_=>by simp [ofShs] at h
 | s :: ss,d :: ds,a,us,h,hi=>by
   unfold ofShs at h
   split at h
   ·rename_i x xs h1 h2
    cases h
    cases us with
    | nil=>simp [ImpsOK] at hi
    | cons u us=>
      have ht:=ofShs_le h2 (us:=us) ⟨by simpa using hi.1,fun j d' u' hj hu=>hi.2 (j + 1) d' u' (by simpa using hj) (by simpa using hu)⟩
      refine ⟨by simpa [toShs] using ht.1,fun j d' u' hj hu=>?_⟩
      cases j with
      | zero=>
        simp only [toShs,List.getElem?_cons_zero,Option.some.injEq] at hj hu
        subst hj hu
        exact ofSh_le h1 (hi.2 0 d _ rfl rfl)
      | succ j=>exact ht.2 j d' u' (by simpa [toShs] using hj) (by simpa using hu)
   ·cases h
def sigF (ss:List Sh) (F:ArgT ss→FT D) (ds:List D):FT D:=
 match ofShs ss ds with
 | some a=>F a
 | none=>.bad
def ct (g:Nat) (ss:List Sh) (F:ArgT ss→FT D):Ct:=⟨g,sigF ss F⟩
theorem gd_sig {C:Cfg} {g:Nat} {ss:List Sh} {F:ArgT ss→FT D} (h:∀ a d,(F a).run = some d→FnD C g (toShs ss a) d):Gd C (ct g ss F):=fun ds d hd=>by
 simp only [ct,sigF] at hd
 split at hd
 ·rename_i a ha
  intro w args hb hi
  exact h a d hd w args hb (ofShs_le ha hi)
 ·cases hd
theorem gd_body {C:Cfg} (ok:CfgOk C) (sp:SpecOK C) {cs:List Ct} (hcs:Gds C cs) {g:Nat} {ss:List Sh} {F:ArgT ss→FT D} {fd:AFn} (hfd:C.fn g = some fd) {n:Nat}
  (h:∀ a d,(F a).run = some d→bodyK (C.at cs) n fd (toShs ss a) = some d):Gd C (ct g ss F):=
 gd_sig fun a d hd=>fnD_k ok sp hcs hfd (h a d hd)
noncomputable def ldP (id N:Nat) (rel:List (Nat × Cv)) (x:X) (post:List D):Ld:=⟨id,N,rel,fun _=>.leaf (x,post)⟩
def RdOK (C:Cfg) (N:Nat) (rel:List (Nat × Cv)) (B:Code) (pre:List D) (x:X) (post:List D):Prop:=
 ∃ (n m:Nat) (L:List Ld) (o:Obs),rndD C n L m N rel B pre = some (o,x,post)∧Owed C o
theorem RdOK.leaf {C:Cfg} {n:Nat} {L:List Ld} {m N:Nat} {rel:List (Nat × Cv)} {B:Code} {pre post:List D} {x:X} (h:rndD C n L m N rel B pre = some ([],x,post)):RdOK C N rel B pre x post:=⟨n,m,L,[],h,trivial⟩
theorem RdOK.one {C:Cfg} {n:Nat} {L:List Ld} {m N:Nat} {rel:List (Nat × Cv)} {B b:Code} {l:Ld} {pre post mid:List D} {x:X} (h:rndD C n L m N rel B pre = some ([(l,b,mid)],x,post)) (hl:LdT C l b mid):RdOK C N rel B pre x post:=⟨n,m,L,_,h,hl,trivial⟩
variable {C:Cfg} {N:Nat} {rel:List (Nat × Cv)} {B:Code} {id:Nat} {α:Type}
theorem ldT_iter (ok:CfgOk C) (sp:SpecOK C) {σ:Type} (st:σ→List D) (next:σ→X × σ) (inv:σ→Prop)
  (hr:∀ a,inv a→RdOK C N rel B (st a) (next a).1 (st (next a).2)) (hinv:∀ a b,inv a→next a = (.normal,b)→inv b) {a0 b:σ} {x:X} {f:Nat} (hi:inv a0) (hit:iterN next f a0 = some (x,b)) (hid:Nat.ble 100000 id = false:=by rfl) :
  LdT C (ldP id N rel (outX id x) (st b)) (.loop B) (st a0):=
 ldT_loop ok sp (l:=ldP id N rel (outX id x) (st b)) st next inv hr hinv a0 hi (fun x' ds' h=>by
  simp only [ldP,FT.run,Option.some.injEq,Prod.mk.injEq] at h
  obtain ⟨rfl,rfl⟩:=h
  exact ⟨f,b,x,hit,rfl,rfl⟩) (hid:=hid)
end
end Go.Am
namespace Go.Am
noncomputable section
open Go Go.RowKit
theorem wrap_nat {n:Nat} (h:n < 4611686018427387904):IntKind.i64.wrap ((n:Int) + 1) = ((n + 1:Nat):Int):=by
 rw [IntWalk.i64_in _ ⟨by omega,by omega⟩];rfl
section
variable {α:Type} (id:Nat)
def rgNext (n:Nat) (step:Nat→α→X × α) (p:Int × α):X × (Int × α):=
 bif decide (p.1 < n) then
  match step p.1.toNat p.2 with
  | (.normal,a)=>(.normal,(IntKind.i64.wrap (p.1 + 1),a))
  | (x,a)=>(x,(p.1,a))
 else (.exit id,p)
def rgRun (step:Nat→α→X × α):Nat→Nat→α→X × (Int × α)
 | 0,i,a=>(.exit id,((i:Int),a))
 | f + 1,i,a=>match step i a with
   | (.normal,a')=>rgRun step f (i + 1) a'
   | (x,a')=>(x,((i:Int),a'))
theorem rg_iter {n:Nat} (hn:n < 4611686018427387904) (step:Nat→α→X × α):∀ (f i:Nat) (a:α),i + f = n→iterN (rgNext id n step) (f + 1) ((i:Int),a) = some (rgRun id step f i a)
 | 0,i,a,h=>by
   have:¬ ((i:Int) < n):=by omega
   simp [iterN,rgNext,rgRun,this]
 | f + 1,i,a,h=>by
   have hi:(i:Int) < n:=by omega
   have hd:decide ((i:Int) < n) = true:=by simp [hi]
   unfold iterN rgRun
   simp only [rgNext,hd,cond_true,Int.toNat_natCast]
   cases hs:step i a with
   | mk x a'=>
     cases x with
     | normal=>
       simp only
       rw [wrap_nat (by omega)]
       exact rg_iter hn step f (i + 1) a' (by omega)
     | exit id'=>rfl
     | ret=>rfl
theorem rgRun_fold {step:Nat→α→X × α} {h:Nat→α→α}:∀ (f i:Nat) (a:α),(∀ j b,i ≤ j→j < i + f→step j b = (.normal,h j b))→rgRun id step f i a = (.exit id,((i + f:Nat):Int),(List.range' i f).foldl (fun b j=>h j b) a)
 | 0,i,a,_=>rfl
 | f + 1,i,a,hs=>by
   unfold rgRun
   rw [hs i a (Nat.le_refl _) (by omega)]
   simp only
   rw [rgRun_fold f (i + 1) (h i a) (fun j b h1 h2=>hs j b (by omega) (by omega))]
   simp only [List.range'_succ,List.foldl_cons]
   rw [show i + 1 + f = i + (f + 1) by omega]
def lsRun {τ:Type} (g:τ→α→X × α):List τ→Nat→α→X × (Int × α)
 | [],i,a=>(.exit id,((i:Int),a))
 | x :: xs,i,a=>match g x a with
   | (.normal,a')=>lsRun g xs (i + 1) a'
   | (x,a')=>(x,((i:Int),a'))
theorem rgRun_ls {ks:List Kd} {g:Tup ks→α→X × α} {step:Nat→α→X × α}:∀ (l0 l:List (Tup ks)) (a:α),(∀ j b,j < (l0++l).length→step j b = g (nth (l0++l) j) b)→rgRun id step l.length l0.length a = lsRun id g l l0.length a
 | l0,[],a,_=>rfl
 | l0,x :: xs,a,hs=>by
   show (match step l0.length a with
    | (.normal,a')=>rgRun id step xs.length (l0.length + 1) a'
    | (y,a')=>(y,((l0.length:Nat):Int),a')) = (match g x a with
    | (.normal,a')=>lsRun id g xs (l0.length + 1) a'
    | (y,a')=>(y,((l0.length:Nat):Int),a'))
   have hx:nth (l0++x :: xs) l0.length = x:=by
    simp [nth,List.getD_eq_getElem?_getD]
   have h1:=hs l0.length a (by simp)
   rw [hx] at h1
   rw [h1]
   cases hg:g x a with
   | mk y a'=>
     cases y with
     | normal=>
       simp only
       have:=rgRun_ls (l0++[x]) xs a' (fun j b hj=>by
        have:=hs j b (by simpa using hj)
        simpa using this)
       simpa using this
     | exit id'=>rfl
     | ret=>rfl
theorem lsRun_fold {τ:Type} {g:τ→α→X × α} {h:τ→α→α}:∀ (l:List τ) (i:Nat) (a:α),(∀ x ∈ l,∀ b,g x b = (.normal,h x b))→lsRun id g l i a = (.exit id,((i + l.length:Nat):Int),l.foldl (fun b x=>h x b) a)
 | [],i,a,_=>rfl
 | x :: xs,i,a,hs=>by
   unfold lsRun
   rw [hs x (by simp) a]
   simp only
   rw [lsRun_fold xs (i + 1) (h x a) (fun y hy b=>hs y (by simp [hy]) b)]
   simp only [List.foldl_cons,List.length_cons]
   rw [show i + 1 + xs.length = i + (xs.length + 1) by omega]
end
theorem foldl_snoc {τ ρ:Type} (f:τ→ρ):∀ (l:List τ) (out:List ρ),l.foldl (fun b x=>b++[f x]) out = out++l.map f
 | [],out=>by simp
 | x :: xs,out=>by
   rw [List.foldl_cons,foldl_snoc f xs]
   simp
def nx {α:Type} (j:Nat) (p:X × α):Int × α:=
 match p.1 with
 | .normal=>(IntKind.i64.wrap ((j:Int) + 1),p.2)
 | _=>((j:Int),p.2)
variable {C:Cfg} {N:Nat} {rel:List (Nat × Cv)} {B:Code} {id:Nat} {α:Type}
theorem ldT_rg (ok:CfgOk C) (sp:SpecOK C) {k:Nat} (hk:k < 4611686018427387904) (st:Int × α→List D) (step:Nat→α→X × α) (inv:Nat→α→Prop)
  (hr:∀ (j:Nat) a,j < k→inv j a→RdOK C N rel B (st ((j:Int),a)) (step j a).1 (st (nx j (step j a))))
  (hn:∀ (j:Nat) a a',j < k→inv j a→step j a = (.normal,a')→inv (j + 1) a')
  (he:∀ a,inv k a→RdOK C N rel B (st ((k:Int),a)) (.exit id) (st ((k:Int),a)))
  {a0:α} (h0:inv 0 a0) {x:X} {p:Int × α} (hx:rgRun id step k 0 a0 = (x,p)) (hid:Nat.ble 100000 id = false:=by rfl):LdT C (ldP id N rel (outX id x) (st p)) (.loop B) (st (0,a0)):=by
 refine ldT_iter ok sp st (rgNext id k step) (fun p=>∃ j:Nat,p.1 = (j:Int)∧j ≤ k∧inv j p.2) (fun p ⟨j,hj,hle,hi⟩=>?_) (fun p q ⟨j,hj,hle,hi⟩ hq=>?_) (a0:=(0,a0)) (b:=p) (f:=k + 1) ⟨0,rfl,by omega,h0⟩ ?_ hid
 ·obtain ⟨i,a⟩:=p
  simp only at hj hi
  subst hj
  unfold rgNext
  by_cases hlt:j < k
  ·have hd:decide ((j:Int) < k) = true:=by simp [hlt]
   have:=hr j a hlt hi
   simp only [hd,cond_true,Int.toNat_natCast]
   cases hs:step j a with
   | mk y b=>rw [hs] at this;cases y <;> exact this
  ·have hd:decide ((j:Int) < k) = false:=by simp;omega
   have hjk:j = k:=by omega
   subst hjk
   simp only [hd,cond_false]
   exact he a hi
 ·obtain ⟨i,a⟩:=p
  simp only at hj hi
  subst hj
  unfold rgNext at hq
  by_cases hlt:j < k
  ·have hd:decide ((j:Int) < k) = true:=by simp [hlt]
   simp only [hd,cond_true,Int.toNat_natCast] at hq
   cases hs:step j a with
   | mk y b=>
     rw [hs] at hq
     cases y with
     | normal=>
       simp only [Prod.mk.injEq,true_and] at hq
       subst hq
       exact ⟨j + 1,wrap_nat (by omega),by omega,hn j a b hlt hi hs⟩
     | exit id'=>simp at hq
     | ret=>simp at hq
  ·have hd:decide ((j:Int) < k) = false:=by simp;omega
   simp only [hd,cond_false] at hq
   cases hq
 ·rw [← hx];exact rg_iter id hk step k 0 a0 (by omega)
theorem ldT_ls (ok:CfgOk C) (sp:SpecOK C) {ks:List Kd} (l:List (Tup ks)) (hk:l.length < 4611686018427387904) (st:Int × α→List D) (g:Tup ks→α→X × α) (inv:Nat→α→Prop)
  (hr:∀ (j:Nat) a,j < l.length→inv j a→RdOK C N rel B (st ((j:Int),a)) (g (nth l j) a).1 (st (nx j (g (nth l j) a))))
  (hn:∀ (j:Nat) a a',j < l.length→inv j a→g (nth l j) a = (.normal,a')→inv (j + 1) a')
  (he:∀ a,inv l.length a→RdOK C N rel B (st ((l.length:Int),a)) (.exit id) (st ((l.length:Int),a)))
  {a0:α} (h0:inv 0 a0) {x:X} {p:Int × α} (hx:lsRun id g l 0 a0 = (x,p)) (hid:Nat.ble 100000 id = false:=by rfl):LdT C (ldP id N rel (outX id x) (st p)) (.loop B) (st (0,a0)):=
 ldT_rg ok sp hk st (fun j a=>g (nth l j) a) inv hr hn he h0 ((rgRun_ls id (ks:=ks) (g:=g) [] l a0 (fun _ _ _=>rfl)).trans hx) hid
theorem fnD_lp {C:Cfg} (ok:CfgOk C) (sp:SpecOK C) {cs:List Ct} (hcs:Gds C cs) {g:FuncId} {fd:AFn} (hfd:C.fn g = some fd) {l:Ld} {n m:Nat} {b:Code} {pre ds:List D} {d:D}
  (h:bodyT (C.at cs) n [l] m fd ds = some ([(l,b,pre)],d)) (hl:LdT (C.at cs) l b pre):FnD C g ds d:=fnD_t ok sp hcs hfd h ⟨hl,trivial⟩
end
end Go.Am
namespace Go.Am
noncomputable section
open Go
def keyL:Kd→Bool
 | .pt=>true
 | k=>keyK k
section
variable {kk vk:Kd}
theorem getT_set (hk:keyL kk = true) (k k':El kk) (v:El vk):∀ (es:List (El kk × El vk)),hasT k' es = true→getT k (setT k' v es) = cond (keyEq kk k k') v (getT k es)
 | [],h=>by simp [hasT] at h
 | e :: es,h=>by
   unfold setT
   cases he:keyEq kk k' e.1 with
   | true=>
     have hee:=keyEq_eq he
     simp only [getT]
     rw [hee]
     cases keyEq kk k e.1 <;> rfl
   | false=>
     have hr:hasT k' es = true:=by simpa [hasT,he] using h
     simp only [getT]
     rw [getT_set hk k k' v es hr]
     cases hke:keyEq kk k e.1 with
     | false=>rfl
     | true=>
       have:keyEq kk k k' = false:=by
        cases hkk:keyEq kk k k' with
        | false=>rfl
        | true=>
          have h1:=keyEq_eq hkk
          subst h1
          rw [he] at hke;cases hke
       rw [this];rfl
theorem getT_app (hk:keyL kk = true) (k k':El kk) (v:El vk):∀ (es:List (El kk × El vk)),hasT k' es = false→getT k (es++[(k',v)]) = cond (keyEq kk k k') v (getT k es)
 | [],_=>by
   simp only [List.nil_append,getT]
   cases keyEq kk k k' <;> rfl
 | e :: es,h=>by
   have h2:keyEq kk k' e.1 = false∧hasT k' es = false:=by simpa [hasT] using h
   simp only [List.cons_append,getT]
   rw [getT_app hk k k' v es h2.2]
   cases hke:keyEq kk k e.1 with
   | false=>rfl
   | true=>
     have:keyEq kk k k' = false:=by
      cases hkk:keyEq kk k k' with
      | false=>rfl
      | true=>
        have h1:=keyEq_eq hkk
        subst h1
        rw [h2.1] at hke;cases hke
     rw [this];rfl
theorem getT_put (hk:keyL kk = true) (k k':El kk) (v:El vk) (es:List (El kk × El vk)):getT k (putM k' v es) = cond (keyEq kk k k') v (getT k es):=by
 unfold putM
 cases h:hasT k' es with
 | true=>exact getT_set hk k k' v es h
 | false=>exact getT_app hk k k' v es h
end
theorem GiveOK.nil_vec {G:Gl} {GB:Nat} {w w':World} {ks:List Kd} (hf:okK ks = true) (hs:0 < ks.length) {vs:List Value} {u:Value} (h:GiveOK G GB w w' (.tup (.val (.slice none 0 0) :: vs.map .val)) u):GiveOK G GB w w' (.tup (.vec ks [] :: vs.map .val)) u:=fun r0 h0 H0=>by
 obtain ⟨r1,S,H,v⟩:=h r0 h0 H0
 have himp:∀ (vs:List Value) (h:Heap),imps true (vs.map .val) h = (vs,h):=fun vs=>by
  induction vs with
  | nil=>intro h;rfl
  | cons v vs ih=>intro h;simp [imps,imp,ih]
 simp only [imp,imps,himp] at S H v ⊢
 obtain ⟨a1,a2,_⟩:=H.nothing hf hs [] rfl true
 refine ⟨_,S.trans a2,a1,?_⟩
 obtain ⟨us,rfl,hus⟩:∃ us:List Value,u = .tuple us.toArray∧VRs r1 (.slice none 0 0 :: vs) us:=by
  cases v
  ·rename_i hh;simp [Am.scal] at hh
  ·rename_i xs' hx hh;exact ⟨xs'.toList,by simp,VRs.of_arr hx hh⟩
 refine VRs.tup ?_
 cases us with
 | nil=>simp [VRs] at hus
 | cons u0 us=>
   obtain ⟨u1,e1,v1⟩:=hus.2 0 _ rfl
   simp only [List.getElem?_cons_zero,Option.some.injEq] at e1
   subst e1
   have:=v1.scal_eq rfl
   subst this
   have le:Ren.le r1 (r1.put (K0 + h0.length) ⟨0,0,0,0,ks.length,no⟩):=Ren.le_put H _
   refine VRs.cons ?_ ⟨by have:=hus.1;simpa using this,fun j x hj=>?_⟩
   ·exact VR.asl (K0 + h0.length) 0 ks.length _ (.slice none 0 0) (Ren.put_self ..) (by omega) ⟨rfl,hs,by simp,.inl ⟨rfl,.inl rfl⟩⟩
   ·obtain ⟨y,hy,hv⟩:=hus.2 (j + 1) x (by simpa using hj)
    exact ⟨y,by simpa using hy,hv.mono le⟩
theorem FnD.nil_vec {C:Cfg} {g:FuncId} {ds:List D} {ks:List Kd} (hf:okK ks = true) (hs:0 < ks.length) {vs:List Value} (h:FnD C g ds (.tup (.val (.slice none 0 0) :: vs.map .val))):FnD C g ds (.tup (.vec ks [] :: vs.map .val)):=fun w args hb hi=>
 (h w args hb hi).mono fun _ _ ⟨u,a,b⟩=>⟨u,a,b.nil_vec hf hs⟩
theorem GiveOK.nil_one {G:Gl} {GB:Nat} {w w':World} {ks:List Kd} (hf:okK ks = true) (hs:0 < ks.length) {u:Value} (h:GiveOK G GB w w' (.val (.slice none 0 0)) u):GiveOK G GB w w' (.vec ks []) u:=fun r0 h0 H0=>by
 obtain ⟨r1,S,H,v⟩:=h r0 h0 H0
 simp only [imp] at S H v ⊢
 obtain ⟨a1,a2,_⟩:=H.nothing hf hs [] rfl true
 have:=v.scal_eq rfl
 subst this
 exact ⟨_,S.trans a2,a1,VR.asl (K0 + h0.length) 0 ks.length _ (.slice none 0 0) (Ren.put_self ..) (by omega) ⟨rfl,hs,by simp,.inl ⟨rfl,.inl rfl⟩⟩⟩
theorem FnD.nil_one {C:Cfg} {g:FuncId} {ds:List D} {ks:List Kd} (hf:okK ks = true) (hs:0 < ks.length) (h:FnD C g ds (.val (.slice none 0 0))):FnD C g ds (.vec ks []):=fun w args hb hi=>
 (h w args hb hi).mono fun _ _ ⟨u,a,b⟩=>⟨u,a,b.nil_one hf hs⟩
end
end Go.Am
namespace Go.Am
noncomputable section
open Go Go.RowKit
variable {G:Gl} {GB:Nat}
theorem ObjR.swap {r0 r1 r2:Ren} {w w':World} {t t0:Tgt} {n:Nat} {o:AObj} (hd:∀ i t,r0 i = some t→i < n) (h2:∀ i t,i < n→r1 i = some t→r2 i = some t) (h0:ObjR r0 w t0 o) (h1:ObjR r1 w' t o):ObjR r2 w' t o:=by
 have cv:∀ {c u u0:Value},VR r0 c u0→VR r1 c u→VR r2 c u:=fun a b=>(VR.cut hd b a).mono fun i t hi=>by
  split at hi
  ·rename_i hlt;exact h2 i t hlt hi
  ·cases hi
 cases o with
 | dead=>trivial
 | row cells own m=>
   refine ⟨h1.1,fun j c hc=>?_,h1.2.2⟩
   obtain ⟨u0,_,v0⟩:=h0.2.1 j c hc
   obtain ⟨u1,e1,v1⟩:=h1.2.1 j c hc
   exact ⟨u1,e1,cv v0 v1⟩
 | vec ks l own=>exact h1
 | map es own=>
   obtain ⟨ents,clk,a,b,c⟩:=h1
   obtain ⟨ents0,_,_,_,c0⟩:=h0
   refine ⟨ents,clk,a,b,fun j k v hj=>?_⟩
   obtain ⟨hs,e,he,hk,hv⟩:=c j k v hj
   obtain ⟨_,e0,_,_,hv0⟩:=c0 j k v hj
   exact ⟨hs,e,he,hk,cv hv0 hv⟩
 | iter s pos=>exact h1
 | loop l=>
   obtain ⟨L,a,b,hh⟩:=h1
   obtain ⟨L0,_,b0,_⟩:=h0
   refine ⟨L,a,⟨b.state,b.pending,b.params,b.assign,b.body,b.size,fun j v hj=>?_,b.tm⟩,hh⟩
   obtain ⟨u,hu,hv⟩:=b.tmps j v hj
   obtain ⟨u0,_,hv0⟩:=b0.tmps j v hj
   exact ⟨u,hu,cv hv0 hv⟩
theorem HR.swap {r0 r1:Ren} {h0:Heap} {w w':World} (H0:HR G GB r0 h0 w) {o o':AObj} (S:Step r0 h0 w r1 (h0++[o]) w') (H1:HR G GB r1 (h0++[o]) w') {t t':Tgt} (ht:r1 (K0 + h0.length) = some t) (ho:o.owned = true) (htb:t'.blk = t.blk) (hm:o.mate = none) (hm':o'.mate = none)
  (hobj:ObjR (r0.put (K0 + h0.length) t') w' t' o') (hin:∀ k,t'.inn k→t.inn k:=by exact fun _ h=>h.elim):HR G GB (r0.put (K0 + h0.length) t') (h0++[o']) w'∧Step r0 h0 w (r0.put (K0 + h0.length) t') (h0++[o']) w':=by
 have old:∀ (x:AObj) b,b ≠ K0 + h0.length→Heap.at (h0++[x]) b = h0.at b:=fun x b hb=>by rw [at_snoc,if_neg hb]
 have new:∀ (x:AObj),Heap.at (h0++[x]) (K0 + h0.length) = x:=fun x=>by rw [at_snoc,if_pos rfl]
 have r1r0:∀ b u,b ≠ K0 + h0.length→r1 b = some u→r0 b = some u:=fun b u hb hu=>by
  rcases S.fresh b u hu with h | h
  ·exact h
  ·have:=(H1.dom b u hu).2
   simp at this
   omega
 have oal:∀ b,b ≠ K0 + h0.length→(Heap.at (h0++[o']) b).alive = true→(Heap.at (h0++[o]) b).alive = true:=fun b hb h=>by rw [old _ _ hb] at h ⊢;exact h
 have tgt:∀ b u,(r0.put (K0 + h0.length) t') b = some u→∃ v,r1 b = some v∧v.blk = u.blk∧∀ k,u.inn k→v.inn k:=fun b u hu=>by
  by_cases hb:b = K0 + h0.length
  ·subst hb
   rw [Ren.put_self] at hu
   cases hu
   exact ⟨t,ht,htb.symm,hin⟩
  ·rw [Ren.put_other _ _ hb] at hu
   exact ⟨u,S.le b u hu,rfl,fun _ h=>h⟩
 have own1:∀ b,(Heap.at (h0++[o']) b).owned = true→(Heap.at (h0++[o]) b).owned = true:=fun b h=>by
  by_cases hb:b = K0 + h0.length
  ·subst hb;rw [new];exact ho
  ·rw [old _ _ hb] at h ⊢;exact h
 have alv1:∀ b,(Heap.at (h0++[o']) b).alive = true→(Heap.at (h0++[o]) b).alive = true:=fun b h=>by
  by_cases hb:b = K0 + h0.length
  ·subst hb;rw [new];exact AObj.alive_of_owned ho
  ·rw [old _ _ hb] at h ⊢;exact h
 have mate1:∀ b,(Heap.at (h0++[o]) b).mate = (Heap.at (h0++[o']) b).mate:=fun b=>by
  by_cases hb:b = K0 + h0.length
  ·subst hb;rw [new,new,hm,hm']
  ·rw [old _ _ hb,old _ _ hb]
 refine ⟨⟨fun b u hu=>?_,fun b hb=>?_,fun b b' u u' hb hb' hu hu' he=>?_,H1.glob,H1.gb,fun b u hb hu=>?_,fun b u hb hu k hk=>?_⟩,⟨Ren.le_put H0 _,S.os,S.tape,S.output,S.size,S.keep,fun k hk ⟨b,u,hb,hu,he⟩=>?_,by simp,Ren.fresh_put r0 h0 t',fun k hk ⟨b,u,hb,hu,he⟩=>?_⟩⟩
 ·by_cases hb:b = K0 + h0.length
  ·subst hb;simp
  ·rw [Ren.put_other _ _ hb] at hu
   have:=H0.dom b u hu
   simp;omega
 ·by_cases hbb:b = K0 + h0.length
  ·subst hbb
   obtain ⟨t2,e2,lt2,_⟩:=H1.obj _ (alv1 _ hb)
   rw [ht] at e2
   cases e2
   refine ⟨t',Ren.put_self ..,by rw [htb];exact lt2,?_⟩
   rw [new];exact hobj
  ·obtain ⟨t2,e2,lt2,ob2⟩:=H1.obj b (alv1 _ hb)
   rw [old _ _ hbb] at hb ob2 ⊢
   obtain ⟨t0,e0,_,ob0⟩:=H0.obj b hb
   refine ⟨t2,by rw [Ren.put_other _ _ hbb];exact r1r0 b t2 hbb e2,lt2,ObjR.swap (n:=K0 + h0.length) (fun i t hi=>(H0.dom i t hi).2) (fun i t hi hr=>?_) ob0 ob2⟩
   rw [Ren.put_other _ _ (by omega)]
   exact r1r0 i t (by omega) hr
 ·obtain ⟨v,hv,ev,iv⟩:=tgt b u hu
  obtain ⟨v',hv',ev',_⟩:=tgt b' u' hu'
  have:=H1.exc b b' v v' (own1 b hb) (alv1 b' hb') hv hv' (by rw [ev,ev',he])
  rw [mate1,mate1] at this
  exact this
 ·obtain ⟨v,hv,ev,iv⟩:=tgt b u hu
  rw [← ev]
  exact H1.own b v (own1 b hb) hv
 ·obtain ⟨v,hv,ev,iv⟩:=tgt b u hu
  obtain ⟨x,y⟩:=H1.frz b v (alv1 b hb) hv k (iv k hk)
  exact ⟨x,fun ⟨b2,u2,q1,q2,q3⟩=>by
   obtain ⟨v2,hv2,ev2,_⟩:=tgt b2 u2 q2
   exact y ⟨b2,v2,own1 b2 q1,hv2,by rw [ev2,q3]⟩⟩
 ·obtain ⟨v,hv,ev,iv⟩:=tgt b u hu
  exact S.own k hk ⟨b,v,own1 b hb,hv,by rw [ev,he]⟩
 ·obtain ⟨v,hv,ev,iv⟩:=tgt b u hu
  exact S.mine k hk ⟨b,v,own1 b hb,hv,he.imp (fun e=>by rw [ev,e]) (iv k)⟩
theorem row_list {r0 r1:Ren} {h0:Heap} {w w':World} {ks:List Kd} {n:Nat} {vs:List Value} {l:List (Tup ks)} {u:Value} (hf:flatK ks = true) (hs:0 < ks.length) (hn:0 < n) (hv:vs.length = n * ks.length) (hl:ofRows ks n vs = some l)
  (H0:HR G GB r0 h0 w) (S:Step r0 h0 w r1 (h0++[.row vs true none]) w') (H1:HR G GB r1 (h0++[.row vs true none]) w') (v:VR r1 (.slice (some ⟨K0 + h0.length,0,none⟩) n ks.length) u) :
  ∃ r2,Step r0 h0 w r2 (h0++[.vec ks l true]) w'∧HR G GB r2 (h0++[.vec ks l true]) w'∧VR r2 (.slice (some ⟨K0 + h0.length,1,some 0⟩) l.length ks.length) u∧(∀ x y,scal x = true→VR r1 x y→VR r2 x y):=by
 obtain ⟨el,hg⟩:=ofRows_get hl
 obtain ⟨t,ht,hlt,hob⟩:=H1.obj (K0 + h0.length) (by rw [at_snoc,if_pos rfl];rfl)
 rw [at_snoc,if_pos rfl] at hob
 obtain ⟨⟨o1,o2⟩,o3,o4⟩:=hob
 obtain ⟨cap,hcap,hlim,rfl⟩:∃ cap,n ≤ cap∧t.off + cap * ks.length ≤ t.lim∧u = .slice (some ⟨t.blk,t.off,none⟩) n cap:=by
  have hk:K0 ≤ K0 + h0.length:=by omega
  clear S
  generalize K0 + h0.length = b at *
  cases v with
  | scal _ hs=>simp [Am.scal] at hs
  | slice _ _ _ _ cap t' h' hc hl'=>
    rw [ht] at h'
    cases h'
    exact ⟨cap,hc,by omega,by simp⟩
  | slice0=>exact absurd hk (by decide)
 have hcell:∀ (j:Nat) (c:Value),vs[j]? = some c→w'.cell? ⟨t.blk,t.off + j,none⟩ = some c:=fun j c hc=>by
  obtain ⟨u',hu',hv'⟩:=o3 j c hc
  rw [hv'.scal_eq (rows_scal hf hl hv c (List.mem_of_getElem? hc))] at hu'
  exact hu'
 have hnz:n * ks.length = l.length * ks.length:=by rw [el]
 have hlb:Nat.blt 0 l.length = true:=by rw [el];simpa [Nat.blt_eq] using hn
 obtain ⟨K,T⟩:=HR.swap (o':=.vec ks l true) (t':=⟨t.blk,t.off,t.lim,n * ks.length,ks.length,no⟩) H0 S H1 ht rfl rfl rfl rfl ⟨okK_of_flat hf,⟨rfl,hs,hnz⟩,fun h=>by omega,fun _=>⟨by rw [el,← hv];exact o2,fun i x hx=>RowIn.of_vals hf fun j c hc=>by
  have e:=hg i x hx
  have hi:i < l.length:=(List.getElem?_eq_some_iff.1 hx).1
  have hj:j < ks.length:=by
   have:=(List.getElem?_eq_some_iff.1 hc).1
   rwa [toVs_len] at this
  rw [← e,List.getElem?_take,if_pos hj,List.getElem?_drop] at hc
  have:=hcell _ _ hc
  rw [show t.off + i * ks.length + j = t.off + (i * ks.length + j) by omega]
  exact this,fun _=>o4 rfl⟩⟩
 refine ⟨_,T,K,?_,fun x y hx hy=>by rw [hy.scal_eq hx];exact .scal _ hx⟩
 rw [el]
 exact VR.asl (K0 + h0.length) n ks.length _ _ (Ren.put_self ..) (by omega) ⟨rfl,hs,rfl,.inr ⟨hn,cap,hcap,hlim,by simp⟩⟩
theorem GiveOK.sl_tup {w w':World} {ks:List Kd} {n:Nat} {vs xs:List Value} {l:List (Tup ks)} {u:Value} (hf:flatK ks = true) (hs:0 < ks.length) (hn:0 < n) (hv:vs.length = n * ks.length) (hl:ofRows ks n vs = some l) (hx:xs.all scal = true)
  (h:GiveOK G GB w w' (.tup (.sl n ks.length (vs.map .val) :: xs.map .val)) u):GiveOK G GB w w' (.tup (.vec ks l :: xs.map .val)) u:=fun r0 h0 H0=>by
 obtain ⟨r1,S,H,v⟩:=h r0 h0 H0
 simp only [imp,imps,imps_vals] at S H v ⊢
 obtain ⟨us,rfl,hus⟩:∃ us:List Value,u = .tuple us.toArray∧VRs r1 (.slice (some ⟨K0 + h0.length,0,none⟩) n ks.length :: xs) us:=by
  cases v
  ·rename_i hh;simp [Am.scal] at hh
  ·rename_i xs' hx hh;exact ⟨xs'.toList,by simp,VRs.of_arr hx hh⟩
 cases us with
 | nil=>simp [VRs] at hus
 | cons u0 us=>
   obtain ⟨u1,e1,v1⟩:=hus.2 0 _ rfl
   simp only [List.getElem?_cons_zero,Option.some.injEq] at e1
   subst e1
   obtain ⟨r2,T,K,v2,sc⟩:=row_list hf hs hn hv hl H0 S H v1
   refine ⟨r2,T,K,VRs.tup (VRs.cons v2 ⟨by have:=hus.1;simpa using this,fun j x hj=>?_⟩)⟩
   obtain ⟨y,hy,hv⟩:=hus.2 (j + 1) x (by simpa using hj)
   exact ⟨y,by simpa using hy,sc _ _ (List.all_eq_true.1 hx x (List.mem_of_getElem? hj)) hv⟩
theorem FnD.sl_tup {C:Cfg} {g:FuncId} {ds:List D} {ks:List Kd} {n:Nat} {vs xs:List Value} {l:List (Tup ks)} (hf:flatK ks = true) (hs:0 < ks.length) (hn:0 < n) (hv:vs.length = n * ks.length) (hl:ofRows ks n vs = some l) (hx:xs.all Am.scal = true)
  (h:FnD C g ds (.tup (.sl n ks.length (vs.map .val) :: xs.map .val))):FnD C g ds (.tup (.vec ks l :: xs.map .val)):=fun w args hb hi=>
 (h w args hb hi).mono fun _ _ ⟨u,a,b⟩=>⟨u,a,b.sl_tup hf hs hn hv hl hx⟩
end
end Go.Am
namespace Go.Am
noncomputable section
open Go Go.RowKit
def FnM (C:Cfg) (g:FuncId) (ds:List D) (d:D):Prop:=
 ∀ (w:World) (args:Array Value) (r1:Ren),HR C.G C.GB r1 (imps false ds []).2 w→VRs r1 (imps false ds []).1 args.toList →
  Calls C.P g args w fun e w'=>∃ u r2 h2 v h3 n,e = .returned u∧StepF r1 (imps false ds []).2 w r2 h2 w'∧HR C.G C.GB r2 h2 w'∧VR r2 v u∧rdO n h2 v = some (d,h3)
def FT.map {α β:Type} (f:α→β):FT α→FT β
 | .bad=>.bad
 | .leaf x=>.leaf (f x)
 | .br b x y=>.br b (x.map f) (y.map f)
variable {C:Cfg}
section
variable {N:Nat} {rel:List (Nat × Cv)} {B:Code} {id:Nat} {α:Type}
end
def Cfg.onH (C:Cfg) (hs:List (Nat × (List Value→Heap→FT (Value × Heap)))):Cfg:={ C with mode:=fun f=>modeH C.mode hs f }
where
 modeH (m:FuncId→Am.Mode):List (Nat × (List Value→Heap→FT (Value × Heap)))→FuncId→Am.Mode
  | [],f=>m f
  | c :: cs,f=>match Nat.beq f c.1 with
    | true=>.specH c.2
    | false=>modeH m cs f
def GdH (C:Cfg) (c:Nat × (List Value→Heap→FT (Value × Heap))):Prop:=∀ argv h v h',(c.2 argv h).run = some (v,h')→CallI C c.1 argv h v h'
def GdsH (C:Cfg):List (Nat × (List Value→Heap→FT (Value × Heap)))→Prop
 | []=>True
 | c :: cs=>GdH C c∧GdsH C cs
theorem onH_mode {C:Cfg}:∀ {hs:List (Nat × (List Value→Heap→FT (Value × Heap)))},GdsH C hs→SpecOK C→∀ (g:FuncId) (M:Am.Mode),Cfg.onH.modeH C.mode hs g = M →
  C.mode g = M ∨ ∃ F,M = .specH F∧∀ argv h v h',(F argv h).run = some (v,h')→CallI C g argv h v h'
 | [],_,_,g,M,h=>.inl h
 | c :: cs,⟨h1,h2⟩,sp,g,M,h=>by
   unfold Cfg.onH.modeH at h
   split at h
   ·rename_i e
    rw [Nat.beq_eq] at e
    subst e
    exact .inr ⟨c.2,h.symm,h1⟩
   ·exact onH_mode h2 sp g M h
theorem specs_onH {C:Cfg} (sp:SpecOK C) {hs:List (Nat × (List Value→Heap→FT (Value × Heap)))} (hh:GdsH C hs):SpecOK (C.onH hs):=by
 refine ⟨fun g Fn hm=>?_,fun g Fn hm=>?_,fun g Fn hm=>?_,fun g Fn hm=>?_⟩
 ·rcases onH_mode hh sp g _ hm with h | ⟨F,h,_⟩
  ·exact sp.1 g Fn h
  ·cases h
 ·rcases onH_mode hh sp g _ hm with h | ⟨F,h,_⟩
  ·exact sp.2.1 g Fn h
  ·cases h
 ·rcases onH_mode hh sp g _ hm with h | ⟨F,h,_⟩
  ·exact sp.2.2.1 g Fn h
  ·cases h
 ·rcases onH_mode hh sp g _ hm with h | ⟨F,h,k⟩
  ·exact sp.2.2.2 g Fn h
  ·cases h
   exact k
theorem Cfg.onH_ok {C:Cfg} (ok:CfgOk C) (hs:List (Nat × (List Value→Heap→FT (Value × Heap)))):CfgOk (C.onH hs):=⟨ok.ty,ok.fn,ok.mixed⟩
theorem Gds.onH {C:Cfg} {hs:List (Nat × (List Value→Heap→FT (Value × Heap)))}:∀ {cs:List Ct},Gds C cs→Gds (C.onH hs) cs
 | [],_=>trivial
 | _ :: _,h=>⟨h.1,Gds.onH h.2⟩
theorem FnM.sy {C:Cfg} {cs:List Ct} {g:FuncId} {ds:List D} {d:D} (h:FnM (C.at cs) g ds d):FnM C g ds d:=fun w args r1 H v1=>
 (h w args r1 (HR.sy.2 H) v1).mono fun _ _ ⟨u,r2,h2,v,h3,n,a,b,c,d,e⟩=>⟨u,r2,h2,v,h3,n,a,b,HR.sy.1 c,d,e⟩
def Cfg.onI (C:Cfg) (gs:List Nat):Cfg:={ C with mode:=fun f=>match gs.any (Nat.beq f) with
 | true=>.inl
 | false=>C.mode f }
theorem specs_onI {C:Cfg} (sp:SpecOK C) (gs:List Nat):SpecOK (C.onI gs):=by
 have key:∀ g M,(C.onI gs).mode g = M→M = .inl ∨ C.mode g = M:=fun g M h=>by
  unfold Cfg.onI at h
  simp only at h
  split at h
  ·exact .inl h.symm
  ·exact .inr h
 refine ⟨fun g Fn hm=>?_,fun g Fn hm=>?_,fun g Fn hm=>?_,fun g Fn hm=>?_⟩
 ·rcases key g _ hm with h | h
  ·cases h
  ·exact sp.1 g Fn h
 ·rcases key g _ hm with h | h
  ·cases h
  ·exact sp.2.1 g Fn h
 ·rcases key g _ hm with h | h
  ·cases h
  ·exact sp.2.2.1 g Fn h
 ·rcases key g _ hm with h | h
  ·cases h
  ·exact sp.2.2.2 g Fn h
theorem Cfg.onI_ok {C:Cfg} (ok:CfgOk C) (gs:List Nat):CfgOk (C.onI gs):=⟨ok.ty,ok.fn,ok.mixed⟩
end
end Go.Am
namespace Go.Am
noncomputable section
open Go Go.RowKit
variable {C:Cfg}
end
end Go.Am
namespace Go.Am
noncomputable section
open Go Go.RowKit
def WfE:(k:Kd)→El k→Prop
 | .int k,n=>(Lit.int k n).wf = true
 | .str,s=>(show ByteArray from s).size ≤ maxLen
 | _,_=>True
def WfT:(ks:List Kd)→Tup ks→Prop
 | [],_=>True
 | k :: ks,x=>WfE k x.1∧WfT ks x.2
def Fit (ks:List Kd) (vs:List Value):Prop:=∃ x:Tup ks,vs = toVs ks x∧WfT ks x
theorem Fit.nil:Fit [] []:=⟨(),rfl,trivial⟩
theorem Fit.len {ks:List Kd} {vs:List Value} (h:Fit ks vs):vs.length = ks.length:=by
 obtain ⟨x,rfl,_⟩:=h
 exact toVs_len ks x
theorem Fit.append:∀ {ks:List Kd} {vs:List Value} {ks':List Kd} {vs':List Value},Fit ks vs→Fit ks' vs'→Fit (ks++ks') (vs++vs')
 | [],_,_,_,⟨_,rfl,_⟩,h'=>h'
 | k :: ks,_,ks',vs',⟨x,rfl,hw⟩,h'=>by
   obtain ⟨y,hy,hyw⟩:=Fit.append (ks:=ks) (vs:=toVs ks x.2) ⟨x.2,rfl,hw.2⟩ h'
   exact ⟨(x.1,y),by rw [toVs,List.cons_append,hy];rfl,hw.1,hyw⟩
def fieldsK (L:TypeId→Option (List Kd)) (P:Program):List Field→Nat→Option (List Kd)
 | [],_=>some []
 | f :: fs,off=>match Nat.beq f.offset off,L f.type with
   | true,some ks=>match Nat.beq (P.cellsOf f.type) ks.length,fieldsK L P fs (off + ks.length) with
     | true,some r=>some (ks++r)
     | _,_=>none
   | _,_=>none
def leaves (P:Program):Nat→TypeId→Option (List Kd)
 | 0,_=>none
 | m + 1,t=>match P.underlying t with
   | some (.int k)=>some [.int k]
   | some .string=>some [.str]
   | some .bool=>some [.bool]
   | some (.float k)=>some [.float k]
   | some (.struct fs)=>match fieldsK (leaves P m) P fs.toList 0 with
     | some ks=>match Nat.beq (P.cellsOf t) ks.length with
       | true=>some ks
       | false=>none
     | none=>none
   | some (.array n e)=>match leaves P m e with
     | some ks=>match Nat.beq (P.cellsOf e) ks.length && Nat.beq (P.cellsOf t) (n * ks.length) with
       | true=>some (List.replicate n ks).flatten
       | false=>none
     | none=>none
   | _=>none
variable {H:Type} {enc:TypeId × Value→H} {P:Program} {w:World} {base:Nat} {sp:Nat→Bool} {held:Bool}
theorem mapM_all {α β:Type} {f:α→Option β}:∀ {l:List α} {r:List β},l.mapM f = some r→∀ a ∈ l,∃ b,f a = some b
 | [],_,_,a,ha=>by cases ha
 | x :: l,r,h,a,ha=>by
   simp only [List.mapM_cons,Option.bind_eq_bind,Option.bind_eq_some_iff,Option.pure_def,Option.some.injEq] at h
   obtain ⟨y,hy,ys,hys,_⟩:=h
   rcases List.mem_cons.1 ha with rfl | ha
   ·exact ⟨y,hy⟩
   ·exact mapM_all hys a ha
theorem fields_fit {L:TypeId→Option (List Kd)} {cs:List Value} {T:TypeId→List Value→Option (DataW H × List MemPlace)} (hL:∀ t ks us x,L t = some ks→T t us = some x→Fit ks us) :
  ∀ (fs:List Field) (off:Nat) (ks:List Kd),fieldsK L P fs off = some ks→(∀ f ∈ fs,∃ x,T f.type ((cs.drop f.offset).take (P.cellsOf f.type)) = some x)→Fit ks ((cs.drop off).take ks.length)
 | [],off,ks,h,_=>by simp [fieldsK] at h;subst h;simpa using Fit.nil
 | f :: fs,off,ks,h,hall=>by
   unfold fieldsK at h
   split at h
   ·rename_i ks1 ho hl
    rw [Nat.beq_eq] at ho
    split at h
    ·rename_i r hb hr
     rw [Nat.beq_eq] at hb
     cases h
     obtain ⟨x,hx⟩:=hall f (by simp)
     have h1:=hL _ _ _ x hl hx
     have h2:=fields_fit hL fs _ r hr fun g hg=>hall g (by simp [hg])
     rw [ho,hb] at h1
     have:=h1.append h2
     rwa [← List.drop_drop,← List.take_add,← List.length_append] at this
    ·cases h
   ·cases h
theorem rep_fit {ks:List Kd} {cs:List Value} {c:Nat} (hc:c = ks.length):∀ (n:Nat),(∀ i,i < n→Fit ks ((cs.drop (i * c)).take c))→Fit (List.replicate n ks).flatten (cs.take (n * c))
 | 0,_=>by simpa using Fit.nil
 | n + 1,h=>by
   have h1:=rep_fit hc n fun i hi=>h i (by omega)
   have h2:=h n (by omega)
   have e:(List.replicate (n + 1) ks).flatten = (List.replicate n ks).flatten++ks:=by
    rw [List.replicate_succ',List.flatten_append];simp
   rw [e]
   have:=h1.append h2
   rwa [← List.take_add,show n * c + c = (n + 1) * c by rw [Nat.succ_mul]] at this
theorem int_fit {t:TypeId} {k:IntKind} {fuel:Nat} {cs:List Value} {x:DataW H × List MemPlace} (hu:P.underlying t = some (.int k)) (hx:DataW.trod enc P w base sp held fuel t cs = some x):Fit [.int k] cs:=by
 obtain ⟨n,rfl,_,hw⟩:=DataW.trod_int hu hx
 exact ⟨((show El (.int k) from n),()),rfl,hw,trivial⟩
theorem str_fit {t:TypeId} {fuel:Nat} {cs:List Value} {x:DataW H × List MemPlace} (hu:P.underlying t = some .string) (hx:DataW.trod enc P w base sp held fuel t cs = some x):Fit [.str] cs:=by
 obtain ⟨s,rfl,_,hw⟩:=DataW.trod_string hu hx
 exact ⟨((show El .str from s),()),rfl,hw,trivial⟩
theorem bool_fit {t:TypeId} {fuel:Nat} {cs:List Value} {x:DataW H × List MemPlace} (hu:P.underlying t = some .bool) (hx:DataW.trod enc P w base sp held fuel t cs = some x):Fit [.bool] cs:=by
 obtain ⟨b,rfl,_⟩:=DataW.trod_bool hu hx
 exact ⟨((show El .bool from b),()),rfl,trivial,trivial⟩
theorem trod_float {t:TypeId} {k:FloatKind} {fuel:Nat} {cs:List Value} {x:DataW H × List MemPlace} (ht:P.underlying t = some (.float k)) (h:DataW.trod enc P w base sp held fuel t cs = some x):∃ b,cs = [.float k b]:=by
 cases fuel with
 | zero=>simp [DataW.trod] at h
 | succ n=>
   unfold DataW.trod at h
   rw [ht] at h
   split at h <;> simp_all
theorem float_fit {t:TypeId} {k:FloatKind} {fuel:Nat} {cs:List Value} {x:DataW H × List MemPlace} (hu:P.underlying t = some (.float k)) (hx:DataW.trod enc P w base sp held fuel t cs = some x):Fit [.float k] cs:=by
 obtain ⟨b,rfl⟩:=trod_float hu hx
 exact ⟨((show El (.float k) from b),()),rfl,trivial,trivial⟩
theorem trod_fit:∀ (m:Nat) (t:TypeId) (ks:List Kd) (fuel:Nat) (cs:List Value) (x:DataW H × List MemPlace),leaves P m t = some ks→DataW.trod enc P w base sp held fuel t cs = some x→Fit ks cs
 | 0,t,ks,fuel,cs,x,h,_=>by simp [leaves] at h
 | m + 1,t,ks,fuel,cs,x,h,hx=>by
   unfold leaves at h
   split at h
   ·rename_i hu
    cases h
    exact int_fit hu hx
   ·rename_i hu
    cases h
    exact str_fit hu hx
   ·rename_i hu
    cases h
    exact bool_fit hu hx
   ·rename_i hu
    cases h
    exact float_fit hu hx
   ·rename_i fs hu
    cases fuel with
    | zero=>simp [DataW.trod] at hx
    | succ fuel=>
      unfold DataW.trod at hx
      rw [hu] at hx
      split at h
      ·rename_i ks' hk
       split at h
       ·rename_i hb
        rw [Nat.beq_eq] at hb
        cases h
        simp only at hx
        split at hx
        ·rename_i hlen
         rw [Option.map_eq_some_iff] at hx
         obtain ⟨xs,hxs,_⟩:=hx
         have:=fields_fit (P:=P) (T:=DataW.trod enc P w base sp held fuel) (cs:=cs) (fun t ks us x h1 h2=>trod_fit m t ks fuel us x h1 h2) fs.toList 0 ks hk fun f hf=>mapM_all hxs f hf
         rw [← hb,← hlen] at this
         simpa using this
        ·cases hx
       ·cases h
      ·cases h
   ·rename_i n e hu
    cases fuel with
    | zero=>simp [DataW.trod] at hx
    | succ fuel=>
      unfold DataW.trod at hx
      rw [hu] at hx
      split at h
      ·rename_i ks' hk
       split at h
       ·rename_i hb
        simp only [Bool.and_eq_true,Nat.beq_eq] at hb
        cases h
        simp only at hx
        split at hx
        ·rename_i hlen
         rw [Option.map_eq_some_iff] at hx
         obtain ⟨xs,hxs,_⟩:=hx
         have:=rep_fit (ks:=ks') (cs:=cs) (c:=P.cellsOf e) hb.1 n fun i hi=>by
          obtain ⟨y,hy⟩:=mapM_all hxs i (by simpa using hi)
          exact trod_fit m e ks' fuel _ y hk hy
         rw [hb.1,← hb.2,← hlen] at this
         simpa using this
        ·cases hx
       ·cases h
      ·cases h
   ·cases h
theorem mapM_get {α β:Type} {f:α→Option β}:∀ {l:List α} {r:List β},l.mapM f = some r→∀ (i:Nat) (a:α),l[i]? = some a→∃ b,r[i]? = some b∧f a = some b
 | [],r,h,i,a,ha=>by simp at ha
 | x :: l,r,h,i,a,ha=>by
   simp only [List.mapM_cons,Option.bind_eq_bind,Option.bind_eq_some_iff,Option.pure_def,Option.some.injEq] at h
   obtain ⟨y,hy,ys,hys,rfl⟩:=h
   cases i with
   | zero=>simp at ha;subst ha;exact ⟨y,rfl,hy⟩
   | succ i=>exact mapM_get hys i a (by simpa using ha)
theorem trod_array_get {t e:TypeId} {n fuel:Nat} {cs:List Value} {ds:List (DataW H)} {ps:List MemPlace} (hu:P.underlying t = some (.array n e)) (h:DataW.trod enc P w base sp held fuel t cs = some (.agg ds,ps)) :
  cs.length = P.cellsOf t∧∃ f,∀ i,i < n→∃ d q,ds[i]? = some d∧DataW.trod enc P w base sp held f e ((cs.drop (i * P.cellsOf e)).take (P.cellsOf e)) = some (d,q):=by
 cases fuel with
 | zero=>simp [DataW.trod] at h
 | succ fuel=>
   simp only [DataW.trod,hu] at h
   split at h
   ·rename_i hl
    obtain ⟨xs,hm,hx⟩:=Option.map_eq_some_iff.1 h
    refine ⟨hl,fuel,fun i hi=>?_⟩
    obtain ⟨b,hb,hf⟩:=mapM_get hm i i (by simp [hi])
    simp only [Prod.mk.injEq,DataW.agg.injEq] at hx
    refine ⟨b.1,b.2,?_,hf⟩
    rw [← hx.1];simp [hb]
   ·cases h
theorem trod_struct_get {t:TypeId} {fs:Array Field} {fuel:Nat} {cs:List Value} {ds:List (DataW H)} {ps:List MemPlace} (hu:P.underlying t = some (.struct fs)) (h:DataW.trod enc P w base sp held fuel t cs = some (.agg ds,ps)) :
  ∃ f,∀ (j:Nat) (fd:Field),fs.toList[j]? = some fd→∃ d q,ds[j]? = some d∧DataW.trod enc P w base sp held f fd.type ((cs.drop fd.offset).take (P.cellsOf fd.type)) = some (d,q):=by
 cases fuel with
 | zero=>simp [DataW.trod] at h
 | succ fuel=>
   simp only [DataW.trod,hu] at h
   split at h
   ·obtain ⟨xs,hm,hx⟩:=Option.map_eq_some_iff.1 h
    refine ⟨fuel,fun j fd hj=>?_⟩
    obtain ⟨b,hb,hf⟩:=mapM_get hm j fd hj
    simp only [Prod.mk.injEq,DataW.agg.injEq] at hx
    refine ⟨b.1,b.2,?_,hf⟩
    rw [← hx.1];simp [hb]
   ·cases h
theorem fnD_below {C:Cfg} {g:FuncId} {ds:List D} {v:Value} (hv:Am.scal v = true) (h:FnD C g ds (.val v)) {w:World} {args:Array Value} (hb:Base C.G C.GB w) (himp:ImpsOK C.G C.GB w ds args.toList) :
  Calls C.P g args w fun e w'=>e = .returned v∧Below w.heap.size w w':=
 (h w args hb himp).mono fun e w' ⟨u,he,G⟩=>by
  obtain ⟨r1,S,H',hvr⟩:=G _ [] hb.empty
  simp only [imp] at hvr S
  rw [hvr.scal_eq hv] at he
  refine ⟨he,S.os,S.tape,S.output,S.size,fun k hk=>S.keep k hk fun ⟨b,t,h1,h2,_⟩=>by cases h2⟩
theorem trod_slice_get {t e:TypeId} {fuel:Nat} {v:Value} {x:DataW H × List MemPlace} (hu:P.underlying t = some (.slice e)) (h:DataW.trod enc P w base sp held fuel t [v] = some x) :
  v = .slice none 0 0 ∨ ∃ a len cap f,v = .slice (some a) len cap∧len ≤ cap∧∀ i,i < len→∃ cs y,w.cells? base (a.add (i * P.cellsOf e)) (P.cellsOf e) = some cs∧DataW.trod enc P w base sp held f e cs = some y:=by
 cases fuel with
 | zero=>simp [DataW.trod] at h
 | succ f=>
   unfold DataW.trod at h
   rw [hu] at h
   match v,h with
   | .slice none 0 0,_=>exact .inl rfl
   | .slice (some a) len cap,h=>
     right
     simp only at h
     split at h
     ·rename_i hc
      rw [Option.bind_eq_some_iff] at h
      obtain ⟨elems,he,_⟩:=h
      refine ⟨a,len,cap,f,rfl,hc.2.1,fun i hi=>?_⟩
      obtain ⟨y,hy⟩:=mapM_all he i (by simpa using hi)
      rw [Option.bind_eq_some_iff] at hy
      obtain ⟨cs,h1,h2⟩:=hy
      exact ⟨cs,y,h1,h2⟩
     ·cases h
   | .slice none 0 (_ + 1),h=>simp at h
   | .slice none (_ + 1) _,h=>simp at h
   | .int _ _,h=>simp at h
   | .bool _,h=>simp at h
   | .float _ _,h=>simp at h
   | .complex _ _ _,h=>simp at h
   | .string _,h=>simp at h
   | .pointer _,h=>simp at h
   | .map _,h=>simp at h
   | .chan _,h=>simp at h
   | .func _ _ _,h=>simp at h
   | .nilFunc,h=>simp at h
   | .iface _ _,h=>simp at h
   | .nilIface,h=>simp at h
   | .agg _,h=>simp at h
   | .tuple _,h=>simp at h
theorem addr_twice (a:Addr) (m n:Nat):(a.add m).add n = a.add (m + n):=by
 unfold Addr.add
 by_cases hm:m = 0
 ·subst hm;simp
 ·by_cases hn:n = 0
  ·subst hn;simp [hm]
  ·simp [hm,hn,Nat.add_assoc]
theorem rows_of {e:TypeId} {ks:List Kd} {m:Nat} {a:Addr} (hk:leaves P m e = some ks) (hc:P.cellsOf e = ks.length):∀ (n:Nat),(∀ i,i < n→∃ cs y f,w.cells? base (a.add (i * P.cellsOf e)) (P.cellsOf e) = some cs∧DataW.trod (H:=H) enc P w base sp held f e cs = some y) →
  ∃ l:List (Tup ks),l.length = n∧(∀ x ∈ l,WfT ks x)∧∀ (i:Nat) (x:Tup ks),l[i]? = some x→∀ (j:Nat) (v:Value),(toVs ks x)[j]? = some v→w.cell? (a.add (i * ks.length + j)) = some v
 | 0,_=>⟨[],rfl,by simp,by simp⟩
 | n + 1,h=>by
   obtain ⟨l,h1,h2,h3⟩:=rows_of hk hc n fun i hi=>h i (by omega)
   obtain ⟨cs,y,f,h5,h6⟩:=h n (by omega)
   obtain ⟨_,hl,hcs⟩:=World.cells?_some h5
   obtain ⟨x,hx,hw⟩:=trod_fit m e ks f cs y hk h6
   refine ⟨l++[x],by simp [h1],fun r hr=>?_,fun i x' hi j v hj=>?_⟩
   ·rcases List.mem_append.1 hr with hr | hr
    ·exact h2 r hr
    ·rw [List.mem_singleton.1 hr];exact hw
   ·rcases Nat.lt_or_ge i l.length with hlt | hge
    ·rw [List.getElem?_append_left hlt] at hi;exact h3 i x' hi j v hj
    ·rw [List.getElem?_append_right hge] at hi
     cases hd:i - l.length with
     | zero=>
       rw [hd] at hi
       simp only [List.getElem?_cons_zero,Option.some.injEq] at hi
       subst hi
       have hin:i = n:=by omega
       subst hin
       have hjl:j < cs.length:=by rw [hx];exact (List.getElem?_eq_some_iff.1 hj).1
       have:=hcs j (by omega)
       rw [hx,hj] at this
       rw [← this,addr_twice,hc]
     | succ k=>rw [hd] at hi;simp at hi
theorem slice_imp {t e:TypeId} {ks:List Kd} {m fuel:Nat} {v:Value} {x:DataW H × List MemPlace} (hu:P.underlying t = some (.slice e)) (hk:leaves P m e = some ks) (hc:P.cellsOf e = ks.length) (hf:flatK ks = true) (hpos:0 < ks.length)
  (h:DataW.trod enc P w base sp held fuel t [v] = some x):∃ l:List (Tup ks),(∀ x ∈ l,WfT ks x)∧∀ (G:Gl) (GB:Nat),ImpOK G GB w (.vec ks l) v:=by
 rcases trod_slice_get hu h with rfl | ⟨a,n,cap,f,rfl,hn,hel⟩
 ·exact ⟨[],by simp,fun G GB=>ImpOK.nil_vec (okK_of_flat hf) hpos fun h0 r0 H hno=>⟨r0,.refl _,by simpa [imp] using H,by simpa [imp] using VR.scal (r:=r0) (.slice none 0 0) rfl,by simpa [imp] using hno⟩⟩
 ·obtain ⟨l,h1,h2,h3⟩:=rows_of (enc:=enc) (sp:=sp) (held:=held) (a:=a) hk hc n fun i hi=>by
   obtain ⟨cs,y,g1,g2⟩:=hel i hi
   exact ⟨cs,y,f,g1,g2⟩
  refine ⟨l,h2,fun G GB h0 r0 H hno=>?_⟩
  cases n with
  | zero=>
    have hl:l = []:=List.length_eq_zero_iff.1 h1
    subst hl
    obtain ⟨a1,a2,a3⟩:=H.nothing (okK_of_flat hf) hpos [] rfl false
    refine ⟨_,Ren.le_put H _,by simpa [imp] using a1,?_,fun k hk=>hno k (a3 k (by simpa [imp] using hk))⟩
    simpa [imp] using VR.vsl (K0 + h0.length) 0 ks.length _ (.slice (some a) 0 cap) (Ren.put_self ..) (by omega) ⟨rfl,hpos,.inl ⟨rfl,.inr ⟨a,cap,rfl⟩,.of_len rfl⟩⟩ (by simp)
  | succ n=>
    obtain ⟨b,off,spot⟩:=a
    have hx0:∃ x,l[0]? = some x:=⟨_,List.getElem?_eq_getElem (by omega)⟩
    obtain ⟨x0,hx0⟩:=hx0
    have hv0:∃ v,(toVs ks x0)[0]? = some v:=⟨_,List.getElem?_eq_getElem (by rw [toVs_len];exact hpos)⟩
    obtain ⟨v0,hv0⟩:=hv0
    have hc0:=h3 0 x0 hx0 0 v0 hv0
    have hspot:spot = none:=by simpa [Addr.add] using World.cell?_spot hc0
    subst hspot
    have hblk:=World.block_lt_of_cell? w _ hc0
    have hb:b < w.heap.size:=by
     unfold Addr.add at hblk
     split at hblk <;> exact hblk
    have hmul:l.length * ks.length ≤ cap * ks.length:=Nat.mul_le_mul_right _ (by omega)
    obtain ⟨a1,a2,a3⟩:=H.addRO (.vec ks l false) ⟨b,off,off + cap * ks.length,l.length * ks.length,ks.length,no⟩ rfl hb (hno b) ⟨okK_of_flat hf,⟨rfl,hpos,rfl⟩,fun h=>by omega,fun _=>⟨by simp only;omega,fun i x hi=>RowIn.of_vals hf fun j c hj=>by
     have:=h3 i x hi j c hj
     unfold Addr.add at this
     split at this
     ·rename_i hz;rw [show off + i * ks.length + j = off by omega];exact this
     ·rw [Nat.add_assoc];exact this,fun h=>by cases h⟩⟩
    refine ⟨_,Ren.le_put H _,by simpa [imp] using a1,?_,fun k hk=>hno k (a3 k (by simpa [imp] using hk))⟩
    simpa [imp] using VR.vsl (K0 + h0.length) l.length ks.length _ (.slice (some ⟨b,off,none⟩) (n + 1) cap) (Ren.put_self ..) (by omega) ⟨rfl,hpos,.inr ⟨by omega,by simp,cap,⟨by omega,by simpa using Nat.mul_le_mul_right _ (by omega)⟩,by simp,by rw [h1];simp⟩⟩ rfl
theorem one_imp {k:Kd} (hk:k.isFlat = true) {v:Value} (h:Fit [k] [v]):∃ x:El k,v = toV k x∧WfE k x∧∀ (G:Gl) (GB:Nat),ImpOK G GB w (.val (toV k x)) v:=by
 obtain ⟨x,hx,hw⟩:=h
 simp only [toVs,List.cons.injEq,and_true] at hx
 refine ⟨x.1,hx,hw.1,fun G GB h0 r0 H hno=>⟨r0,.refl _,by simpa [imp] using H,?_,by simpa [imp] using hno⟩⟩
 rw [hx]
 simpa [imp] using VR.scal (r:=r0) (toV k x.1) (toV_scal hk x.1)
theorem okWide_one {r:Reach} {b0:Nat} {t:TypeId} {v:Value} {d:TypeDesc} (hu:P.underlying t = some d) (hd:(∃ k,d = .int k) ∨ d = .string ∨ d = .bool ∨ ∃ e,d = .slice e) (h:Value.okWide P w r b0 t v):v.cells = #[v]:=by
 cases v with
 | agg cs=>
   exfalso
   rcases hd with ⟨k,rfl⟩ | rfl | rfl | ⟨e,rfl⟩ <;> simp [Value.okWide,Cell.okWide,Cell.ok,hu] at h
 | _=>rfl
def kdT (P:Program) (t:TypeId):Option Kd:=
 match P.underlying t with
 | some (.int k)=>some (.int k)
 | some .string=>some .str
 | some .bool=>some .bool
 | _=>none
def sameK (a:Option (List Kd)) (b:List Kd):Bool:=
 match a with
 | some a=>Kd.beqs a b
 | none=>false
theorem sameK_eq {a:Option (List Kd)} {b:List Kd} (h:sameK a b = true):a = some b:=by
 unfold sameK at h
 split at h
 ·rw [Kd.beqs_eq h]
 ·cases h
def aggT (P:Program) (t:TypeId):Bool:=
 match P.underlying t with
 | some (.struct _) | some (.array _ _)=>true
 | _=>false
def elT (P:Program) (t:TypeId):Option TypeId:=
 match P.underlying t with
 | some (.slice e)=>some e
 | _=>none
def shOk (P:Program) (t:TypeId):Sh→Bool
 | .c k=>match kdT P t with
   | some k'=>Kd.beq k' k
   | none=>false
 | .b ks=>aggT P t && (flatK ks && sameK (leaves P 8 t) ks)
 | .v ks=>match elT P t with
   | some e=>flatK ks && (Nat.blt 0 ks.length && (Nat.beq (P.cellsOf e) ks.length && sameK (leaves P 8 e) ks))
   | none=>false
 | _=>false
def WfS:(s:Sh)→ShT s→Prop
 | .c k,x=>WfE k x
 | .b ks,x=>WfT ks x
 | .r ks,x=>WfT ks x
 | .v ks,l=>∀ x ∈ (show List (Tup ks) from l),WfT ks x
 | .x,_=>True
theorem v_imp {t:TypeId} {ks:List Kd} {v:Value} {d:DataW H} {ps:List MemPlace} {r:Reach} {b0:Nat} (h:shOk P t (.v ks) = true) (hv:Value.okWide P w r b0 t v) (hd:DataW.Trod enc P w base sp held t v d ps):∃ l:List (Tup ks),(∀ x ∈ l,WfT ks x)∧∀ (G:Gl) (GB:Nat),ImpOK G GB w (.vec ks l) v:=by
 simp only [shOk] at h
 obtain ⟨f,hf⟩:=hd
 split at h
 ·rename_i e he
  simp only [Bool.and_eq_true,Nat.blt_eq,Nat.beq_eq] at h
  obtain ⟨h2,h3,h4,h5⟩:=h
  unfold elT at he
  split at he
  ·rename_i hu
   cases he
   rw [okWide_one hu (.inr (.inr (.inr ⟨_,rfl⟩))) hv] at hf
   exact slice_imp hu (sameK_eq h5) h4 h2 h3 hf
  ·cases he
 ·cases h
def WfA:(ss:List Sh)→ArgT ss→Prop
 | [],_=>True
 | s :: ss,a=>WfS s a.1∧WfA ss a.2
theorem all_below (hl:laidOutB P = true) {W W':World} (hb:Below W.heap.size W W'):∀ (ts:List TypeId) (vs:List Value) (ds:List (DataW H)) (ps:List MemPlace),(ts.all fun t=>P.readableRec t && decide (t < P.types.size)) = true →
  DataW.TrodAll enc P W 0 (fun _=>true) true ts vs ds ps→(∀ x ∈ ps,x.block < W.heap.size)→DataW.TrodAll enc P W' 0 (fun b=>decide (b < W.heap.size)) true ts vs ds ps
 | [],vs,ds,ps,_,ht,_=>by
   obtain ⟨rfl,rfl,rfl⟩:=ChangeShapes.trodAll_nil ht
   rfl
 | t :: ts,vs,ds,ps,h,ht,hlt=>by
   simp only [List.all_cons,Bool.and_eq_true,decide_eq_true_eq] at h
   obtain ⟨v,vs',d,ds',p,q,rfl,rfl,rfl,h1,h2⟩:=ChangeShapes.trodAll_cons ht
   exact ⟨p,q,Below.trod hl h.1.1 h.1.2 h1 hb fun x hx=>hlt x (by simp [hx]),all_below hl hb ts vs' ds' q h.2 h2 fun x hx=>hlt x (by simp [hx]),rfl⟩
end
end Go.Am
namespace Go.Am
noncomputable section
open Go Go.RowKit
variable {H:Type} {enc:TypeId × Value→H} {P:Program} {w:World} {base:Nat} {sp:Nat→Bool} {held:Bool}
def FitS (w:World) (ss:List Sh) (cs:List Value):Prop:=∃ a:ArgT ss,WfA ss a∧∀ (G:Gl) (GB:Nat),ImpsOK G GB w (toShs ss a) cs
theorem toShs_len:∀ (ss:List Sh) (a:ArgT ss),(toShs ss a).length = ss.length
 | [],_=>rfl
 | _ :: ss,a=>by simp [toShs,toShs_len ss a.2]
theorem FitS.len {ss:List Sh} {cs:List Value} (h:FitS w ss cs):cs.length = ss.length:=by
 obtain ⟨a,_,h⟩:=h
 rw [← (h ⟨fun _=>[],fun _=>none,false,false⟩ 0).1,toShs_len]
theorem ImpsOK.cons {G:Gl} {GB:Nat} {d:D} {u:Value} {ds:List D} {us:List Value} (h:ImpOK G GB w d u) (hs:ImpsOK G GB w ds us):ImpsOK G GB w (d :: ds) (u :: us):=
 ⟨by simp [hs.1],fun j d' u' hj hu=>by
  cases j with
  | zero=>
    simp only [List.getElem?_cons_zero,Option.some.injEq] at hj hu
    subst hj hu
    exact h
  | succ j=>exact hs.2 j d' u' (by simpa using hj) (by simpa using hu)⟩
theorem ImpsOK.append {G:Gl} {GB:Nat}:∀ {ds:List D} {us:List Value} {ds':List D} {us':List Value},ImpsOK G GB w ds us→ImpsOK G GB w ds' us'→ImpsOK G GB w (ds++ds') (us++us')
 | [],[],_,_,_,h'=>h'
 | [],_ :: _,_,_,h,_=>by have:=h.1;simp at this
 | _ :: _,[],_,_,h,_=>by have:=h.1;simp at this
 | d :: ds,u :: us,ds',us',h,h'=>by
   have h2:ImpsOK G GB w ds us:=⟨by simpa using h.1,fun j d' u' hj hu=>h.2 (j + 1) d' u' (by simpa using hj) (by simpa using hu)⟩
   exact ImpsOK.cons (h.2 0 d u rfl rfl) (ImpsOK.append h2 h')
theorem FitS.nil:FitS w [] []:=⟨(),trivial,fun G GB=>⟨rfl,fun j d u h=>by simp [toShs] at h⟩⟩
theorem FitS.append:∀ {ss:List Sh} {vs:List Value} {ss':List Sh} {vs':List Value},FitS w ss vs→FitS w ss' vs'→FitS w (ss++ss') (vs++vs')
 | [],vs,_,_,h,h'=>by
   have:=h.len
   rw [List.length_nil,List.length_eq_zero_iff] at this
   subst this
   exact h'
 | s :: ss,[],_,_,h,_=>by have:=h.len;simp at this
 | s :: ss,v :: vs,ss',vs',⟨a,hw,h⟩,h'=>by
   have h2:FitS w ss vs:=⟨a.2,hw.2,fun G GB=>⟨by have:=(h G GB).1;simpa [toShs] using this,fun j d' u' hj hu=>(h G GB).2 (j + 1) d' u' (by simpa [toShs] using hj) (by simpa using hu)⟩⟩
   obtain ⟨b,hb,g⟩:=FitS.append h2 h'
   exact ⟨(a.1,b),⟨hw.1,hb⟩,fun G GB=>ImpsOK.cons ((h G GB).2 0 _ _ rfl rfl) (g G GB)⟩
def fieldsS (L:TypeId→Option (List Sh)) (P:Program):List Field→Nat→Option (List Sh)
 | [],_=>some []
 | f :: fs,off=>match Nat.beq f.offset off,L f.type with
   | true,some ks=>match Nat.beq (P.cellsOf f.type) ks.length,fieldsS L P fs (off + ks.length) with
     | true,some r=>some (ks++r)
     | _,_=>none
   | _,_=>none
def leavesS (P:Program):Nat→TypeId→Option (List Sh)
 | 0,_=>none
 | m + 1,t=>match P.underlying t with
   | some (.int k)=>some [.c (.int k)]
   | some .string=>some [.c .str]
   | some .bool=>some [.c .bool]
   | some (.slice e)=>match leaves P 8 e with
     | some ks=>match flatK ks && (Nat.blt 0 ks.length && Nat.beq (P.cellsOf e) ks.length) with
       | true=>some [.v ks]
       | false=>none
     | none=>none
   | some (.struct fs)=>match fieldsS (leavesS P m) P fs.toList 0 with
     | some ss=>match Nat.beq (P.cellsOf t) ss.length with
       | true=>some ss
       | false=>none
     | none=>none
   | _=>none
theorem fields_fitS {L:TypeId→Option (List Sh)} {cs:List Value} {T:TypeId→List Value→Option (DataW H × List MemPlace)} (hL:∀ t ks us x,L t = some ks→T t us = some x→FitS w ks us) :
  ∀ (fs:List Field) (off:Nat) (ks:List Sh),fieldsS L P fs off = some ks→(∀ f ∈ fs,∃ x,T f.type ((cs.drop f.offset).take (P.cellsOf f.type)) = some x)→FitS w ks ((cs.drop off).take ks.length)
 | [],off,ks,h,_=>by simp [fieldsS] at h;subst h;simpa using FitS.nil
 | f :: fs,off,ks,h,hall=>by
   unfold fieldsS at h
   split at h
   ·rename_i ks1 ho hl
    rw [Nat.beq_eq] at ho
    split at h
    ·rename_i r hb hr
     rw [Nat.beq_eq] at hb
     cases h
     obtain ⟨x,hx⟩:=hall f (by simp)
     have h1:=hL _ _ _ x hl hx
     have h2:=fields_fitS hL fs _ r hr fun g hg=>hall g (by simp [hg])
     rw [ho,hb] at h1
     have:=h1.append h2
     rwa [← List.drop_drop,← List.take_add,← List.length_append] at this
    ·cases h
   ·cases h
theorem one_fitS {k:Kd} (hk:k.isFlat = true) {cs:List Value} (h:Fit [k] cs):FitS w [.c k] cs:=by
 obtain ⟨x,rfl,hw⟩:=h
 obtain ⟨y,hy,hyw,hi⟩:=one_imp (w:=w) hk (v:=toV k x.1) ⟨x,rfl,hw⟩
 exact ⟨((show ShT (.c k) from y),()),⟨hyw,trivial⟩,fun G GB=>ImpsOK.cons (hi G GB) ⟨rfl,fun j d u h=>by simp [toShs] at h⟩⟩
theorem trod_slice_one {t e:TypeId} {fuel:Nat} {cs:List Value} {x:DataW H × List MemPlace} (hu:P.underlying t = some (.slice e)) (h:DataW.trod enc P w base sp held fuel t cs = some x):∃ v,cs = [v]:=by
 cases fuel with
 | zero=>simp [DataW.trod] at h
 | succ f=>
   unfold DataW.trod at h
   rw [hu] at h
   match cs,h with
   | [v],_=>exact ⟨v,rfl⟩
   | [],h=>simp at h
   | _ :: _ :: _,h=>simp at h
theorem trod_fitS:∀ (m:Nat) (t:TypeId) (ss:List Sh) (fuel:Nat) (cs:List Value) (x:DataW H × List MemPlace),leavesS P m t = some ss→DataW.trod enc P w base sp held fuel t cs = some x→FitS w ss cs
 | 0,t,ks,fuel,cs,x,h,_=>by simp [leavesS] at h
 | m + 1,t,ks,fuel,cs,x,h,hx=>by
   unfold leavesS at h
   split at h
   ·rename_i hu
    cases h
    exact one_fitS rfl (int_fit hu hx)
   ·rename_i hu
    cases h
    exact one_fitS rfl (str_fit hu hx)
   ·rename_i hu
    cases h
    exact one_fitS rfl (bool_fit hu hx)
   ·rename_i e hu
    split at h
    ·rename_i ks hk
     split at h
     ·rename_i hb
      cases h
      simp only [Bool.and_eq_true,Nat.blt_eq,Nat.beq_eq] at hb
      obtain ⟨v,rfl⟩:=trod_slice_one hu hx
      obtain ⟨l,h1,h2⟩:=slice_imp hu hk hb.2.2 hb.1 hb.2.1 hx
      exact ⟨((show ShT (.v ks) from l),()),⟨h1,trivial⟩,fun G GB=>ImpsOK.cons (h2 G GB) ⟨rfl,fun j d u h=>by simp [toShs] at h⟩⟩
     ·cases h
    ·cases h
   ·rename_i fs hu
    cases fuel with
    | zero=>simp [DataW.trod] at hx
    | succ fuel=>
      unfold DataW.trod at hx
      rw [hu] at hx
      split at h
      ·rename_i ks' hk
       split at h
       ·rename_i hb
        rw [Nat.beq_eq] at hb
        cases h
        simp only at hx
        split at hx
        ·rename_i hlen
         rw [Option.map_eq_some_iff] at hx
         obtain ⟨xs,hxs,_⟩:=hx
         have:=fields_fitS (P:=P) (T:=DataW.trod enc P w base sp held fuel) (cs:=cs) (fun t ks us x h1 h2=>trod_fitS m t ks fuel us x h1 h2) fs.toList 0 ks hk fun f hf=>mapM_all hxs f hf
         rw [← hb,← hlen] at this
         simpa using this
        ·cases hx
       ·cases h
      ·cases h
   ·cases h
theorem agg_impS {ss:List Sh} {cs:Array Value} (h:FitS w ss cs.toList):∃ a:ArgT ss,WfA ss a∧∀ (G:Gl) (GB:Nat),ImpOK G GB w (.agg (toShs ss a)) (.agg cs):=by
 obtain ⟨a,hw,hi⟩:=h
 refine ⟨a,hw,fun G GB h0 r0 H hno=>?_⟩
 obtain ⟨r1,le,H1,v1,no1⟩:=(hi G GB).at h0 r0 H hno
 exact ⟨r1,le,by simpa only [imp] using H1,by simpa only [imp,Array.toArray_toList] using v1.agg,by simpa only [imp] using no1⟩
end
end Go.Am
namespace Go.Am
noncomputable section
open Go Go.RowKit
variable {H:Type} {enc:TypeId × Value→H} {P:Program} {w:World} {base:Nat} {sp:Nat→Bool} {held:Bool}
end
end Go.Am
namespace Go.Am
noncomputable section
open Go Go.RowKit
theorem wrap_natW {n:Nat} (h:n < 9223372036854775807):IntKind.i64.wrap ((n:Int) + 1) = ((n + 1:Nat):Int):=by
 rw [IntWalk.i64_in _ ⟨by omega,by omega⟩];rfl
section
variable {α:Type} (id:Nat)
theorem rg_iterW {n:Nat} (hn:n ≤ 9223372036854775807) (step:Nat→α→X × α):∀ (f i:Nat) (a:α),i + f = n→iterN (rgNext id n step) (f + 1) ((i:Int),a) = some (rgRun id step f i a)
 | 0,i,a,h=>by
   have:¬ ((i:Int) < n):=by omega
   simp [iterN,rgNext,rgRun,this]
 | f + 1,i,a,h=>by
   have hi:(i:Int) < n:=by omega
   have hd:decide ((i:Int) < n) = true:=by simp [hi]
   unfold iterN rgRun
   simp only [rgNext,hd,cond_true,Int.toNat_natCast]
   cases hs:step i a with
   | mk x a'=>
     cases x with
     | normal=>
       simp only
       rw [wrap_natW (by omega)]
       exact rg_iterW hn step f (i + 1) a' (by omega)
     | exit id'=>rfl
     | ret=>rfl
end
section
variable {C:Cfg} {N:Nat} {rel:List (Nat × Cv)} {B:Code} {id:Nat} {α:Type}
theorem ldT_rgW (ok:CfgOk C) (sp:SpecOK C) {k:Nat} (hk:k ≤ 9223372036854775807) (st:Int × α→List D) (step:Nat→α→X × α) (inv:Nat→α→Prop)
  (hr:∀ (j:Nat) a,j < k→inv j a→RdOK C N rel B (st ((j:Int),a)) (step j a).1 (st (nx j (step j a))))
  (hn:∀ (j:Nat) a a',j < k→inv j a→step j a = (.normal,a')→inv (j + 1) a')
  (he:∀ a,inv k a→RdOK C N rel B (st ((k:Int),a)) (.exit id) (st ((k:Int),a)))
  {a0:α} (h0:inv 0 a0) {x:X} {p:Int × α} (hx:rgRun id step k 0 a0 = (x,p)) (hid:Nat.ble 100000 id = false:=by rfl):LdT C (ldP id N rel (outX id x) (st p)) (.loop B) (st (0,a0)):=by
 refine ldT_iter ok sp st (rgNext id k step) (fun p=>∃ j:Nat,p.1 = (j:Int)∧j ≤ k∧inv j p.2) (fun p ⟨j,hj,hle,hi⟩=>?_) (fun p q ⟨j,hj,hle,hi⟩ hq=>?_) (a0:=(0,a0)) (b:=p) (f:=k + 1) ⟨0,rfl,by omega,h0⟩ ?_ hid
 ·obtain ⟨i,a⟩:=p
  simp only at hj hi
  subst hj
  unfold rgNext
  by_cases hlt:j < k
  ·have hd:decide ((j:Int) < k) = true:=by simp [hlt]
   have:=hr j a hlt hi
   simp only [hd,cond_true,Int.toNat_natCast]
   cases hs:step j a with
   | mk y b=>rw [hs] at this;cases y <;> exact this
  ·have hd:decide ((j:Int) < k) = false:=by simp;omega
   have hjk:j = k:=by omega
   subst hjk
   simp only [hd,cond_false]
   exact he a hi
 ·obtain ⟨i,a⟩:=p
  simp only at hj hi
  subst hj
  unfold rgNext at hq
  by_cases hlt:j < k
  ·have hd:decide ((j:Int) < k) = true:=by simp [hlt]
   simp only [hd,cond_true,Int.toNat_natCast] at hq
   cases hs:step j a with
   | mk y b=>
     rw [hs] at hq
     cases y with
     | normal=>
       simp only [Prod.mk.injEq,true_and] at hq
       subst hq
       exact ⟨j + 1,wrap_natW (by omega),by omega,hn j a b hlt hi hs⟩
     | exit id'=>simp at hq
     | ret=>simp at hq
  ·have hd:decide ((j:Int) < k) = false:=by simp;omega
   simp only [hd,cond_false] at hq
   cases hq
 ·rw [← hx];exact rg_iterW id hk step k 0 a0 (by omega)
theorem ldT_lsW (ok:CfgOk C) (sp:SpecOK C) {ks:List Kd} (l:List (Tup ks)) (hk:l.length ≤ 9223372036854775807) (st:Int × α→List D) (g:Tup ks→α→X × α) (inv:Nat→α→Prop)
  (hr:∀ (j:Nat) a,j < l.length→inv j a→RdOK C N rel B (st ((j:Int),a)) (g (nth l j) a).1 (st (nx j (g (nth l j) a))))
  (hn:∀ (j:Nat) a a',j < l.length→inv j a→g (nth l j) a = (.normal,a')→inv (j + 1) a')
  (he:∀ a,inv l.length a→RdOK C N rel B (st ((l.length:Int),a)) (.exit id) (st ((l.length:Int),a)))
  {a0:α} (h0:inv 0 a0) {x:X} {p:Int × α} (hx:lsRun id g l 0 a0 = (x,p)) (hid:Nat.ble 100000 id = false:=by rfl):LdT C (ldP id N rel (outX id x) (st p)) (.loop B) (st (0,a0)):=
 ldT_rgW ok sp hk st (fun j a=>g (nth l j) a) inv hr hn he h0 ((rgRun_ls id (ks:=ks) (g:=g) [] l a0 (fun _ _ _=>rfl)).trans hx) hid
end
end
end Go.Am
namespace Go.Am
noncomputable section
open Go Go.RowKit
variable {H:Type} {enc:TypeId × Value→H} {P:Program} {w:World} {base:Nat} {sp:Nat→Bool} {held:Bool}
theorem slice_impW {t e:TypeId} {ks:List Kd} {m fuel:Nat} {v:Value} {x:DataW H × List MemPlace} (hu:P.underlying t = some (.slice e)) (hk:leaves P m e = some ks) (hc:P.cellsOf e = ks.length) (hf:flatK ks = true) (hpos:0 < ks.length)
  (h:DataW.trod enc P w base sp held fuel t [v] = some x):∃ l:List (Tup ks),l.length ≤ maxLen∧(∀ x ∈ l,WfT ks x)∧∀ (G:Gl) (GB:Nat),ImpOK G GB w (.vec ks l) v:=by
 have hbound:∀ a n cap,v = .slice (some a) n cap→n ≤ maxLen:=fun a n cap e=>by
  rcases DataW.trod_slice hu h with ⟨h1,_⟩ | ⟨a',n',cap',_,_,_,_,h1,_,_,h2,h3,_⟩
  ·rw [e] at h1;simp at h1
  ·rw [e] at h1;simp at h1;omega
 rcases trod_slice_get hu h with rfl | ⟨a,n,cap,f,rfl,hn,hel⟩
 ·exact ⟨[],by simp,by simp,fun G GB=>ImpOK.nil_vec (okK_of_flat hf) hpos fun h0 r0 H hno=>⟨r0,.refl _,by simpa [imp] using H,by simpa [imp] using VR.scal (r:=r0) (.slice none 0 0) rfl,by simpa [imp] using hno⟩⟩
 ·obtain ⟨l,h1,h2,h3⟩:=rows_of (enc:=enc) (sp:=sp) (held:=held) (a:=a) hk hc n fun i hi=>by
   obtain ⟨cs,y,g1,g2⟩:=hel i hi
   exact ⟨cs,y,f,g1,g2⟩
  refine ⟨l,by rw [h1];exact hbound _ _ _ rfl,h2,fun G GB h0 r0 H hno=>?_⟩
  cases n with
  | zero=>
    have hl:l = []:=List.length_eq_zero_iff.1 h1
    subst hl
    obtain ⟨a1,a2,a3⟩:=H.nothing (okK_of_flat hf) hpos [] rfl false
    refine ⟨_,Ren.le_put H _,by simpa [imp] using a1,?_,fun k hk=>hno k (a3 k (by simpa [imp] using hk))⟩
    simpa [imp] using VR.vsl (K0 + h0.length) 0 ks.length _ (.slice (some a) 0 cap) (Ren.put_self ..) (by omega) ⟨rfl,hpos,.inl ⟨rfl,.inr ⟨a,cap,rfl⟩,.of_len rfl⟩⟩ (by simp)
  | succ n=>
    obtain ⟨b,off,spot⟩:=a
    have hx0:∃ x,l[0]? = some x:=⟨_,List.getElem?_eq_getElem (by omega)⟩
    obtain ⟨x0,hx0⟩:=hx0
    have hv0:∃ v,(toVs ks x0)[0]? = some v:=⟨_,List.getElem?_eq_getElem (by rw [toVs_len];exact hpos)⟩
    obtain ⟨v0,hv0⟩:=hv0
    have hc0:=h3 0 x0 hx0 0 v0 hv0
    have hspot:spot = none:=by simpa [Addr.add] using World.cell?_spot hc0
    subst hspot
    have hblk:=World.block_lt_of_cell? w _ hc0
    have hb:b < w.heap.size:=by
     unfold Addr.add at hblk
     split at hblk <;> exact hblk
    have hmul:l.length * ks.length ≤ cap * ks.length:=Nat.mul_le_mul_right _ (by omega)
    obtain ⟨a1,a2,a3⟩:=H.addRO (.vec ks l false) ⟨b,off,off + cap * ks.length,l.length * ks.length,ks.length,no⟩ rfl hb (hno b) ⟨okK_of_flat hf,⟨rfl,hpos,rfl⟩,fun h=>by omega,fun _=>⟨by simp only;omega,fun i x hi=>RowIn.of_vals hf fun j c hj=>by
     have:=h3 i x hi j c hj
     unfold Addr.add at this
     split at this
     ·rename_i hz;rw [show off + i * ks.length + j = off by omega];exact this
     ·rw [Nat.add_assoc];exact this,fun h=>by cases h⟩⟩
    refine ⟨_,Ren.le_put H _,by simpa [imp] using a1,?_,fun k hk=>hno k (a3 k (by simpa [imp] using hk))⟩
    simpa [imp] using VR.vsl (K0 + h0.length) l.length ks.length _ (.slice (some ⟨b,off,none⟩) (n + 1) cap) (Ren.put_self ..) (by omega) ⟨rfl,hpos,.inr ⟨by omega,by simp,cap,⟨by omega,by simpa using Nat.mul_le_mul_right _ (by omega)⟩,by simp,by rw [h1];simp⟩⟩ rfl
theorem v_impW {t:TypeId} {ks:List Kd} {v:Value} {d:DataW H} {ps:List MemPlace} {r:Reach} {b0:Nat} (h:shOk P t (.v ks) = true) (hv:Value.okWide P w r b0 t v) (hd:DataW.Trod enc P w base sp held t v d ps):∃ l:List (Tup ks),l.length ≤ maxLen∧(∀ x ∈ l,WfT ks x)∧∀ (G:Gl) (GB:Nat),ImpOK G GB w (.vec ks l) v:=by
 simp only [shOk] at h
 obtain ⟨f,hf⟩:=hd
 split at h
 ·rename_i e he
  simp only [Bool.and_eq_true,Nat.blt_eq,Nat.beq_eq] at h
  obtain ⟨h2,h3,h4,h5⟩:=h
  unfold elT at he
  split at he
  ·rename_i hu
   cases he
   rw [okWide_one hu (.inr (.inr (.inr ⟨_,rfl⟩))) hv] at hf
   exact slice_impW hu (sameK_eq h5) h4 h2 h3 hf
  ·cases he
 ·cases h
end
end Go.Am
namespace Go.Am
noncomputable section
open Go Go.RowKit
variable {H:Type} {enc:TypeId × Value→H} {P:Program} {w:World} {base:Nat} {sp:Nat→Bool} {held:Bool}
theorem rep_fitS {ss:List Sh} {cs:List Value} {c:Nat} (hc:c = ss.length):∀ (n:Nat),(∀ i,i < n→FitS w ss ((cs.drop (i * c)).take c))→FitS w (List.replicate n ss).flatten (cs.take (n * c))
 | 0,_=>by simpa using FitS.nil
 | n + 1,h=>by
   have h1:=rep_fitS hc n fun i hi=>h i (by omega)
   have h2:=h n (by omega)
   have e:(List.replicate (n + 1) ss).flatten = (List.replicate n ss).flatten++ss:=by
    rw [List.replicate_succ',List.flatten_append];simp
   rw [e]
   have:=h1.append h2
   rwa [← List.take_add,show n * c + c = (n + 1) * c by rw [Nat.succ_mul]] at this
def leavesX (P:Program):Nat→TypeId→Option (List Sh)
 | 0,_=>none
 | m + 1,t=>match P.underlying t with
   | some (.array n e)=>match leavesX P m e with
     | some ss=>match Nat.beq (P.cellsOf e) ss.length && Nat.beq (P.cellsOf t) (n * ss.length) with
       | true=>some (List.replicate n ss).flatten
       | false=>none
     | none=>none
   | some (.struct fs)=>match fieldsS (leavesX P m) P fs.toList 0 with
     | some ss=>match Nat.beq (P.cellsOf t) ss.length with
       | true=>some ss
       | false=>none
     | none=>none
   | _=>leavesS P 8 t
theorem trod_fitX:∀ (m:Nat) (t:TypeId) (ss:List Sh) (fuel:Nat) (cs:List Value) (x:DataW H × List MemPlace),leavesX P m t = some ss→DataW.trod enc P w base sp held fuel t cs = some x→FitS w ss cs
 | 0,t,ks,fuel,cs,x,h,_=>by simp [leavesX] at h
 | m + 1,t,ks,fuel,cs,x,h,hx=>by
   unfold leavesX at h
   split at h
   ·rename_i n e hu
    cases fuel with
    | zero=>simp [DataW.trod] at hx
    | succ fuel=>
      unfold DataW.trod at hx
      rw [hu] at hx
      split at h
      ·rename_i ks' hk
       split at h
       ·rename_i hb
        simp only [Bool.and_eq_true,Nat.beq_eq] at hb
        cases h
        simp only at hx
        split at hx
        ·rename_i hlen
         rw [Option.map_eq_some_iff] at hx
         obtain ⟨xs,hxs,_⟩:=hx
         have:=rep_fitS (ss:=ks') (cs:=cs) (c:=P.cellsOf e) hb.1 n fun i hi=>by
          obtain ⟨y,hy⟩:=mapM_all hxs i (by simpa using hi)
          exact trod_fitX m e ks' fuel _ y hk hy
         rw [hb.1,← hb.2,← hlen] at this
         simpa using this
        ·cases hx
       ·cases h
      ·cases h
   ·rename_i fs hu
    cases fuel with
    | zero=>simp [DataW.trod] at hx
    | succ fuel=>
      unfold DataW.trod at hx
      rw [hu] at hx
      split at h
      ·rename_i ks' hk
       split at h
       ·rename_i hb
        rw [Nat.beq_eq] at hb
        cases h
        simp only at hx
        split at hx
        ·rename_i hlen
         rw [Option.map_eq_some_iff] at hx
         obtain ⟨xs,hxs,_⟩:=hx
         have:=fields_fitS (P:=P) (T:=DataW.trod enc P w base sp held fuel) (cs:=cs) (fun t ks us x h1 h2=>trod_fitX m t ks fuel us x h1 h2) fs.toList 0 ks hk fun f hf=>mapM_all hxs f hf
         rw [← hb,← hlen] at this
         simpa using this
        ·cases hx
       ·cases h
      ·cases h
   ·exact trod_fitS 8 t ks fuel cs x h hx
theorem x_imp {t:TypeId} {ss:List Sh} {v:Value} {d:DataW H} {ps:List MemPlace} {r:Reach} {b0:Nat} (h:aggT P t = true) (hs:leavesX P 8 t = some ss) (hv:Value.okWide P w r b0 t v) (hd:DataW.Trod enc P w base sp held t v d ps) :
  ∃ a:ArgT ss,WfA ss a∧∀ (G:Gl) (GB:Nat),ImpOK G GB w (.agg (toShs ss a)) v:=by
 obtain ⟨f,hf⟩:=hd
 obtain ⟨cs,rfl⟩:∃ cs,v = .agg cs:=by
  unfold aggT at h
  unfold Value.okWide at hv
  split at h
  ·rename_i hu;rw [hu] at hv;exact ⟨hv.choose,hv.choose_spec.1⟩
  ·rename_i hu;rw [hu] at hv;exact ⟨hv.choose,hv.choose_spec.1⟩
  ·cases h
 exact agg_impS (trod_fitX 8 t ss f _ _ hs hf)
end
end Go.Am
