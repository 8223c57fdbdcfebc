/-
 A part of the proof of the statement that the claim names: see the last file.
-/
import Derived.Test.YtifnpljmjhnbaaaGreatDoorT4
import Derived.Test.YtifnpljmjhnbaaaGreatDoorT6
import Derived.Test.YtifnpljmjhnbaaaGreatDoorT7
namespace Go.Proofs.YtifnpljmjhnbaaaGreatDoor
open Go Go.Am
set_option maxRecDepth 100000
variable {w0:World}
noncomputable section
def bx (a b:TLi):D:=.obox [.vec intK a,.vec intK b]
def smW (x y:Tup intK):Int:=IntKind.i64.wrap (i1 x + i1 y)
def sa72 (a:TLi) (i sum:Int):Int:=IntKind.i64.wrap (sum + i1 (nth a i.toNat))
def refB (e:Tup evK) (q:Tup paK) (s:Int) (x y:Tup intK):Bool:=((val58 e q s).2 == 0) && decide (smW x y < (val58 e q s).1)
def refE (l:List (Tup evK)) (p:List (Tup paK)) (s:Int) (a b:TLi) (i:Nat):Bool:=(List.range' 0 p.length).any fun k=>refB (nth l i) (nth p k) s (nth a i) (nth b k)
def anyR (l:List (Tup evK)) (p:List (Tup paK)) (s:Int) (a b:TLi):Bool:=(List.range' 0 l.length).any fun i=>refE l p s a b i
def sumN (a:TLi) (n:Nat) (s:Int):Int:=(List.range' 0 n).foldl (fun s (i:Nat)=>sa72 a i s) s
def bndR (l:List (Tup evK)) (p:List (Tup paK)) (s:Int) (a b:TLi):Int × Int:=bif anyR l p s a b then (0,19) else (sumN b p.length (sumN a l.length 0),0)
end
end Go.Proofs.YtifnpljmjhnbaaaGreatDoor
namespace Go.Proofs.YtifnpljmjhnbaaaGreatDoor
open Go Go.Am
set_option maxRecDepth 100000
variable {w0:World}
noncomputable section
theorem fewP_len {l:List (Tup paK)} (h:l.length ≤ 4):fewP l = true:=by
 match l,h with
 | [],_=>rfl
 | [_],_=>rfl
 | [_,_],_=>rfl
 | [_,_,_],_=>rfl
 | [_,_,_,_],_=>rfl
 | _ :: _ :: _ :: _ :: _ :: _,h=>simp only [List.length_cons] at h;omega
theorem zip_any {ks ks':List Kd} (f:Tup ks→Tup ks'→Bool) {l:List (Tup ks)} {a:List (Tup ks')} {n:Nat} (h1:l.length = n) (h2:a.length = n):(List.range' 0 n).any (fun i=>f (nth l i) (nth a i)) = (l.zip a).any fun q=>f q.1 q.2:=by
 rw [Bool.eq_iff_iff,List.any_eq_true,List.any_eq_true]
 simp only [List.mem_range'_1]
 constructor
 ·rintro ⟨i,⟨_,hi⟩,h⟩
  refine ⟨(nth l i,nth a i),?_,h⟩
  rw [show nth l i = l[i]'(by omega) by simp only [nth,List.getD_eq_getElem?_getD,List.getElem?_eq_getElem (show i < l.length by omega),Option.getD_some],
   show nth a i = a[i]'(by omega) by simp only [nth,List.getD_eq_getElem?_getD,List.getElem?_eq_getElem (show i < a.length by omega),Option.getD_some]]
  have hz:i < (l.zip a).length:=by rw [List.length_zip];omega
  have:=List.getElem_mem hz
  rwa [List.getElem_zip] at this
 ·rintro ⟨q,hq,h⟩
  obtain ⟨i,hi,rfl⟩:=List.getElem_of_mem hq
  rw [List.length_zip] at hi
  rw [List.getElem_zip] at h
  refine ⟨i,⟨by omega,by omega⟩,?_⟩
  rwa [show nth l i = l[i]'(by omega) by simp only [nth,List.getD_eq_getElem?_getD,List.getElem?_eq_getElem (show i < l.length by omega),Option.getD_some],
   show nth a i = a[i]'(by omega) by simp only [nth,List.getD_eq_getElem?_getD,List.getElem?_eq_getElem (show i < a.length by omega),Option.getD_some]]
theorem tBk_eq (x:Tup intK):∀ (r:List (Tup intK × Tup intK)) (k:Option D),tBk x r k = bif r.any (fun q=>decide (i1 q.1 > smW x q.2)) then some (tup2' (0,19)) else k
 | [],k=>rfl
 | (v,y) :: r,k=>by
   unfold tBk
   rw [tBk_eq x r k,List.any_cons]
   show (bif decide (i1 v > smW x y) then _ else _) = _
   cases decide (i1 v > smW x y) <;> rfl
theorem tB_eq:∀ (L:List (Tup intK × TLi)) (b:TLi) (k:Option D),tB L b k = bif L.any (fun q=>(q.2.zip b).any fun r=>decide (i1 r.1 > smW q.1 r.2)) then some (tup2' (0,19)) else k
 | [],b,k=>rfl
 | (x,row) :: L,b,k=>by
   unfold tB
   rw [tBk_eq,tB_eq L b k,List.any_cons]
   cases (row.zip b).any fun r=>decide (i1 r.1 > smW x r.2) <;> rfl
def refP (l:List (Tup evK)) (p:List (Tup paK)) (s:Int) (a b:TLi):Bool:=(a.zip l).any fun q=>(p.zip b).any fun r=>decide (valN q.2 r.1 s > smW q.1 r.2)
theorem tB_ref (l:List (Tup evK)) (p:List (Tup paK)) (s:Int) (a b:TLi) (k:Option D):tB (a.zip (l.map fun e=>vaL e p s)) b k = bif refP l p s a b then some (tup2' (0,19)) else k:=by
 rw [tB_eq]
 unfold refP
 rw [List.zip_map_right,List.any_map]
 congr 1
 congr 1
 funext q
 show ((vaL q.2 p s).zip b).any (fun r=>decide (i1 r.1 > smW q.1 r.2)) = _
 unfold vaL
 rw [List.zip_map_left,List.any_map]
 rfl
theorem any_zip_congr {α β:Type} {f g:α × β→Bool} {a:List α} {b:List β} (h:∀ x ∈ a,∀ y ∈ b,f (x,y) = g (x,y)):(a.zip b).any f = (a.zip b).any g:=
 any_congr fun ⟨x,y⟩ hq=>h x (List.of_mem_zip hq).1 y (List.of_mem_zip hq).2
theorem anyR_eq {l:List (Tup evK)} {p:List (Tup paK)} {s:Int} {a b:TLi} (he:∀ e ∈ l,okE e) (hp:∀ q ∈ p,okP q) (hs:s ≤ 300) (ha:a.length = l.length) (hb:b.length = p.length)
  (h1:∀ x ∈ a,0 ≤ i1 x∧i1 x ≤ 1000) (h2:∀ x ∈ b,0 ≤ i1 x∧i1 x ≤ 1000):anyR l p s a b = refP l p s a b:=by
 have e1:∀ i,refE l p s a b i = (p.zip b).any fun r=>refB (nth l i) r.1 s (nth a i) r.2:=fun i=>zip_any (fun q y=>refB (nth l i) q s (nth a i) y) rfl hb
 unfold anyR
 simp only [e1]
 rw [zip_any (fun x e=>(p.zip b).any fun r=>refB e r.1 s x r.2) ha rfl]
 unfold refP
 refine any_zip_congr fun x hx e hl=>any_zip_congr fun q hq y hy=>?_
 unfold refB
 rw [val58_eq (he e hl) (hp q hq) hs]
 simp only
 rw [valN_eq e q s hs]
 have b1:=h1 x hx
 have b2:=h2 y hy
 have e3:smW x y = i1 x + i1 y:=by unfold smW;exact W_id (by omega) (by omega)
 rw [e3]
 cases expl e q s with
 | true=>simp
 | false=>
   simp only [cond_false]
   rw [decide_eq_false (show ¬ (-1 > i1 x + i1 y) by omega)]
   rfl
theorem sumN_eq:∀ (suf pre:TLi) (s:Int),(List.range' pre.length suf.length).foldl (fun s (i:Nat)=>sa72 (pre++suf) i s) s = suf.foldl (fun s x=>IntKind.i64.wrap (s + i1 x)) s
 | [],pre,s=>rfl
 | x :: suf,pre,s=>by
   rw [List.length_cons,List.range'_succ,List.foldl_cons,List.foldl_cons]
   have h:=sumN_eq suf (pre++[x]) (IntKind.i64.wrap (s + i1 x))
   rw [List.append_assoc,List.length_append] at h
   rw [show sa72 (pre++x :: suf) ((pre.length:Nat):Int) s = IntKind.i64.wrap (s + i1 x) by
    unfold sa72
    rw [Int.toNat_natCast,show nth (pre++x :: suf) pre.length = x by simp [nth,List.getD_eq_getElem?_getD]]]
   exact h
theorem sumW_eq (a b:TLi):sumW (a++b) = sumN b b.length (sumN a a.length 0):=by
 unfold sumW sumN
 rw [List.foldl_append]
 have h1:=sumN_eq a [] 0
 have h2:=sumN_eq b [] (a.foldl (fun s x=>IntKind.i64.wrap (s + i1 x)) 0)
 simp only [List.length_nil,List.nil_append] at h1 h2
 rw [h1,h2]
theorem rgE_eq (a:TLi):rgE a 0 1000 = wiL a:=by
 unfold rgE wiL
 rw [List.map_map]
 rfl
theorem z68_eq (l:List (Tup evK)) (p:List (Tup paK)) (s:Int) (a b:TLi):z68 l p s a b = bif allZ l p s != 0 then allZ l p s else pZ l p a b:=by
 unfold z68 pZ l71
 rw [rgE_eq,rgE_eq]
 unfold firstZ firstZ firstZ firstZ firstZ firstZ whenZ
 cases (allZ l p s != 0)
 ·cases ((a.length:Int) != l.length)
  ·cases ((b.length:Int) != p.length)
   ·cases (wiL a != 0)
    ·cases h:(wiL b != 0)
     ·have h:wiL b = 0:=by simpa using h
      exact h.symm
     ·rfl
    ·rfl
   ·rfl
  ·rfl
 ·rfl
theorem wiL_zero:∀ {a:TLi},wiL a = 0→∀ x ∈ a,0 ≤ i1 x∧i1 x ≤ 1000:=fun {a} h x hx=>within_zero (firstZ_zero h (wi1 x) (List.mem_map.2 ⟨x,hx,rfl⟩))
theorem pZ_zero {l:List (Tup evK)} {p:List (Tup paK)} {a b:TLi} (h:pZ l p a b = 0):a.length = l.length∧b.length = p.length∧wiL a = 0∧wiL b = 0:=by
 unfold pZ at h
 obtain ⟨h1,h⟩:=first_zero h
 obtain ⟨h2,h3⟩:=first_zero h
 obtain ⟨e1,e2⟩:=l71_zero (show (l71 l p a b != 0) = false by rw [h1];rfl)
 exact ⟨e1,e2,h2,h3⟩
def bnd (l:List (Tup evK)) (p:List (Tup paK)) (s:Int) (a b:TLi):Int × Int:=
 bif allZ l p s != 0 then (0,allZ l p s) else bif pZ l p a b != 0 then (0,pZ l p a b) else bndR l p s a b
theorem shortP_few {l:List (Tup evK)} {p:List (Tup paK)} {s:Int} (h:shortP p = true):p.length ≤ 4 ∨ (allZ l p s != 0) = true:=by
 unfold shortP at h
 simp only [Bool.and_eq_true,Bool.or_eq_true,decide_eq_true_eq,beq_iff_eq] at h
 rcases h.2 with h | h
 ·left;omega
 ·right
  have:chkPa p = 5:=by
   unfold chkPa
   rw [decide_eq_true (by omega)];rfl
  unfold allZ firstZ firstZ
  rw [this]
  cases hc:(chkEv l != 0) with
  | true=>simpa using hc
  | false=>rfl
theorem fn68 (h0:Lib0 w0) (l:List (Tup evK)) (p:List (Tup paK)) (s:Int) (a b:TLi) (hl:shortE l = true) (hp:shortP p = true) (ha:sm a = true) (hb:sm b = true):FnD (cfg w0) 68 [.vec evK l,.vec paK p,I s,prD a b] (tup2' (bnd l p s a b)):=by
 have hx:∀ z,z68 l p s a b = z→(z != 0) = true→FnD (cfg w0) 68 [.vec evK l,.vec paK p,I s,prD a b] (tup2' (0,z)):=fun z hz hne=>
  fnD_k (cfg_ok w0) h0 (cs:=[c128,cBad,whenC 104,firstC 84,c105]) ⟨gd128 h0,gdBad,gd104 h0,gd84 h0,gd105 h0,trivial⟩ (fd:=fnOf Tryz.f68) rfl ((run68_x l p s a b).trans (by rw [ha,hb,hz,hne];rfl))
 unfold bnd
 cases hz:(allZ l p s != 0) with
 | true=>exact hx _ (by rw [z68_eq,hz];rfl) hz
 | false=>
   cases hq:(pZ l p a b != 0) with
   | true=>exact hx _ (by rw [z68_eq,hz];rfl) hq
   | false=>
     have hq0:pZ l p a b = 0:=by simpa using hq
     obtain ⟨he,hpa,hs⟩:=allZ_ok hz
     obtain ⟨e1,e2,w1,w2⟩:=pZ_zero hq0
     have f1:few l = true:=(short_few hl).resolve_right (by rw [hz];decide)
     have f2:p.length ≤ 4:=(shortP_few hp).resolve_right (by rw [hz];decide)
     refine fnD_k (cfg_ok w0) h0 (cs:=cs68) ⟨gd128 h0,gd129 h0,gd104 h0,gd84 h0,gd105 h0,gd114 h0,trivial⟩ (fd:=fnOf Tryz.f68) rfl ((run68 l p s a b f1 (fewP_len f2) e1 e2).trans ?_)
     unfold t68 bndR
     rw [ha,hb,z68_eq,hz,hq0,smP_of hpa,tB_ref,anyR_eq (evs_ok he) (pas_ok hpa) (slack_le hs) e1 e2 (wiL_zero w1) (wiL_zero w2),sumW_eq,e1,e2]
     cases refP l p s a b <;> rfl
def c68:Ct:=ct 68 [.v evK,.v paK,.c ik,.x] fun a=>match asPr a.2.2.2.1 with
 | some q=>.br (shortE a.1) (.br (shortP a.2.1) (.br (sm q.1) (.br (sm q.2) (.leaf (tup2' (bnd a.1 a.2.1 a.2.2.1 q.1 q.2))) .bad) .bad) .bad) .bad
 | none=>.bad
theorem gd68 (h0:Lib0 w0):Gd (cfg w0) c68:=gd_sig fun a d hd=>by
 obtain ⟨l,p,s,x,u⟩:=a
 simp only at hd
 cases hb:asPr x with
 | none=>rw [hb] at hd;cases hd
 | some q=>
   rw [hb] at hd
   obtain ⟨h1,hd⟩:=br_run hd
   obtain ⟨h2,hd⟩:=br_run hd
   obtain ⟨h3,hd⟩:=br_run hd
   obtain ⟨h4,hd⟩:=br_run hd
   cases hd
   cases asPr_eq hb
   exact fn68 h0 l p s q.1 q.2 h1 h2 h3 h4
end
end Go.Proofs.YtifnpljmjhnbaaaGreatDoor
