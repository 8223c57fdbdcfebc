/-
 A part of the proof of the statement that the claim names: see the last file.
-/
import Derived.Test.YtifnpljmjhnbaaaGreatDoorT5
namespace Go.Proofs.YtifnpljmjhnbaaaGreatDoor
open Go Go.Am
set_option maxRecDepth 100000
variable {w0:World}
noncomputable section
theorem run68_00 (s:Int):bodyK ((cfg w0).at cs68) 60 (fnOf Tryz.f68) [.vec evK [],.vec paK [],I s,.agg [.vec intK [],.vec intK []]] = t68 [] [] s [] []:=by kernel_rfl
theorem run68_01 (p:Tup paK) (s:Int) (y1:Tup intK):bodyK ((cfg w0).at cs68) 60 (fnOf Tryz.f68) [.vec evK [],.vec paK [p],I s,.agg [.vec intK [],.vec intK [y1]]] = t68 [] [p] s [] [y1]:=by kernel_rfl
theorem run68_02 (p q:Tup paK) (s:Int) (y1 y2:Tup intK):bodyK ((cfg w0).at cs68) 60 (fnOf Tryz.f68) [.vec evK [],.vec paK [p,q],I s,.agg [.vec intK [],.vec intK [y1,y2]]] = t68 [] [p,q] s [] [y1,y2]:=by kernel_rfl
theorem run68_03 (p q r:Tup paK) (s:Int) (y1 y2 y3:Tup intK):bodyK ((cfg w0).at cs68) 60 (fnOf Tryz.f68) [.vec evK [],.vec paK [p,q,r],I s,.agg [.vec intK [],.vec intK [y1,y2,y3]]] = t68 [] [p,q,r] s [] [y1,y2,y3]:=by kernel_rfl
theorem run68_04 (p q r t:Tup paK) (s:Int) (y1 y2 y3 y4:Tup intK):bodyK ((cfg w0).at cs68) 60 (fnOf Tryz.f68) [.vec evK [],.vec paK [p,q,r,t],I s,.agg [.vec intK [],.vec intK [y1,y2,y3,y4]]] = t68 [] [p,q,r,t] s [] [y1,y2,y3,y4]:=by kernel_rfl
theorem run68_10 (e:Tup evK) (s:Int) (x1:Tup intK):bodyK ((cfg w0).at cs68) 60 (fnOf Tryz.f68) [.vec evK [e],.vec paK [],I s,.agg [.vec intK [x1],.vec intK []]] = t68 [e] [] s [x1] []:=by kernel_rfl
theorem run68_11 (e:Tup evK) (p:Tup paK) (s:Int) (x1 y1:Tup intK):bodyK ((cfg w0).at cs68) 60 (fnOf Tryz.f68) [.vec evK [e],.vec paK [p],I s,.agg [.vec intK [x1],.vec intK [y1]]] = t68 [e] [p] s [x1] [y1]:=by kernel_rfl
theorem run68_12 (e:Tup evK) (p q:Tup paK) (s:Int) (x1 y1 y2:Tup intK):bodyK ((cfg w0).at cs68) 60 (fnOf Tryz.f68) [.vec evK [e],.vec paK [p,q],I s,.agg [.vec intK [x1],.vec intK [y1,y2]]] = t68 [e] [p,q] s [x1] [y1,y2]:=by kernel_rfl
theorem run68_13 (e:Tup evK) (p q r:Tup paK) (s:Int) (x1 y1 y2 y3:Tup intK):bodyK ((cfg w0).at cs68) 60 (fnOf Tryz.f68) [.vec evK [e],.vec paK [p,q,r],I s,.agg [.vec intK [x1],.vec intK [y1,y2,y3]]] = t68 [e] [p,q,r] s [x1] [y1,y2,y3]:=by kernel_rfl
theorem run68_14 (e:Tup evK) (p q r t:Tup paK) (s:Int) (x1 y1 y2 y3 y4:Tup intK):bodyK ((cfg w0).at cs68) 60 (fnOf Tryz.f68) [.vec evK [e],.vec paK [p,q,r,t],I s,.agg [.vec intK [x1],.vec intK [y1,y2,y3,y4]]] = t68 [e] [p,q,r,t] s [x1] [y1,y2,y3,y4]:=by kernel_rfl
theorem run68_20 (e f:Tup evK) (s:Int) (x1 x2:Tup intK):bodyK ((cfg w0).at cs68) 60 (fnOf Tryz.f68) [.vec evK [e,f],.vec paK [],I s,.agg [.vec intK [x1,x2],.vec intK []]] = t68 [e,f] [] s [x1,x2] []:=by kernel_rfl
theorem run68_21 (e f:Tup evK) (p:Tup paK) (s:Int) (x1 x2 y1:Tup intK):bodyK ((cfg w0).at cs68) 60 (fnOf Tryz.f68) [.vec evK [e,f],.vec paK [p],I s,.agg [.vec intK [x1,x2],.vec intK [y1]]] = t68 [e,f] [p] s [x1,x2] [y1]:=by kernel_rfl
theorem run68_22 (e f:Tup evK) (p q:Tup paK) (s:Int) (x1 x2 y1 y2:Tup intK):bodyK ((cfg w0).at cs68) 60 (fnOf Tryz.f68) [.vec evK [e,f],.vec paK [p,q],I s,.agg [.vec intK [x1,x2],.vec intK [y1,y2]]] = t68 [e,f] [p,q] s [x1,x2] [y1,y2]:=by kernel_rfl
theorem run68_23 (e f:Tup evK) (p q r:Tup paK) (s:Int) (x1 x2 y1 y2 y3:Tup intK):bodyK ((cfg w0).at cs68) 60 (fnOf Tryz.f68) [.vec evK [e,f],.vec paK [p,q,r],I s,.agg [.vec intK [x1,x2],.vec intK [y1,y2,y3]]] = t68 [e,f] [p,q,r] s [x1,x2] [y1,y2,y3]:=by kernel_rfl
theorem run68_24 (e f:Tup evK) (p q r t:Tup paK) (s:Int) (x1 x2 y1 y2 y3 y4:Tup intK):bodyK ((cfg w0).at cs68) 60 (fnOf Tryz.f68) [.vec evK [e,f],.vec paK [p,q,r,t],I s,.agg [.vec intK [x1,x2],.vec intK [y1,y2,y3,y4]]] = t68 [e,f] [p,q,r,t] s [x1,x2] [y1,y2,y3,y4]:=by kernel_rfl
theorem run68_30 (e f g:Tup evK) (s:Int) (x1 x2 x3:Tup intK):bodyK ((cfg w0).at cs68) 60 (fnOf Tryz.f68) [.vec evK [e,f,g],.vec paK [],I s,.agg [.vec intK [x1,x2,x3],.vec intK []]] = t68 [e,f,g] [] s [x1,x2,x3] []:=by kernel_rfl
theorem run68_31 (e f g:Tup evK) (p:Tup paK) (s:Int) (x1 x2 x3 y1:Tup intK):bodyK ((cfg w0).at cs68) 60 (fnOf Tryz.f68) [.vec evK [e,f,g],.vec paK [p],I s,.agg [.vec intK [x1,x2,x3],.vec intK [y1]]] = t68 [e,f,g] [p] s [x1,x2,x3] [y1]:=by kernel_rfl
theorem run68_32 (e f g:Tup evK) (p q:Tup paK) (s:Int) (x1 x2 x3 y1 y2:Tup intK):bodyK ((cfg w0).at cs68) 60 (fnOf Tryz.f68) [.vec evK [e,f,g],.vec paK [p,q],I s,.agg [.vec intK [x1,x2,x3],.vec intK [y1,y2]]] = t68 [e,f,g] [p,q] s [x1,x2,x3] [y1,y2]:=by kernel_rfl
theorem run68_33 (e f g:Tup evK) (p q r:Tup paK) (s:Int) (x1 x2 x3 y1 y2 y3:Tup intK):bodyK ((cfg w0).at cs68) 60 (fnOf Tryz.f68) [.vec evK [e,f,g],.vec paK [p,q,r],I s,.agg [.vec intK [x1,x2,x3],.vec intK [y1,y2,y3]]] = t68 [e,f,g] [p,q,r] s [x1,x2,x3] [y1,y2,y3]:=by kernel_rfl
theorem run68_34 (e f g:Tup evK) (p q r t:Tup paK) (s:Int) (x1 x2 x3 y1 y2 y3 y4:Tup intK):bodyK ((cfg w0).at cs68) 60 (fnOf Tryz.f68) [.vec evK [e,f,g],.vec paK [p,q,r,t],I s,.agg [.vec intK [x1,x2,x3],.vec intK [y1,y2,y3,y4]]] = t68 [e,f,g] [p,q,r,t] s [x1,x2,x3] [y1,y2,y3,y4]:=by kernel_rfl
theorem run68_40 (e f g h:Tup evK) (s:Int) (x1 x2 x3 x4:Tup intK):bodyK ((cfg w0).at cs68) 60 (fnOf Tryz.f68) [.vec evK [e,f,g,h],.vec paK [],I s,.agg [.vec intK [x1,x2,x3,x4],.vec intK []]] = t68 [e,f,g,h] [] s [x1,x2,x3,x4] []:=by kernel_rfl
theorem run68_41 (e f g h:Tup evK) (p:Tup paK) (s:Int) (x1 x2 x3 x4 y1:Tup intK):bodyK ((cfg w0).at cs68) 60 (fnOf Tryz.f68) [.vec evK [e,f,g,h],.vec paK [p],I s,.agg [.vec intK [x1,x2,x3,x4],.vec intK [y1]]] = t68 [e,f,g,h] [p] s [x1,x2,x3,x4] [y1]:=by kernel_rfl
theorem run68_42 (e f g h:Tup evK) (p q:Tup paK) (s:Int) (x1 x2 x3 x4 y1 y2:Tup intK):bodyK ((cfg w0).at cs68) 60 (fnOf Tryz.f68) [.vec evK [e,f,g,h],.vec paK [p,q],I s,.agg [.vec intK [x1,x2,x3,x4],.vec intK [y1,y2]]] = t68 [e,f,g,h] [p,q] s [x1,x2,x3,x4] [y1,y2]:=by kernel_rfl
theorem run68_43 (e f g h:Tup evK) (p q r:Tup paK) (s:Int) (x1 x2 x3 x4 y1 y2 y3:Tup intK):bodyK ((cfg w0).at cs68) 60 (fnOf Tryz.f68) [.vec evK [e,f,g,h],.vec paK [p,q,r],I s,.agg [.vec intK [x1,x2,x3,x4],.vec intK [y1,y2,y3]]] = t68 [e,f,g,h] [p,q,r] s [x1,x2,x3,x4] [y1,y2,y3]:=by kernel_rfl
theorem run68_44 (e f g h:Tup evK) (p q r t:Tup paK) (s:Int) (x1 x2 x3 x4 y1 y2 y3 y4:Tup intK):bodyK ((cfg w0).at cs68) 60 (fnOf Tryz.f68) [.vec evK [e,f,g,h],.vec paK [p,q,r,t],I s,.agg [.vec intK [x1,x2,x3,x4],.vec intK [y1,y2,y3,y4]]] = t68 [e,f,g,h] [p,q,r,t] s [x1,x2,x3,x4] [y1,y2,y3,y4]:=by kernel_rfl
theorem run68_x (l:List (Tup evK)) (p:List (Tup paK)) (s:Int) (a b:TLi):bodyK ((cfg w0).at [c128,cBad,whenC 104,firstC 84,c105]) 60 (fnOf Tryz.f68) [.vec evK l,.vec paK p,I s,.agg [.vec intK a,.vec intK b]] = bif sm a then bif sm b then bif z68 l p s a b != 0 then some (tup2' (0,z68 l p s a b)) else none else none else none:=by kernel_rfl
def fewP (l:List (Tup paK)):Bool:=match l with
 | _ :: _ :: _ :: _ :: _ :: _=>false
 | _=>true
theorem run68 (l:List (Tup evK)) (p:List (Tup paK)) (s:Int) (a b:TLi) (hl:few l = true) (hp:fewP p = true) (ha:a.length = l.length) (hb:b.length = p.length):bodyK ((cfg w0).at cs68) 60 (fnOf Tryz.f68) [.vec evK l,.vec paK p,I s,.agg [.vec intK a,.vec intK b]] = t68 l p s a b:=by
 match l,hl,a,ha,p,hp,b,hb with
 | [],_,[],_,[],_,[],_=>exact run68_00 s
 | [],_,[],_,[p],_,[y1],_=>exact run68_01 p s y1
 | [],_,[],_,[p,q],_,[y1,y2],_=>exact run68_02 p q s y1 y2
 | [],_,[],_,[p,q,r],_,[y1,y2,y3],_=>exact run68_03 p q r s y1 y2 y3
 | [],_,[],_,[p,q,r,t],_,[y1,y2,y3,y4],_=>exact run68_04 p q r t s y1 y2 y3 y4
 | [e],_,[x1],_,[],_,[],_=>exact run68_10 e s x1
 | [e],_,[x1],_,[p],_,[y1],_=>exact run68_11 e p s x1 y1
 | [e],_,[x1],_,[p,q],_,[y1,y2],_=>exact run68_12 e p q s x1 y1 y2
 | [e],_,[x1],_,[p,q,r],_,[y1,y2,y3],_=>exact run68_13 e p q r s x1 y1 y2 y3
 | [e],_,[x1],_,[p,q,r,t],_,[y1,y2,y3,y4],_=>exact run68_14 e p q r t s x1 y1 y2 y3 y4
 | [e,f],_,[x1,x2],_,[],_,[],_=>exact run68_20 e f s x1 x2
 | [e,f],_,[x1,x2],_,[p],_,[y1],_=>exact run68_21 e f p s x1 x2 y1
 | [e,f],_,[x1,x2],_,[p,q],_,[y1,y2],_=>exact run68_22 e f p q s x1 x2 y1 y2
 | [e,f],_,[x1,x2],_,[p,q,r],_,[y1,y2,y3],_=>exact run68_23 e f p q r s x1 x2 y1 y2 y3
 | [e,f],_,[x1,x2],_,[p,q,r,t],_,[y1,y2,y3,y4],_=>exact run68_24 e f p q r t s x1 x2 y1 y2 y3 y4
 | [e,f,g],_,[x1,x2,x3],_,[],_,[],_=>exact run68_30 e f g s x1 x2 x3
 | [e,f,g],_,[x1,x2,x3],_,[p],_,[y1],_=>exact run68_31 e f g p s x1 x2 x3 y1
 | [e,f,g],_,[x1,x2,x3],_,[p,q],_,[y1,y2],_=>exact run68_32 e f g p q s x1 x2 x3 y1 y2
 | [e,f,g],_,[x1,x2,x3],_,[p,q,r],_,[y1,y2,y3],_=>exact run68_33 e f g p q r s x1 x2 x3 y1 y2 y3
 | [e,f,g],_,[x1,x2,x3],_,[p,q,r,t],_,[y1,y2,y3,y4],_=>exact run68_34 e f g p q r t s x1 x2 x3 y1 y2 y3 y4
 | [e,f,g,h],_,[x1,x2,x3,x4],_,[],_,[],_=>exact run68_40 e f g h s x1 x2 x3 x4
 | [e,f,g,h],_,[x1,x2,x3,x4],_,[p],_,[y1],_=>exact run68_41 e f g h p s x1 x2 x3 x4 y1
 | [e,f,g,h],_,[x1,x2,x3,x4],_,[p,q],_,[y1,y2],_=>exact run68_42 e f g h p q s x1 x2 x3 x4 y1 y2
 | [e,f,g,h],_,[x1,x2,x3,x4],_,[p,q,r],_,[y1,y2,y3],_=>exact run68_43 e f g h p q r s x1 x2 x3 x4 y1 y2 y3
 | [e,f,g,h],_,[x1,x2,x3,x4],_,[p,q,r,t],_,[y1,y2,y3,y4],_=>exact run68_44 e f g h p q r t s x1 x2 x3 x4 y1 y2 y3 y4
end
end Go.Proofs.YtifnpljmjhnbaaaGreatDoor
