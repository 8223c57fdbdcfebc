/-
 A part of the proof of the statement that the claim names: see the last file.
-/
import Derived.Test.YtifnpljmjhnbaaaGreatDoorS3
namespace Go.Proofs.YtifnpljmjhnbaaaGreatDoor
open Go Go.Am
set_option maxRecDepth 100000
variable {w0:World}
noncomputable section
def distP (e:Tup evK) (p:Tup paK):Int:=mx (mx 0 (IntKind.i64.wrap (pf p - ea e))) (IntKind.i64.wrap (ea e - IntKind.i64.wrap (pt p - 1)))
def distR (e:Tup evK) (p:Tup paK):Int:=mx (mx 0 (IntKind.i64.wrap (pf p - ea e))) (IntKind.i64.wrap (IntKind.i64.wrap (ea e - pt p) + 1))
theorem run119 (e:Tup evK) (p:Tup paK):bodyK ((cfg w0).at []) 40 (fnOf Tryz.f119) [evD e,paD p] = some (I (distP e p)):=by kernel_rfl
def c119:Ct:=ct 119 [.b evK,.b paK] fun a=>.leaf (I (distP a.1 a.2.1))
theorem gd119 (h0:Lib0 w0):Gd (cfg w0) c119:=gd_k h0 (cs:=[]) trivial (fd:=fnOf Tryz.f119) rfl (n:=40) fun a d hd=>by
 obtain ⟨⟨a1,a2,a3,a4,a5,a6,_⟩,⟨b1,b2,b3,b4,b5,_⟩,u⟩:=a
 cases hd
 exact run119 (a1,a2,a3,a4,a5,a6,()) (b1,b2,b3,b4,b5,())
abbrev tmB:ByteArray:=⟨#[116,105,109,101]⟩
abbrev enB:ByteArray:=⟨#[101,110,101,114,103,121]⟩
def ts (s:ByteArray):Tup strK:=(s,())
def whyL (t g:Bool):List (Tup strK):=bif t then (bif g then [ts tmB,ts enB] else [ts tmB]) else bif g then [ts enB] else []
def engB (e:Tup evK) (p:Tup paK):Bool:=decide (ee e < pl p) || decide (ee e > ph p)
def lwB (e:Tup evK) (p:Tup paK):Bool:=decide (ee e < pl p)
def hiB (e:Tup evK) (p:Tup paK):Bool:=decide (ee e > ph p)
def tree118 (t lw hi:Bool):Option D:=
 bif t then bif lw then some (.sl 2 1 [Str tmB,Str enB]) else bif hi then some (.sl 2 1 [Str tmB,Str enB]) else some (.sl 1 1 [Str tmB])
 else bif lw then some (.sl 1 1 [Str enB]) else bif hi then some (.sl 1 1 [Str enB]) else some (.val (.slice none 0 0))
theorem run118 (e:Tup evK) (p:Tup paK) (s:Int):bodyK ((cfg w0).at [c119]) 40 (fnOf Tryz.f118) [evD e,paD p,I s] = tree118 (decide (distP e p > s)) (lwB e p) (hiB e p):=by kernel_rfl
theorem why_fn {g:FuncId} {ds:List D} {t lw hi:Bool} (h:∀ d,tree118 t lw hi = some d→FnD (cfg w0) g ds d):FnD (cfg w0) g ds (.vec strK (whyL t (lw || hi))):=by
 have two:FnD (cfg w0) g ds (.sl 2 1 [Str tmB,Str enB])→FnD (cfg w0) g ds (.vec strK [ts tmB,ts enB]):=fun k=>FnD.sl_one (ks:=strK) (n:=2) (vs:=[.string tmB,.string enB]) rfl (by decide) (by decide) rfl rfl k
 have one:∀ b:ByteArray,FnD (cfg w0) g ds (.sl 1 1 [Str b])→FnD (cfg w0) g ds (.vec strK [ts b]):=fun b k=>FnD.sl_one (ks:=strK) (n:=1) (vs:=[.string b]) rfl (by decide) (by decide) rfl rfl k
 cases t <;> cases lw <;> cases hi
 ·exact FnD.nil_one rfl (by decide) (h _ rfl)
 ·exact one _ (h _ rfl)
 ·exact one _ (h _ rfl)
 ·exact one _ (h _ rfl)
 ·exact one _ (h _ rfl)
 ·exact two (h _ rfl)
 ·exact two (h _ rfl)
 ·exact two (h _ rfl)
def whyP (e:Tup evK) (p:Tup paK) (s:Int):List (Tup strK):=whyL (decide (distP e p > s)) (engB e p)
def whyR (e:Tup evK) (p:Tup paK) (s:Int):List (Tup strK):=whyL (decide (distR e p > s)) (engB e p)
def c118:Ct:=ct 118 [.b evK,.b paK,.c ik] fun a=>.leaf (.vec strK (whyP a.1 a.2.1 a.2.2.1))
theorem gd118 (h0:Lib0 w0):Gd (cfg w0) c118:=gd_sig fun a d hd=>by
 obtain ⟨⟨a1,a2,a3,a4,a5,a6,_⟩,⟨b1,b2,b3,b4,b5,_⟩,s,u⟩:=a
 cases hd
 exact why_fn fun d hd=>fnD_k (cfg_ok w0) h0 (cs:=[c119]) ⟨gd119 h0,trivial⟩ (fd:=fnOf Tryz.f118) rfl ((run118 (a1,a2,a3,a4,a5,a6,()) (b1,b2,b3,b4,b5,()) s).trans hd)
def allZ (l:List (Tup evK)) (p:List (Tup paK)) (s:Int):Int:=firstZ [chkEv l,chkPa p,withinZ s 0 300]
def cs117:List Ct:=evC 59 :: paC 62 :: rangeC 158 0 300 :: baseC
theorem run117 (e:Tup evK) (p:Tup paK) (s:Int):bodyK ((cfg w0).at cs117) 40 (fnOf Tryz.f117) [evD e,paD p,I s] = some (I (allZ [e] [p] s)):=by
 obtain ⟨a1,a2,a3,a4,a5,a6,_⟩:=e
 obtain ⟨b1,b2,b3,b4,b5,_⟩:=p
 kernel_rfl
def c117:Ct:=ct 117 [.b evK,.b paK,.c ik] fun a=>.leaf (I (allZ [a.1] [a.2.1] a.2.2.1))
theorem gd117 (h0:Lib0 w0):Gd (cfg w0) c117:=gd_k h0 (cs:=cs117) ⟨gd59 h0,gd62 h0,gd158 h0,baseC_gd h0⟩ (fd:=fnOf Tryz.f117) rfl (n:=40) fun a d hd=>by
 obtain ⟨⟨a1,a2,a3,a4,a5,a6,_⟩,⟨b1,b2,b3,b4,b5,_⟩,s,u⟩:=a
 cases hd
 exact run117 (a1,a2,a3,a4,a5,a6,()) (b1,b2,b3,b4,b5,()) s
def cs56:List Ct:=evC 61 :: paC 64 :: rangeC 120 0 300 :: baseC
theorem run56 (l:List (Tup evK)) (p:List (Tup paK)) (s:Int):bodyK ((cfg w0).at cs56) 40 (fnOf Tryz.f56) [.vec evK l,.vec paK p,I s] = some (I (allZ l p s)):=by kernel_rfl
def c56:Ct:=ct 56 [.v evK,.v paK,.c ik] fun a=>.leaf (I (allZ a.1 a.2.1 a.2.2.1))
theorem gd56 (h0:Lib0 w0):Gd (cfg w0) c56:=gd_k h0 (cs:=cs56) ⟨gd61 h0,gd64 h0,gd120 h0,baseC_gd h0⟩ (fd:=fnOf Tryz.f56) rfl (n:=40) fun a d hd=>by
 obtain ⟨l,p,s,u⟩:=a
 cases hd
 exact run56 l p s
def tup2' (x:Int × Int):D:=.tup [I x.1,I x.2]
def a1Z (e:Tup evK) (p:Tup paK) (s:Int):Int:=firstZ [allZ [e] [p] s]
theorem a1Z_eq (e:Tup evK) (p:Tup paK) (s:Int):a1Z e p s = allZ [e] [p] s:=by
 unfold a1Z firstZ firstZ
 cases h:(allZ [e] [p] s != 0) with
 | true=>rfl
 | false=>rw [show allZ [e] [p] s = 0 by simpa using h];rfl
def vlZ (b:Bool) (d:Int):Int × Int:=bif b then (0,7) else (IntKind.i64.wrap (1000 - d),0)
def somB (l:List (Tup strK)):Bool:=decide ((l.length:Int) > 0)
def noB (l:List (Tup strK)):Bool:=(l.length:Int) == 0
def cs55:List Ct:=[c117,firstC 84,c118,c119]
theorem run55 (e:Tup evK) (p:Tup paK) (s:Int):bodyK ((cfg w0).at cs55) 40 (fnOf Tryz.f55) [evD e,paD p,I s] =
  bif a1Z e p s != 0 then some (tup2' (0,a1Z e p s)) else bif somB (whyP e p s) then some (tup2' (0,7)) else some (tup2' (IntKind.i64.wrap (1000 - distP e p),0)):=by
 obtain ⟨a1,a2,a3,a4,a5,a6,_⟩:=e
 obtain ⟨b1,b2,b3,b4,b5,_⟩:=p
 kernel_rfl
def val55 (e:Tup evK) (p:Tup paK) (s:Int):Int × Int:=bif allZ [e] [p] s != 0 then (0,allZ [e] [p] s) else vlZ (somB (whyP e p s)) (distP e p)
theorem run55' (e:Tup evK) (p:Tup paK) (s:Int):bodyK ((cfg w0).at cs55) 40 (fnOf Tryz.f55) [evD e,paD p,I s] = some (tup2' (val55 e p s)):=by
 rw [run55,a1Z_eq]
 unfold val55 vlZ
 cases (allZ [e] [p] s != 0)
 ·cases somB (whyP e p s) <;> rfl
 ·rfl
def c55:Ct:=ct 55 [.b evK,.b paK,.c ik] fun a=>.leaf (tup2' (val55 a.1 a.2.1 a.2.2.1))
theorem gd55 (h0:Lib0 w0):Gd (cfg w0) c55:=gd_k h0 (cs:=cs55) ⟨gd117 h0,gd84 h0,gd118 h0,gd119 h0,trivial⟩ (fd:=fnOf Tryz.f55) rfl (n:=40) fun a d hd=>by
 obtain ⟨⟨a1,a2,a3,a4,a5,a6,_⟩,⟨b1,b2,b3,b4,b5,_⟩,s,u⟩:=a
 cases hd
 exact run55' (a1,a2,a3,a4,a5,a6,()) (b1,b2,b3,b4,b5,()) s
def val58 (e:Tup evK) (p:Tup paK) (s:Int):Int × Int:=vlZ (!noB (whyR e p s)) (distR e p)
theorem somB_eq (l:List (Tup strK)):somB l = !noB l:=by
 unfold somB noB
 cases l with
 | nil=>rfl
 | cons x xs=>
   rw [decide_eq_true (by rw [List.length_cons];omega)]
   have:(((x :: xs).length:Int) == 0) = false:=by rw [beq_eq_false_iff_ne,List.length_cons];omega
   rw [this];rfl
def s1 (x:Tup strK):List UInt8:=ByteArray.toList x.1
end
end Go.Proofs.YtifnpljmjhnbaaaGreatDoor
