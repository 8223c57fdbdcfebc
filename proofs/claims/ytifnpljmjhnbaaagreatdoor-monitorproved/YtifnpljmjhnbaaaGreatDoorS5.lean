/-
 A part of the proof of the statement that the claim names: see the last file.
-/
import Derived.Test.YtifnpljmjhnbaaaGreatDoorS4
import Derived.Test.YtifnpljmjhnbaaaGreatDoorM6
namespace Go.Proofs.YtifnpljmjhnbaaaGreatDoor
open Go Go.Am
set_option maxRecDepth 100000
variable {w0:World}
noncomputable section
def gE (l:List (Tup evK)):Bool:=Nat.ble l.length 100000
def gP (l:List (Tup paK)):Bool:=Nat.ble l.length 100000
def gW (l:List (Tup paK)):Bool:=Nat.ble l.length 9223372036854775807
abbrev z0:Int:=0
def z5:Tup paK:=((⟨#[]⟩:ByteArray),z0,z0,z0,z0,())
end
end Go.Proofs.YtifnpljmjhnbaaaGreatDoor
namespace Go.Proofs.YtifnpljmjhnbaaaGreatDoor
open Go Go.Am
set_option maxRecDepth 100000
variable {w0:World}
noncomputable section
theorem firstZ_zero:∀ {l:List Int},firstZ l = 0→∀ e ∈ l,e = 0
 | [],_,e,h=>by cases h
 | x :: xs,hz,e,h=>by
   unfold firstZ at hz
   obtain ⟨h1,h2⟩:=first_zero hz
   rcases List.mem_cons.1 h with rfl | h
   ·exact h1
   ·exact firstZ_zero h2 e h
theorem ev_ok {e:Tup evK} (h:chkEv [e] = 0):0 ≤ ef e∧ef e < et e∧et e ≤ 100000∧ef e ≤ ea e∧ea e ≤ et e - 1:=by
 have h:(bif errI [e] 0 != 0 then errI [e] 0 else 0) = 0:=h
 obtain ⟨h,_⟩:=first_zero h
 obtain ⟨h1,h⟩:=first_zero (show (bif spanE e != 0 then spanE e else bif ovl [e] 0 then 15 else r5 e) = 0 from h)
 obtain ⟨a,b,c⟩:=span_zero h1
 have h:r5 e = 0:=h
 have:=within_zero (firstZ_zero h (atE e) (by simp))
 rw [W_id (by omega) (by omega)] at this
 exact ⟨a,b,c,this.1,this.2⟩
theorem pa_ok {p:Tup paK} (h:chkPa [p] = 0):0 ≤ pf p∧pf p < pt p∧pt p ≤ 100000:=by
 have h:(bif chkE [] p != 0 then chkE [] p else 0) = 0:=h
 obtain ⟨h,_⟩:=first_zero h
 obtain ⟨_,h⟩:=first_zero (show (bif nmZ (pn p) != 0 then nmZ (pn p) else restP p) = 0 from h)
 exact span_zero (firstZ_zero h (spanP p) (by simp))
theorem dist_eq {e:Tup evK} {p:Tup paK} {s:Int} (h:allZ [e] [p] s = 0):distP e p = distR e p:=by
 obtain ⟨a1,a2,a3,a4,a5⟩:=ev_ok (firstZ_zero h (chkEv [e]) (by simp))
 obtain ⟨b1,b2,b3⟩:=pa_ok (firstZ_zero h (chkPa [p]) (by simp))
 unfold distP distR
 rw [W_id (n:=pt p - 1) (by omega) (by omega),W_id (n:=ea e - (pt p - 1)) (by omega) (by omega),W_id (n:=ea e - pt p) (by omega) (by omega),W_id (n:=ea e - pt p + 1) (by omega) (by omega),show ea e - (pt p - 1) = ea e - pt p + 1 by omega]
theorem why_eq {e:Tup evK} {p:Tup paK} {s:Int} (h:allZ [e] [p] s = 0):whyP e p s = whyR e p s:=by
 unfold whyP whyR
 rw [dist_eq h]
theorem val_eq {e:Tup evK} {p:Tup paK} {s:Int} (h:allZ [e] [p] s = 0):val55 e p s = val58 e p s:=by
 unfold val55 val58
 rw [h,dist_eq h,why_eq h,somB_eq]
 rfl
end
end Go.Proofs.YtifnpljmjhnbaaaGreatDoor
