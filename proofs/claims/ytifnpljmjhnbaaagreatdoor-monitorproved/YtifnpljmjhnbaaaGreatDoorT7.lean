/-
 A part of the proof of the statement that the claim names: see the last file.
-/
import Derived.Test.YtifnpljmjhnbaaaGreatDoorT5
namespace Go.Proofs.YtifnpljmjhnbaaaGreatDoor
open Go Go.Am
set_option maxRecDepth 100000
variable {w0:World}
noncomputable section
def l71 (l:List (Tup evK)) (p:List (Tup paK)) (a b:TLi):Int:=firstZ [whenZ ((a.length:Int) != l.length) 2,whenZ ((b.length:Int) != p.length) 2]
def wi1 (x:Tup intK):Int:=withinZ (i1 x) 0 1000
def tW:TLi→Option D→Option D
 | [],k=>k
 | x :: xs,k=>bif wi1 x != 0 then some (I (wi1 x)) else tW xs k
def t71 (l:List (Tup evK)) (p:List (Tup paK)) (a b:TLi):Option D:=
 bif l71 l p a b != 0 then some (I (l71 l p a b)) else tW a (tW b (some (I 0)))
end
end Go.Proofs.YtifnpljmjhnbaaaGreatDoor
namespace Go.Proofs.YtifnpljmjhnbaaaGreatDoor
open Go Go.Am
set_option maxRecDepth 100000
variable {w0:World}
noncomputable section
def fewI (l:TLi):Bool:=match l with
 | _ :: _ :: _ :: _ :: _ :: _=>false
 | _=>true
def prD (a b:TLi):D:=.agg [.vec intK a,.vec intK b]
def asPr (d:D):Option (TLi × TLi):=
 match d with
 | .agg [.vec k1 a,.vec k2 b]=>match recast k1 intK a,recast k2 intK b with
   | some a,some b=>some (a,b)
   | _,_=>none
 | _=>none
theorem asPr_eq {d:D} {p:TLi × TLi} (h:asPr d = some p):d = prD p.1 p.2:=by
 unfold asPr at h
 split at h
 ·split at h
  ·rename_i h1 h2
   cases h
   obtain ⟨e1,rfl⟩:=recast_eq h1
   obtain ⟨e2,rfl⟩:=recast_eq h2
   subst e1 e2
   rfl
  ·cases h
 ·cases h
def wiL (a:TLi):Int:=firstZ (a.map wi1)
def pZ (l:List (Tup evK)) (p:List (Tup paK)) (a b:TLi):Int:=bif l71 l p a b != 0 then l71 l p a b else bif wiL a != 0 then wiL a else wiL b
theorem l71_zero {l:List (Tup evK)} {p:List (Tup paK)} {a b:TLi} (h:(l71 l p a b != 0) = false):a.length = l.length∧b.length = p.length:=by
 have h:l71 l p a b = 0:=by simpa using h
 unfold l71 firstZ firstZ firstZ whenZ at h
 cases h1:((a.length:Int) != l.length) <;> cases h2:((b.length:Int) != p.length) <;> rw [h1,h2] at h
 ·exact ⟨Int.ofNat.inj (by simpa using h1),Int.ofNat.inj (by simpa using h2)⟩
 ·simp at h
 ·simp at h
 ·simp at h
end
end Go.Proofs.YtifnpljmjhnbaaaGreatDoor
