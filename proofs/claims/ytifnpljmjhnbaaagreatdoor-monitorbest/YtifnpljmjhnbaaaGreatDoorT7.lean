/-
 A part of the proof of the statement that the claim names: see the last file.
-/
import Derived.Test.YtifnpljmjhnbaaaGreatDoorT5
namespace Go.Proofs.YtifnpljmjhnbaaaGreatDoor
open Go Go.Am
set_option maxRecDepth 100000
variable {w0 : World}
noncomputable section
def l71 (l : List (Tup evK)) (p : List (Tup paK)) (a b : TLi) : Int := firstZ [whenZ ((a.length : Int) != l.length) 2,whenZ ((b.length : Int) != p.length) 2]
def wi1 (x : Tup intK) : Int := withinZ (i1 x) 0 1000
def tW : TLi → Option D → Option D
 | [],k => k
 | x :: xs,k => bif wi1 x != 0 then some (I (wi1 x)) else tW xs k
def t71 (l : List (Tup evK)) (p : List (Tup paK)) (a b : TLi) : Option D :=
 bif l71 l p a b != 0 then some (I (l71 l p a b)) else tW a (tW b (some (I 0)))
end
end Go.Proofs.YtifnpljmjhnbaaaGreatDoor
namespace Go.Proofs.YtifnpljmjhnbaaaGreatDoor
open Go Go.Am
set_option maxRecDepth 100000
variable {w0 : World}
noncomputable section
end
end Go.Proofs.YtifnpljmjhnbaaaGreatDoor
