/-
 A part of the proof of the statement that the claim names: see the last file.
-/
import Derived.Test.YtifnpljmjhnbaaaGreatDoorT2
namespace Go.Proofs.YtifnpljmjhnbaaaGreatDoor
open Go Go.Am
set_option maxRecDepth 100000
variable {w0 : World}
noncomputable section
abbrev TLi := List (Tup intK)
def errK (p : List (Tup paK)) (pre : TLi) (k : Int) : Int := firstZ [whenZ (decide (k ≥ p.length)) 10,whenZ (hasK pre k) 9]
def tM (p : List (Tup paK)) : List (TLi × Tup intK) → TLi → Int → Option D
 | [],_,sum => some (tup2' (sum,0))
 | (r,x) :: rs,pre,sum => bif i1 x == -1 then tM p rs (pre ++ [x]) sum else
   bif decide (i1 x < 0) then some (tup2' (0,firstZ [whenZ true 10,whenZ (hasK pre (i1 x)) 9])) else
   bif errK p pre (i1 x) != 0 then some (tup2' (0,errK p pre (i1 x))) else
   bif inO r (i1 x) then bif i1 (nth r (i1 x).toNat) == -1 then some (tup2' (0,21)) else
    bif inO r (i1 x) then tM p rs (pre ++ [x]) (IntKind.i64.wrap (sum + i1 (nth r (i1 x).toNat))) else none
   else none
def z67 (l : List (Tup evK)) (p : List (Tup paK)) (s : Int) (mt : TLi) : Int := firstZ [allZ l p s,whenZ ((mt.length : Int) != l.length) 2]
def prsM (l : List (Tup evK)) (p : List (Tup paK)) (s : Int) (mt : TLi) : List (TLi × Tup intK) := (l.map fun e => vaL e p s).zip mt
def t67 (l : List (Tup evK)) (p : List (Tup paK)) (s : Int) (mt : TLi) : Option D :=
 bif z67 l p s mt != 0 then some (tup2' (0,z67 l p s mt)) else bif smP p then tM p (prsM l p s mt) [] 0 else none
end
end Go.Proofs.YtifnpljmjhnbaaaGreatDoor
