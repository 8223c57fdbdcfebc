/-
  A part of the proof of the statement that the claim names: see the last file.
-/
import Derived.Test.YtifnpljmjhnbaaaGreatDoorT2
namespace Go.Proofs.YtifnpljmjhnbaaaGreatDoor
open Go Go.Am
set_option maxRecDepth 100000
variable {w0 : World}
noncomputable section


abbrev TLi := List (Tup intK)
def errK (p : List (Tup paK)) (pre : TLi) (k : Int) : Int := firstZ [whenZ (decide (k ≥ p.length)) 10, whenZ (hasK pre k) 9]
def tM (p : List (Tup paK)) : List (TLi × Tup intK) → TLi → Int → Option D
  | [], _, sum => some (tup2' (sum, 0))
  | (r, x) :: rs, pre, sum => bif i1 x == -1 then tM p rs (pre ++ [x]) sum else
      bif decide (i1 x < 0) then some (tup2' (0, firstZ [whenZ true 10, whenZ (hasK pre (i1 x)) 9])) else
      bif errK p pre (i1 x) != 0 then some (tup2' (0, errK p pre (i1 x))) else
      bif inO r (i1 x) then bif i1 (nth r (i1 x).toNat) == -1 then some (tup2' (0, 21)) else
        bif inO r (i1 x) then tM p rs (pre ++ [x]) (IntKind.i64.wrap (sum + i1 (nth r (i1 x).toNat))) else none
      else none
def z67 (l : List (Tup evK)) (p : List (Tup paK)) (s : Int) (mt : TLi) : Int := firstZ [allZ l p s, whenZ ((mt.length : Int) != l.length) 2]
def prsM (l : List (Tup evK)) (p : List (Tup paK)) (s : Int) (mt : TLi) : List (TLi × Tup intK) := (l.map fun e => vaL e p s).zip mt
def t67 (l : List (Tup evK)) (p : List (Tup paK)) (s : Int) (mt : TLi) : Option D :=
  bif z67 l p s mt != 0 then some (tup2' (0, z67 l p s mt)) else bif smP p then tM p (prsM l p s mt) [] 0 else none
theorem run67_0 (p : List (Tup paK)) (s : Int) : bodyK ((cfg w0).at cs67) 60 (fnOf Tryz.f67) [.vec evK [], .vec paK p, I s, .vec intK []] = t67 [] p s [] := by kernel_rfl
theorem run67_1 (a : Tup evK) (p : List (Tup paK)) (s : Int) (x1 : Tup intK) : bodyK ((cfg w0).at cs67) 60 (fnOf Tryz.f67) [.vec evK [a], .vec paK p, I s, .vec intK [x1]] = t67 [a] p s [x1] := by kernel_rfl
theorem run67_2 (a b : Tup evK) (p : List (Tup paK)) (s : Int) (x1 x2 : Tup intK) : bodyK ((cfg w0).at cs67) 60 (fnOf Tryz.f67) [.vec evK [a, b], .vec paK p, I s, .vec intK [x1, x2]] = t67 [a, b] p s [x1, x2] := by kernel_rfl
theorem run67_3 (a b c : Tup evK) (p : List (Tup paK)) (s : Int) (x1 x2 x3 : Tup intK) : bodyK ((cfg w0).at cs67) 60 (fnOf Tryz.f67) [.vec evK [a, b, c], .vec paK p, I s, .vec intK [x1, x2, x3]] = t67 [a, b, c] p s [x1, x2, x3] := by kernel_rfl
theorem run67_4 (a b c d : Tup evK) (p : List (Tup paK)) (s : Int) (x1 x2 x3 x4 : Tup intK) : bodyK ((cfg w0).at cs67) 60 (fnOf Tryz.f67) [.vec evK [a, b, c, d], .vec paK p, I s, .vec intK [x1, x2, x3, x4]] = t67 [a, b, c, d] p s [x1, x2, x3, x4] := by kernel_rfl
theorem run67_x (l : List (Tup evK)) (p : List (Tup paK)) (s : Int) (mt : TLi) : bodyK ((cfg w0).at [c128, cBad, whenC 104, firstC 84]) 60 (fnOf Tryz.f67) [.vec evK l, .vec paK p, I s, .vec intK mt] = bif z67 l p s mt != 0 then some (tup2' (0, z67 l p s mt)) else none := by kernel_rfl
theorem run67 (l : List (Tup evK)) (p : List (Tup paK)) (s : Int) (mt : TLi) (hl : few l = true) (hm : mt.length = l.length) : bodyK ((cfg w0).at cs67) 60 (fnOf Tryz.f67) [.vec evK l, .vec paK p, I s, .vec intK mt] = t67 l p s mt := by
  match l, hl, mt, hm with
  | [], _, [], _ => exact run67_0 p s
  | [a], _, [x], _ => exact run67_1 a p s x
  | [a, b], _, [x, y], _ => exact run67_2 a b p s x y
  | [a, b, c], _, [x, y, z], _ => exact run67_3 a b c p s x y z
  | [a, b, c, d], _, [x, y, z, t], _ => exact run67_4 a b c d p s x y z t
end
end Go.Proofs.YtifnpljmjhnbaaaGreatDoor
