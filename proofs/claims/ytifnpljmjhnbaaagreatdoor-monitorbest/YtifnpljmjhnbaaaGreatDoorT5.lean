/-
 A part of the proof of the statement that the claim names: see the last file.
-/
import Derived.Test.YtifnpljmjhnbaaaGreatDoorT4
import Derived.Test.YtifnpljmjhnbaaaGreatDoorAm5
namespace Go.Proofs.YtifnpljmjhnbaaaGreatDoor
open Go Go.Am
set_option maxRecDepth 100000
variable {w0 : World}
noncomputable section
def exR (e : Tup evK) (q : Tup paK) (s : Int) : Bool := noB (whyR e q s)
theorem exR_eq {e : Tup evK} {q : Tup paK} (h1 : okE e) (h2 : okP q) (s : Int) : exR e q s = expl e q s := by
 unfold exR
 rw [show noB (whyR e q s) = !somB (whyR e q s) by rw [somB_eq,Bool.not_not]]
 unfold whyR
 rw [← dist_ok h1 h2,show whyL (decide (distP e q > s)) (engB e q) = whyP e q s from rfl,somB_why]
 rfl
end
end Go.Proofs.YtifnpljmjhnbaaaGreatDoor
namespace Go.Proofs.YtifnpljmjhnbaaaGreatDoor
open Go Go.Am
set_option maxRecDepth 100000
variable {w0 : World}
noncomputable section
def zs (n : Int) : TLi := List.replicate n.toNat (t1 0)
end
end Go.Proofs.YtifnpljmjhnbaaaGreatDoor
namespace Go.Proofs.YtifnpljmjhnbaaaGreatDoor
open Go Go.Am
set_option maxRecDepth 100000
variable {w0 : World}
noncomputable section
def z68 (l : List (Tup evK)) (p : List (Tup paK)) (s : Int) (a b : TLi) : Int :=
 firstZ [allZ l p s,whenZ ((a.length : Int) != l.length) 2,whenZ ((b.length : Int) != p.length) 2,rgE a 0 1000,rgE b 0 1000]
def tBk (x : Tup intK) : List (Tup intK × Tup intK) → Option D → Option D
 | [],k => k
 | (v,y) :: r,k => bif decide (i1 v > IntKind.i64.wrap (i1 x + i1 y)) then some (tup2' (0,19)) else tBk x r k
def tB : List (Tup intK × TLi) → TLi → Option D → Option D
 | [],_,d => d
 | (x,row) :: rs,b,d => tBk x (row.zip b) (tB rs b d)
def sumW (l : TLi) : Int := l.foldl (fun a x => IntKind.i64.wrap (a + i1 x)) 0
def t68 (l : List (Tup evK)) (p : List (Tup paK)) (s : Int) (a b : TLi) : Option D :=
 bif sm a then bif sm b then bif z68 l p s a b != 0 then some (tup2' (0,z68 l p s a b)) else
  bif smP p then tB (a.zip (l.map fun e => vaL e p s)) b (some (tup2' (sumW (a ++ b),0))) else none else none else none
end
end Go.Proofs.YtifnpljmjhnbaaaGreatDoor
