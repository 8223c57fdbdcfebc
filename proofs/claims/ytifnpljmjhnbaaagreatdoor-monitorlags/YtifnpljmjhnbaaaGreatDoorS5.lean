/-
  A part of the proof of the statement that the claim names: see the last file.
-/
import Derived.Test.YtifnpljmjhnbaaaGreatDoorS4
import Derived.Test.YtifnpljmjhnbaaaGreatDoorM6
namespace Go.Proofs.YtifnpljmjhnbaaaGreatDoor
open Go Go.Am
set_option maxRecDepth 100000
variable {w0 : World}
noncomputable section


def gE (l : List (Tup evK)) : Bool := Nat.ble l.length 100000
def gP (l : List (Tup paK)) : Bool := Nat.ble l.length 100000
def gW (l : List (Tup paK)) : Bool := Nat.ble l.length 9223372036854775807
def bf (b : Bool) (k : Option D) : Option D := bif b then k else some (Bo false)
def chain7 (l : List (Tup evK)) (p : List (Tup paK)) (a : SE) (b : Int × Int) (bad : Int) (words : List (Tup strK)) (v : Int × Int) : Option D :=
  bif gE l then bf (chkEv l == chkEv l) (bif gP p then bf (chkPa p == chkPa p) (bif Nat.ble a.1.length 100000 then bf (sameW a.1 words) (bf (a.2 == bad) (bf (b.1 == v.1) (bf (b.2 == v.2) (some (Bo true))))) else none) else none) else none
def tail7 (l : List (Tup evK)) (p : List (Tup paK)) (s : Int) (e : Tup evK) (f : Tup paK) : Option D :=
  bif allZ [e] [f] s == 0 then chain7 l p (rea e f s) (val55 e f s) (allZ [e] [f] s) (whyR e f s) (val58 e f s)
  else chain7 l p (rea e f s) (val55 e f s) (allZ [e] [f] s) [] (0, allZ [e] [f] s)
abbrev z0 : Int := 0
def z6 : Tup evK := (z0, z0, z0, z0, z0, z0, ())
def z5 : Tup paK := ((⟨#[]⟩ : ByteArray), z0, z0, z0, z0, ())
def law7 (l : List (Tup evK)) (p : List (Tup paK)) (s : Int) : Option D :=
  bif !(shortE l) then some (Bo true) else bif gW p then bif !(shortP p) then some (Bo true) else
    bif decide ((l.length : Int) > 0) then bif inE l 0 then
      bif decide ((p.length : Int) > 0) then bif inP p 0 then tail7 l p s (nth l 0) (nth p 0) else none else tail7 l p s (nth l 0) z5
    else none else
      bif decide ((p.length : Int) > 0) then bif inP p 0 then tail7 l p s z6 (nth p 0) else none else tail7 l p s z6 z5
  else none
def cs7 : List Ct := [c23, c52, c53, c54, c55, c56, c57, c58, evC 59, c60, evC 61, paC 62, c63, paC 64, c65]
theorem run7 (l : List (Tup evK)) (p : List (Tup paK)) (s : Int) : bodyK ((cfg w0).at cs7) 40 (fnOf Tryz.f7) [.vec evK l, .vec paK p, I s] = law7 l p s := by kernel_rfl
end
end Go.Proofs.YtifnpljmjhnbaaaGreatDoor
