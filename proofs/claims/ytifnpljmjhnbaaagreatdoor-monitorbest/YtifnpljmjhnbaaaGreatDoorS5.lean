/-
 A part of the proof of the statement that the claim names: see the last file.
-/
import Derived.Test.YtifnpljmjhnbaaaGreatDoorS4
import Derived.Test.YtifnpljmjhnbaaaGreatDoorM6
namespace Go.Proofs.YtifnpljmjhnbaaaGreatDoor
open Go Go.Am
set_option maxRecDepth 100000
variable {w0 : World}
noncomputable section
def gE (l : List (Tup evK)) : Bool := Nat.ble l.length 100000
def gP (l : List (Tup paK)) : Bool := Nat.ble l.length 100000
def gW (l : List (Tup paK)) : Bool := Nat.ble l.length 9223372036854775807
def bf (b : Bool) (k : Option D) : Option D := bif b then k else some (Bo false)
abbrev z0 : Int := 0
def z5 : Tup paK := ((⟨#[]⟩ : ByteArray),z0,z0,z0,z0,())
end
end Go.Proofs.YtifnpljmjhnbaaaGreatDoor
