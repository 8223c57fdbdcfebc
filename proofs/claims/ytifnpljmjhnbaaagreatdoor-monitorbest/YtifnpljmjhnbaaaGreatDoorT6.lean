/-
 A part of the proof of the statement that the claim names: see the last file.
-/
import Derived.Test.YtifnpljmjhnbaaaGreatDoorT5
namespace Go.Proofs.YtifnpljmjhnbaaaGreatDoor
open Go Go.Am
set_option maxRecDepth 100000
variable {w0 : World}
noncomputable section
def fewP (l : List (Tup paK)) : Bool := match l with
 | _ :: _ :: _ :: _ :: _ :: _ => false
 | _ => true
end
end Go.Proofs.YtifnpljmjhnbaaaGreatDoor
