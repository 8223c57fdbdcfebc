/-
 A part of the proof of the statement that the claim names: see the last file.
-/
import Derived.Test.YtifnpljmjhnbaaaGreatDoorB4
namespace Go.Proofs.YtifnpljmjhnbaaaGreatDoor
open Go Go.Am
set_option maxRecDepth 100000
variable {w0:World}
noncomputable section
theorem fr2_01 (h0:Lib0 w0):GdH (cfg w0) (167,frF 2 0 1 (sA 1 1) (sB 1 1)):=stp2 h0 (fr2_2 h0 0) run201A run201B
theorem fr2_00 (h0:Lib0 w0):GdH (cfg w0) (167,frF 2 0 0 (sA 2 0) (sB 2 0)):=stp2 h0 (fr2_01 h0) run200A run200B
theorem fr2_11 (h0:Lib0 w0):GdH (cfg w0) (167,frF 2 1 1 (sA 1 1) (sB 1 1)):=stp2 h0 (fr2_2 h0 1) run211A run211B
theorem fr2_10 (h0:Lib0 w0):GdH (cfg w0) (167,frF 2 1 0 (sA 2 0) (sB 2 0)):=stp2 h0 (fr2_11 h0) run210A run210B
theorem fr2_21 (h0:Lib0 w0):GdH (cfg w0) (167,frF 2 2 1 (sA 1 1) (sB 1 1)):=stp2 h0 (fr2_2 h0 2) run221A run221B
theorem fr2_20 (h0:Lib0 w0):GdH (cfg w0) (167,frF 2 2 0 (sA 2 0) (sB 2 0)):=stp2 h0 (fr2_21 h0) run220A run220B
theorem fr2_31 (h0:Lib0 w0):GdH (cfg w0) (167,frF 2 3 1 (sA 1 1) (sB 1 1)):=stp2 h0 (fr2_2 h0 3) run231A run231B
theorem fr2_30 (h0:Lib0 w0):GdH (cfg w0) (167,frF 2 3 0 (sA 2 0) (sB 2 0)):=stp2 h0 (fr2_31 h0) run230A run230B
theorem fr2_41 (h0:Lib0 w0):GdH (cfg w0) (167,frF 2 4 1 (sA 1 1) (sB 1 1)):=stp2 h0 (fr2_2 h0 4) run241A run241B
theorem fr2_40 (h0:Lib0 w0):GdH (cfg w0) (167,frF 2 4 0 (sA 2 0) (sB 2 0)):=stp2 h0 (fr2_41 h0) run240A run240B
end
end Go.Proofs.YtifnpljmjhnbaaaGreatDoor
