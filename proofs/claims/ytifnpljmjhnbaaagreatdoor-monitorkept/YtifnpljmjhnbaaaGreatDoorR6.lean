/-
  A part of the proof of the statement that the claim names: see the last file.
-/
import Derived.Test.YtifnpljmjhnbaaaGreatDoorR5
import Derived.Test.YtifnpljmjhnbaaaGreatDoorM6
namespace Go.Proofs.YtifnpljmjhnbaaaGreatDoor
open Go Go.Am
set_option maxRecDepth 100000
variable {w0 : World}
noncomputable section


def Gs : Nat → TL → Option D → Option D
  | 0, _, k => k
  | n + 1, r, k => bif sm r then Gs n r k else none
theorem Gs_ok {r : TL} (h : sm r = true) : ∀ (n : Nat) (k : Option D), Gs n r k = k
  | 0, _ => rfl
  | n + 1, k => by unfold Gs; rw [h]; exact Gs_ok h n k
def bf (b : Bool) (k : Option D) : Option D := bif b then k else some (Bo false)
def chain4 (r : TL) (c cr : LE) (g bg : Int × Int) (t tt : T4) : Option D :=
  bf (chkR r == chkR r) (bif Nat.ble c.1.length 100000 then bf (sameV c.1 cr.1) (bf (c.2 == cr.2) (bf (g.1 == bg.1) (bf (g.2 == bg.2) (bf (t.1 == tt.1) (bf (t.2.1 == tt.2.1) (bf (t.2.2.1 == tt.2.2.1) (bf (t.2.2.2 == tt.2.2.2) (some (Bo true))))))))) else none)
def k4 (r : TL) (a b pc : Int) (cr : LE) (bg : Int × Int) (tt : T4) : Option D := Gs 2 r (chain4 r (cor25 r a b) cr (bg27 r pc) bg (tot28 r) tt)
def k3 (r : TL) (a b pc : Int) (cr : LE) (bg : Int × Int) : Option D := bif chkR r == 0 then Gs 1 r (k4 r a b pc cr bg (totR r)) else k4 r a b pc cr bg (0, 0, 0, chkR r)
def k2 (r : TL) (a b pc : Int) (cr : LE) : Option D := bif e27 r pc == 0 then Gs 1 r (k3 r a b pc cr (bg32 r pc)) else k3 r a b pc cr (0, e27 r pc)
def law4 (r : TL) (a b pc : Int) : Option D := bif !(shortB r) then some (Bo true) else
  Gs 7 r (bif e25 r a b == 0 then Gs 1 r (k2 r a b pc (cor31 r a b)) else k2 r a b pc ([], e25 r a b))
def cs4 : List Ct := c23 :: c24 :: c26 :: c25 :: c27 :: c28 :: c29 :: c31 :: c32 :: c33 :: c34 :: c35 :: baseE
theorem run4 (r : TL) (a b pc : Int) : bodyK ((cfg w0).at cs4) 40 (fnOf Tryz.f4) [.vec intK r, .agg [I a, I b], I pc] = law4 r a b pc := by kernel_rfl

end
end Go.Proofs.YtifnpljmjhnbaaaGreatDoor
