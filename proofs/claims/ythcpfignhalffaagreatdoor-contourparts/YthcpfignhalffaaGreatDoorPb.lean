/-
 A part of the proof of the statement that the claim names: see the last file.
-/
import Derived.Test.YthcpfignhalffaaGreatDoorPa
import Derived.Test.YthcpfignhalffaaGreatDoorP8
namespace Go.Proofs.YthcpfignhalffaaGreatDoor
open Go Go.Am
set_option maxRecDepth 100000
variable {w0 : World}
noncomputable section
end
end Go.Proofs.YthcpfignhalffaaGreatDoor
namespace Go.Proofs.YthcpfignhalffaaGreatDoor
open Go Go.Am
set_option maxRecDepth 100000
variable {w0 : World}
noncomputable section
def ixA (g : Gr) (x y : Int) : Int := W (W (y * g.w) + x)
theorem run65 (g : Gr) : bodyK ((cfg w0).at [chkC 73, mapC 141 124 leE]) 40 (fnOf Tryz.f65) [gD g] =
  bif smG g then bif chkG g != 0 then some (.tup [nilD, I (chkG g)]) else bif smG g then some (.tup [.vec intK (g.l.map leE), I 0]) else none else none := by cases g; kernel_rfl
def lvsX (g : Gr) : List (Tup intK) × Int := bif chkG g != 0 then ([], chkG g) else (g.l.map leE, 0)
theorem fn_nilI {g : FuncId} {ds : List D} {e : Int} (h : FnD (cfg w0) g ds (.tup [nilD, I e])) : FnD (cfg w0) g ds (.tup [.vec intK [], I e]) := FnD.nil_vec (vs := [.int .i64 e]) rfl (by decide) h
def c65 : Ct := gC 65 [] fun g _ => .br (smG g) (.leaf (.tup [.vec intK (lvsX g).1, I (lvsX g).2])) .bad
theorem gd65 (h0 : Lib0 w0) : Gd (cfg w0) c65 := gd_g fun g a d hd => by
 obtain ⟨hg, hd⟩ := br_run hd
 cases hd
 have key := fnD_k (cfg_ok w0) h0 (g := 65) (cs := [chkC 73, mapC 141 124 leE]) ⟨gd73 h0, gd141 h0, trivial⟩ (fd := fnOf Tryz.f65) rfl (n := 40) (ds := [gD g]) (d := bif chkG g != 0 then .tup [nilD, I (chkG g)] else .tup [.vec intK (g.l.map leE), I 0]) ((run65 g).trans (by
  rw [hg]
  cases (chkG g != 0) <;> rfl))
 show FnD (cfg w0) 65 [gD g] (.tup [.vec intK (lvsX g).1, I (lvsX g).2])
 unfold lvsX
 cases hc : (chkG g != 0) with
 | true => rw [hc] at key; exact fn_nilI key
 | false => rw [hc] at key; exact key
theorem run69 (g : Gr) (x y : Int) : bodyK ((cfg w0).at []) 40 (fnOf Tryz.f69) [gD g, .agg [I x, I y]] = bif inO g.l (ixA g x y) then some (I (i1 (nth g.l (ixA g x y).toNat))) else none := by cases g; kernel_rfl
def c69 : Ct := gC 69 [.b ptK] fun g a => .br (inO g.l (ixA g (p1 a.1) (p2 a.1))) (.leaf (I (i1 (nth g.l (ixA g (p1 a.1) (p2 a.1)).toNat)))) .bad
theorem gd69 (h0 : Lib0 w0) : Gd (cfg w0) c69 := gd_g fun g a d hd => by
 obtain ⟨hg, hd⟩ := br_run hd
 cases hd
 obtain ⟨⟨x, y, u⟩, u'⟩ := a
 have hg : inO g.l (ixA g x y) = true := hg
 refine fnD_k (cfg_ok w0) h0 (cs := []) trivial (fd := fnOf Tryz.f69) rfl (n := 40) ((run69 g x y).trans ?_)
 rw [hg]; rfl
end
end Go.Proofs.YthcpfignhalffaaGreatDoor
namespace Go.Proofs.YthcpfignhalffaaGreatDoor
open Go Go.Am
set_option maxRecDepth 100000
variable {w0 : World}
noncomputable section
end
end Go.Proofs.YthcpfignhalffaaGreatDoor
namespace Go.Proofs.YthcpfignhalffaaGreatDoor
open Go Go.Am
set_option maxRecDepth 100000
noncomputable section
def enN (g : Gr) (j : Nat) : Int := i1 (nth g.l j)
def ltI (g : Gr) (i j : Nat) : Prop := enN g j < enN g i ∨ enN g i = enN g j ∧ i < j
instance (g : Gr) (i j : Nat) : Decidable (ltI g i j) := inferInstanceAs (Decidable (_ ∨ _))
end
end Go.Proofs.YthcpfignhalffaaGreatDoor
namespace Go.Proofs.YthcpfignhalffaaGreatDoor
open Go Go.Am
set_option maxRecDepth 100000
variable {w0 : World}
noncomputable section
end
end Go.Proofs.YthcpfignhalffaaGreatDoor
namespace Go.Proofs.YthcpfignhalffaaGreatDoor
open Go Go.Am
set_option maxRecDepth 100000
variable {w0 : World}
noncomputable section
end
end Go.Proofs.YthcpfignhalffaaGreatDoor
