/-
  A part of the proof of the statement that the claim names: see the last file.
-/
import Derived.Test.YtifnpljmjhnbaaaGreatDoorV5
import Derived.Test.YtifnpljmjhnbaaaGreatDoorAm7
namespace Go.Proofs.YtifnpljmjhnbaaaGreatDoor
open Go Go.Am
set_option maxRecDepth 100000
variable {w0 : World}
noncomputable section


abbrev uK : List Kd := [.int .u32]
abbrev hK : List Kd := [.int .u16, .int .u16, .int .u16, .int .u16]
abbrev U16 (n : Int) : D := .val (.int .u16 n)
abbrev UL := List (Tup uK)
abbrev BL := List (Tup [Kd.bool])
def u1 (x : Tup uK) : Int := x.1
def b1 (x : Tup [Kd.bool]) : Bool := x.1
def nD (n : Tup hK) : D := .obox [U16 n.1, U16 n.2.1, U16 n.2.2.1, U16 n.2.2.2.1]
def cs10 : List Ct := [c23, c26, c36, d15, c25]
def rel10a : List (Nat × Cv) := [(47, .id), (48, .id), (49, .id), (5, .ov intK), (3, .id)]
def st10a (l : UL) (n : Tup hK) (a : Int × TL) : List D := [.vec uK l, I l.length, I a.1, .ovec intK a.2, nD n]
structure Kx where
  a : List (Tup evK)
  c : List (Tup evK)
  r : TL
  t : Int
  g : Int
  le : Int
  n : Tup hK
def evO (e : Tup evK) : D := .obox [I e.1, I e.2.1, I e.2.2.1, I e.2.2.2.1, I e.2.2.2.2.1, I e.2.2.2.2.2.1]
def rel10b : List (Nat × Cv) := [(134, .sv evK), (135, .id), (136, .id), (5, .sv intK), (9, .id), (10, .id), (11, .id), (12, .sv evK), (16, .sv evK), (18, .ov [.bool]), (3, .id)]
def st10b (k : Kx) (x : Int × BL) : List D := [.vec evK k.a, I k.a.length, I x.1, .vec intK k.r, I k.t, I k.g, I k.le, .vec evK k.a, .vec evK k.c, .ovec [.bool] x.2, nD k.n]
abbrev S4 := BL × Int × Int × Int
def rel10c : List (Nat × Cv) := [(20, .id), (24, .id), (18, .ov [.bool]), (21, .id), (22, .id), (23, .id), (134, .id), (135, .id), (136, .id), (5, .id), (9, .id), (10, .id), (11, .id), (12, .id), (16, .id), (3, .id)]
def st10c (k : Kx) (i : Int) (e : Tup evK) (x : Int × S4) : List D := [evO e, I x.1, .ovec [.bool] x.2.1, I x.2.2.1, I x.2.2.2.1, I x.2.2.2.2, .vec evK k.a, I k.a.length, I i, .vec intK k.r, I k.t, I k.g, I k.le, .vec evK k.a, .vec evK k.c, nD k.n]
def rel10d : List (Nat × Cv) := [(284, .id), (285, .id), (286, .id), (25, .id), (20, .id), (18, .ov [.bool]), (21, .id), (22, .id), (23, .id), (134, .id), (135, .id), (136, .id), (5, .id), (9, .id), (10, .id), (11, .id), (12, .id), (16, .id), (3, .id)]
def st10d (k : Kx) (i : Int) (e : Tup evK) (y : S4) (x : Int × Bool) : List D := [.vec evK k.c, I k.c.length, I x.1, Bo x.2, evO e, .ovec [.bool] y.1, I y.2.1, I y.2.2.1, I y.2.2.2, .vec evK k.a, I k.a.length, I i, .vec intK k.r, I k.t, I k.g, I k.le, .vec evK k.a, .vec evK k.c, nD k.n]
def rel10e : List (Nat × Cv) := [(315, .id), (316, .id), (317, .id), (5, .id), (9, .id), (18, .ov [.bool]), (3, .id)]
def st10e (k : Kx) (b : BL) (i : Int) : List D := [.vec intK k.r, I k.r.length, I i, .vec intK k.r, I k.t, .ovec [.bool] b, nD k.n]
def rel10f : List (Nat × Cv) := [(378, .sv IvK), (379, .id), (380, .id), (5, .id), (30, .id)]
def st10f (r : TL) (v : List (Tup IvK)) (f : Int) (i : Int) : List D := [.vec IvK v, I v.length, I i, .vec intK r, I f]
end
end Go.Proofs.YtifnpljmjhnbaaaGreatDoor
