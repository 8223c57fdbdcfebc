/-
 A part of the proof of the statement that the claim names: see the last file.
-/
import Derived.Test.YthcpfignhalffaaGreatDoorP8
import Derived.Test.YthcpfignhalffaaGreatDoorP9
import Derived.Test.YthcpfignhalffaaGreatDoorPa
import Derived.Test.YthcpfignhalffaaGreatDoorPb
import Derived.Test.YthcpfignhalffaaGreatDoorPf
import Derived.Test.YthcpfignhalffaaGreatDoorPg
import Derived.Test.YthcpfignhalffaaGreatDoorPh
namespace Go.Proofs.YthcpfignhalffaaGreatDoor
open Go Go.Am
set_option maxRecDepth 100000
variable {w0 : World}
theorem rnd12_1_1 (g1 : Gr) (A : Gr) (th bk : List (Tup intK)) (es : Lv) (sh : List (Tup ptK)) (lo : List (Tup intK)) (i part : Int) : rndD (((cfg w0).at [c14]).di) 60 [] 60 (fnOf Tryz.f6).ntmps rg12 (lpB 12 (fnOf Tryz.f6).body) (sg12 [g1] A th bk es sh lo i false (((1 : Nat) : Int), part)) =
  r12T [g1] A sh lo i ((1 : Nat) : Int) (some ([], .ret, sg12 [g1] A th bk es sh lo i false (((1 : Nat) : Int), part))) (some ([], .normal, sg12 [g1] A th bk es sh lo i false (IntKind.i64.wrap (((1 : Nat) : Int) + 1), IntKind.i64.wrap (part + prt A sh i ((1 : Nat) : Int))))) (some ([], .exit 12, sg12 [g1] A th bk es sh lo i false (((1 : Nat) : Int), part))) := by kernel_rfl
theorem rnd12_2_2 (g1 g2 : Gr) (A : Gr) (th bk : List (Tup intK)) (es : Lv) (sh : List (Tup ptK)) (lo : List (Tup intK)) (i part : Int) : rndD (((cfg w0).at [c14]).di) 60 [] 60 (fnOf Tryz.f6).ntmps rg12 (lpB 12 (fnOf Tryz.f6).body) (sg12 [g1, g2] A th bk es sh lo i false (((2 : Nat) : Int), part)) =
  r12T [g1, g2] A sh lo i ((2 : Nat) : Int) (some ([], .ret, sg12 [g1, g2] A th bk es sh lo i false (((2 : Nat) : Int), part))) (some ([], .normal, sg12 [g1, g2] A th bk es sh lo i false (IntKind.i64.wrap (((2 : Nat) : Int) + 1), IntKind.i64.wrap (part + prt A sh i ((2 : Nat) : Int))))) (some ([], .exit 12, sg12 [g1, g2] A th bk es sh lo i false (((2 : Nat) : Int), part))) := by kernel_rfl
theorem rnd12_3_3 (g1 g2 g3 : Gr) (A : Gr) (th bk : List (Tup intK)) (es : Lv) (sh : List (Tup ptK)) (lo : List (Tup intK)) (i part : Int) : rndD (((cfg w0).at [c14]).di) 60 [] 60 (fnOf Tryz.f6).ntmps rg12 (lpB 12 (fnOf Tryz.f6).body) (sg12 [g1, g2, g3] A th bk es sh lo i false (((3 : Nat) : Int), part)) =
  r12T [g1, g2, g3] A sh lo i ((3 : Nat) : Int) (some ([], .ret, sg12 [g1, g2, g3] A th bk es sh lo i false (((3 : Nat) : Int), part))) (some ([], .normal, sg12 [g1, g2, g3] A th bk es sh lo i false (IntKind.i64.wrap (((3 : Nat) : Int) + 1), IntKind.i64.wrap (part + prt A sh i ((3 : Nat) : Int))))) (some ([], .exit 12, sg12 [g1, g2, g3] A th bk es sh lo i false (((3 : Nat) : Int), part))) := by kernel_rfl
theorem rnd12_4_4 (g1 g2 g3 g4 : Gr) (A : Gr) (th bk : List (Tup intK)) (es : Lv) (sh : List (Tup ptK)) (lo : List (Tup intK)) (i part : Int) : rndD (((cfg w0).at [c14]).di) 60 [] 60 (fnOf Tryz.f6).ntmps rg12 (lpB 12 (fnOf Tryz.f6).body) (sg12 [g1, g2, g3, g4] A th bk es sh lo i false (((4 : Nat) : Int), part)) =
  r12T [g1, g2, g3, g4] A sh lo i ((4 : Nat) : Int) (some ([], .ret, sg12 [g1, g2, g3, g4] A th bk es sh lo i false (((4 : Nat) : Int), part))) (some ([], .normal, sg12 [g1, g2, g3, g4] A th bk es sh lo i false (IntKind.i64.wrap (((4 : Nat) : Int) + 1), IntKind.i64.wrap (part + prt A sh i ((4 : Nat) : Int))))) (some ([], .exit 12, sg12 [g1, g2, g3, g4] A th bk es sh lo i false (((4 : Nat) : Int), part))) := by kernel_rfl
theorem rnd12 {gs : List Gr} (h4 : len4 gs = true) (hne : gs ≠ []) {k : Nat} (hk : k ≤ gs.length) (A : Gr) (th bk : List (Tup intK)) (es : Lv) (sh : List (Tup ptK)) (lo : List (Tup intK)) (i part : Int) : rndD (((cfg w0).at [c14]).di) 60 [] 60 (fnOf Tryz.f6).ntmps rg12 (lpB 12 (fnOf Tryz.f6).body) (sg12 gs A th bk es sh lo i false ((k : Int), part)) =
  r12T gs A sh lo i (k : Int) (some ([], .ret, sg12 gs A th bk es sh lo i false ((k : Int), part))) (some ([], .normal, sg12 gs A th bk es sh lo i false (IntKind.i64.wrap ((k : Int) + 1), IntKind.i64.wrap (part + prt A sh i (k : Int))))) (some ([], .exit 12, sg12 gs A th bk es sh lo i false ((k : Int), part))) := by
 rcases four h4 hne with ⟨g1, rfl⟩ | ⟨g1, g2, rfl⟩ | ⟨g1, g2, g3, rfl⟩ | ⟨g1, g2, g3, g4, rfl⟩
 ·match k, hk with
  | 0, _ => exact rnd12_1_0 ..
  | 1, _ => exact rnd12_1_1 ..
  | k + 2, h => exact absurd h (by simp only [List.length_cons, List.length_nil]; omega)
 ·match k, hk with
  | 0, _ => exact rnd12_2_0 ..
  | 1, _ => exact rnd12_2_1 ..
  | 2, _ => exact rnd12_2_2 ..
  | k + 3, h => exact absurd h (by simp only [List.length_cons, List.length_nil]; omega)
 ·match k, hk with
  | 0, _ => exact rnd12_3_0 ..
  | 1, _ => exact rnd12_3_1 ..
  | 2, _ => exact rnd12_3_2 ..
  | 3, _ => exact rnd12_3_3 ..
  | k + 4, h => exact absurd h (by simp only [List.length_cons, List.length_nil]; omega)
 ·match k, hk with
  | 0, _ => exact rnd12_4_0 ..
  | 1, _ => exact rnd12_4_1 ..
  | 2, _ => exact rnd12_4_2 ..
  | 3, _ => exact rnd12_4_3 ..
  | 4, _ => exact rnd12_4_4 ..
  | k + 5, h => exact absurd h (by simp only [List.length_cons, List.length_nil]; omega)
theorem rnd10 {gs : List Gr} (h4 : len4 gs = true) (hne : gs ≠ []) (A : Gr) (th bk lo : List (Tup intK)) (es : Lv) (i : Int) (p : Int × Int) : rn10 w0 gs A th bk lo es i p = t10 gs A th bk lo es i p := by
 rcases four h4 hne with ⟨g1, rfl⟩ | ⟨g1, g2, rfl⟩ | ⟨g1, g2, g3, rfl⟩ | ⟨g1, g2, g3, g4, rfl⟩
 ·exact rnd10_1 ..
 ·exact rnd10_2 ..
 ·exact rnd10_3 ..
 ·exact rnd10_4 ..
theorem rnd6 {gs : List Gr} (h4 : len4 gs = true) (hne : gs ≠ []) (A : Gr) (th bk lo : List (Tup intK)) (gn cl : List (Tup ptK)) (al : Int × Int) (p : Int × (Int × Int)) : rn6 w0 gs A th bk lo gn cl al p = t6 gs A th bk lo gn cl al p := by
 obtain ⟨i, a, b⟩ := p
 rcases four h4 hne with ⟨g1, rfl⟩ | ⟨g1, g2, rfl⟩ | ⟨g1, g2, g3, rfl⟩ | ⟨g1, g2, g3, g4, rfl⟩
 ·exact rnd6_1 ..
 ·exact rnd6_2 ..
 ·exact rnd6_3 ..
 ·exact rnd6_4 ..
end Go.Proofs.YthcpfignhalffaaGreatDoor
