/-
 A part of the proof of the statement that the claim names: see the last file.
-/
import Derived.Test.YthcpfignhalffaaGreatDoorC6
import Derived.Test.YthcpfignhalffaaGreatDoorAm4
namespace Go.Proofs.YthcpfignhalffaaGreatDoor
open Go Go.Am
set_option maxRecDepth 100000
variable {w0 : World}
noncomputable section
def ownC (g : Nat) : Ct := gC g [] fun b _ => .br (smG b) (.leaf (gD b)) .bad
theorem room_own {l : List (Tup intK)} (h : Nat.ble l.length 100000 = true) : (Nat.ble (([] ++ l).length * 8) 1000000000000 && Nat.ble ([] ++ l).length 1000000000000) = true := by
 rw [Nat.ble_eq] at h
 simp only [List.nil_append, Bool.and_eq_true, Nat.ble_eq]
 omega
theorem run90 (g : Gr) : bodyK ((cfg w0).at []) 40 (fnOf Tryz.f90) [gD g] =
  bif (Nat.ble (([] ++ g.l).length * 8) 1000000000000 && Nat.ble ([] ++ g.l).length 1000000000000) then some (.agg [I g.w, I g.h, .vec intK ([] ++ g.l)]) else none := by cases g; kernel_rfl
theorem gd90 (h0 : Lib0 w0) : Gd (cfg w0) (ownC 90) := gd_g fun b a d hd => by
 obtain ⟨hg, hd⟩ := br_run hd
 cases hd
 refine fnD_k (cfg_ok w0) h0 (cs := []) trivial (fd := fnOf Tryz.f90) rfl (n := 40) ((run90 b).trans ?_)
 rw [room_own hg]
 rfl
theorem run16 (g : Gr) : bodyK ((cfg w0).at [ownC 90]) 40 (fnOf Tryz.f16) [gD g] = bif smG g then some (gD g) else none := by cases g; kernel_rfl
theorem gd16 (h0 : Lib0 w0) : Gd (cfg w0) (ownC 16) := gd_g fun b a d hd => by
 obtain ⟨hg, hd⟩ := br_run hd
 cases hd
 refine fnD_k (cfg_ok w0) h0 (cs := [ownC 90]) ⟨gd90 h0, trivial⟩ (fd := fnOf Tryz.f16) rfl (n := 40) ((run16 b).trans ?_)
 rw [hg]; rfl
def g151 (l : List (Tup intK)) : Bool := decide (0 ≤ (l.length : Int)) && (decide ((l.length : Int) = (l.length : Int)) && (decide ((l.length : Int) ≤ 10000000) && (Nat.ble ((l.length : Int).toNat * 1) 10000000 && Nat.ble ((l.length : Int).toNat * 8) 1000000000000)))
def cp151 (l : List (Tup intK)) : List (Tup intK) := setAt (List.replicate (l.length : Int).toNat (t1 0)) 0 (l.take (Nat.min l.length (l.length : Int).toNat))
theorem cp151_eq (l : List (Tup intK)) : cp151 l = l := by
 unfold cp151 setAt
 rw [Int.toNat_natCast, show Nat.min l.length l.length = l.length from Nat.min_self _, List.take_length]
 simp
def loJ (g : Gr) (j : Int) : Int := W (j * g.w)
def rowJ (g : Gr) (j : Int) : List (Tup intK) := (g.l.drop (0 + (loJ g j).toNat)).take ((loJ g (W (j + 1))).toNat - (loJ g j).toNat)
def e80 (a b : Gr) : Int := firstZ [chkG a, chkG b, whenZ (a.h != b.h) 2, whenZ (decide (W (a.w + b.w) > 16)) 4]
def catL (a b : Gr) : List (Tup intK) := (List.range' 0 a.h.toNat).foldl (fun out (j : Nat) => out ++ rowJ a (j : Int) ++ rowJ b (j : Int)) []
end
end Go.Proofs.YthcpfignhalffaaGreatDoor
namespace Go.Proofs.YthcpfignhalffaaGreatDoor
open Go Go.Am
set_option maxRecDepth 100000
variable {w0 : World}
noncomputable section
def ixO (g t : Gr) (x y j : Int) : Int := W (W (W (y + W (j.tdiv t.w)) * g.w) + W (x + j.tmod t.w))
def cflI (g t : Gr) (x y j : Int) : Bool := i1 (nth g.l (ixO g t x y j).toNat) != i1 (nth t.l j.toNat)
def e79 (g t : Gr) (x y : Int) : Int := firstZ [chkG g, chkG t, whenZ (!hasB g x y) 10]
def anyO (g t : Gr) (x y : Int) : Bool := (List.range' 0 t.l.length).any fun (j : Nat) => cflI g t x y j
end
end Go.Proofs.YthcpfignhalffaaGreatDoor
namespace Go.Proofs.YthcpfignhalffaaGreatDoor
open Go Go.Am
set_option maxRecDepth 100000
variable {w0 : World}
noncomputable section
theorem giveOK_nil_agg {G : Gl} {GB : Nat} {w w' : World} {ks : List Kd} (hf : flatK ks = true) (hs : 0 < ks.length) {a b e : Value} (ha : scal a = true) (hb : scal b = true) (he : scal e = true) {u : Value} (h : GiveOK G GB w w' (.tup [.agg [.val a, .val b, .val (.slice none 0 0)], .val e]) u) : GiveOK G GB w w' (.tup [.agg [.val a, .val b, .vec ks []], .val e]) u := fun r0 h0 H0 => by
 obtain ⟨r1, S, H, v⟩ := h r0 h0 H0
 simp only [imp, imps] at S H v ⊢
 obtain ⟨a1, a2, _⟩ := H.nothing hf hs [] rfl true
 refine ⟨_, S.trans a2, a1, ?_⟩
 obtain ⟨us, rfl, hus⟩ : ∃ us : List Value, u = .tuple us.toArray ∧ VRs r1 [.agg #[a, b, .slice none 0 0], e] us := by
  cases v
  ·rename_i hh; simp [Am.scal] at hh
  ·rename_i xs' hx hh; exact ⟨xs'.toList, by simp, VRs.of_arr hx hh⟩
 refine VRs.tup ?_
 obtain ⟨u0, u1, rfl⟩ : ∃ u0 u1, us = [u0, u1] := by
  have := hus.1
  match us, this with
  | [x, y], _ => exact ⟨x, y, rfl⟩
 obtain ⟨y0, e0, v0⟩ := hus.2 0 _ rfl
 obtain ⟨y1, e1, v1⟩ := hus.2 1 _ rfl
 simp only [List.getElem?_cons_zero, List.getElem?_cons_succ, Option.some.injEq] at e0 e1
 subst e0 e1
 have := v1.scal_eq he
 subst this
 obtain ⟨zs, hz, hzs⟩ : ∃ zs : List Value, u0 = Value.agg zs.toArray ∧ VRs r1 [a, b, .slice none 0 0] zs := by
  cases v0
  ·exact ⟨[a, b, .slice none 0 0], rfl, rfl, fun j x hj => ⟨x, hj, by
    match j, hj with
    | 0, hj => cases hj; exact .scal _ ha
    | 1, hj => cases hj; exact .scal _ hb
    | 2, hj => cases hj; exact .scal _ rfl⟩⟩
  ·rename_i xs' hx hh; exact ⟨xs'.toList, by simp, VRs.of_arr hx hh⟩
 subst hz
 obtain ⟨z0, z1, z2, rfl⟩ : ∃ z0 z1 z2, zs = [z0, z1, z2] := by
  have := hzs.1
  match zs, this with
  | [x, y, z], _ => exact ⟨x, y, z, rfl⟩
 obtain ⟨x0, f0, k0⟩ := hzs.2 0 _ rfl
 obtain ⟨x1, f1, k1⟩ := hzs.2 1 _ rfl
 obtain ⟨x2, f2, k2⟩ := hzs.2 2 _ rfl
 simp only [List.getElem?_cons_zero, List.getElem?_cons_succ, Option.some.injEq] at f0 f1 f2
 subst f0 f1 f2
 have := k0.scal_eq ha
 subst this
 have := k1.scal_eq hb
 subst this
 have := k2.scal_eq rfl
 subst this
 refine VRs.cons (.agg _ _ rfl fun j h1 h2 => ?_) (VRs.cons (.scal _ he) (VRs.nil _))
 match j, h1 with
 | 0, _ => exact .scal _ ha
 | 1, _ => exact .scal _ hb
 | 2, _ => exact VR.asl (K0 + h0.length) 0 ks.length _ (.slice none 0 0) (Ren.put_self ..) (by omega) ⟨rfl, hs, by simp, .inl ⟨rfl, .inl rfl⟩⟩
def g0 : Gr := ⟨0, 0, []⟩
theorem fnD_nilG {g : FuncId} {ds : List D} {e : Int} (h : FnD (cfg w0) g ds (.tup [nilG, I e])) : FnD (cfg w0) g ds (.tup [gD g0, I e]) := fun w args hb hi =>
 (h w args hb hi).mono fun _ _ ⟨u, a, b⟩ => ⟨u, a, giveOK_nil_agg (ks := intK) rfl (by decide) rfl rfl rfl b⟩
def grE (p : Gr × Int) : D := .tup [gD p.1, I p.2]
def difX (a b : Gr) : List (Tup intK) := bif e62 a b != 0 then [] else difP a b
def lawDif : Ct := g2C 62 [] fun a b _ => .br (smG a && smG b) (.leaf (.tup [.vec intK (difX a b), I (e62 a b)])) .bad
theorem gdDif (h0 : Lib0 w0) : Gd (cfg w0) lawDif := gd_g2 fun a b y d hd => by
 obtain ⟨hg, hd⟩ := br_run hd
 cases hd
 rw [Bool.and_eq_true] at hg
 have h := fn62 h0 a b hg.1 hg.2
 unfold difX
 cases he : (e62 a b != 0) with
 | true =>
   rw [he] at h
   exact FnD.nil_vec (vs := [.int .i64 (e62 a b)]) (ks := intK) rfl (by decide) h
 | false =>
   rw [he] at h
   rw [show e62 a b = 0 by simpa using he]
   exact h
def tileG (g : Gr) (b : Bx) : Gr := ⟨W (b.c1 - b.c0), W (b.r1 - b.r0), tileL g b⟩
def joinG (a b : Gr) : Gr := ⟨W (a.w + b.w), a.h, catL a b⟩
def joinX (a b : Gr) : Gr × Int := bif e80 a b != 0 then (g0, e80 a b) else (joinG a b, 0)
def ovX (g t : Gr) (x y : Int) : Gr × Int :=
 bif decide (t.w > W (g.w - x)) then (g0, 14) else bif decide (t.h > W (g.h - y)) then (g0, 14) else bif anyO g t x y then (g0, 24) else (g, 0)
def overX (g t : Gr) (x y : Int) : Gr × Int := bif e79 g t x y != 0 then (g0, e79 g t x y) else ovX g t x y
def listB (have_ : List (Tup intK)) (e bad : Int) (want : List (Tup intK)) : Bool := sameI have_ (bif bad != 0 then [] else want) && (e == bad)
end
end Go.Proofs.YthcpfignhalffaaGreatDoor
