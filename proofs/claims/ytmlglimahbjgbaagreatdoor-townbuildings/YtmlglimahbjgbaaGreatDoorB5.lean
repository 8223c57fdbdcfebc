/-
  A part of the proof of the statement that the claim names: see the last file.
-/
import Derived.Test.YtmlglimahbjgbaaGreatDoorB4
namespace Go.Proofs.YtmlglimahbjgbaaGreatDoor
open Go Go.Am Go.Town
set_option maxRecDepth 100000
variable {w0 : World}
noncomputable section


def flatB : List Bd → List D
  | [] => []
  | b :: bs => Str b.nm :: .vec ptK b.cs :: I b.h :: I b.e :: flatB bs
def slD (bs : List Bd) : D := .sl bs.length 4 (flatB bs)
def nilD : D := .val (.slice none 0 0)

def asBsL : List D → Option (List Bd)
  | [] => some []
  | .val (.string nm) :: .vec ks l :: .val (.int .i64 h) :: .val (.int .i64 e) :: r => match recast ks ptK l, asBsL r with
    | some cs, some bs => some (⟨nm, cs, h, e⟩ :: bs)
    | _, _ => none
  | _ => none

theorem asBsL_eq : ∀ {ds : List D} {bs : List Bd}, asBsL ds = some bs → ds = flatB bs
  | [], bs, h => by cases h; rfl
  | d :: ds, bs, h => by
    unfold asBsL at h
    split at h
    · rename_i e; cases e
    · rename_i nm ks l hh e r heq
      cases heq
      split at h
      · rename_i cs bs' hr hr'
        cases h
        obtain ⟨e, rfl⟩ := recast_eq hr
        subst e
        rw [asBsL_eq hr']
        rfl
      · cases h
    · cases h

def asBs (d : D) : Option (List Bd) :=
  match d with
  | .val (.slice none 0 0) => some []
  | .emp 4 => some []
  | .sl n sz cs => match Nat.beq sz 4, asBsL cs with
    | true, some bs => match Nat.beq bs.length n && Nat.blt 0 n with
      | true => some bs
      | false => none
    | _, _ => none
  | _ => none

theorem asBs_eq {d : D} {bs : List Bd} (h : asBs d = some bs) : (bs = [] ∧ (d = nilD ∨ d = .emp 4)) ∨ (bs ≠ [] ∧ d = slD bs) := by
  unfold asBs at h
  split at h
  · cases h; exact .inl ⟨rfl, .inl rfl⟩
  · cases h; exact .inl ⟨rfl, .inr rfl⟩
  · rename_i n sz cs
    split at h
    · rename_i bs' hb hc
      split at h
      · rename_i hn
        simp only [Bool.and_eq_true, Nat.beq_eq, Nat.blt_eq] at hn hb
        cases h
        obtain ⟨rfl, hp⟩ := hn
        refine .inr ⟨fun e => by subst e; simp at hp, ?_⟩
        rw [asBsL_eq hc, hb]
        rfl
      · cases h
    · cases h
  · cases h

def bsC (g : Nat) (F : List Bd → FT D) : Ct := ct g [.x] fun a => match asBs a.1 with
  | some bs => F bs
  | none => .bad

theorem gd_bs {g : Nat} {F : List Bd → FT D} (h1 : ∀ d, (F []).run = some d → FnD (cfg w0) g [nilD] d) (h2 : ∀ d, (F []).run = some d → FnD (cfg w0) g [.emp 4] d)
    (h : ∀ bs, bs ≠ [] → ∀ d, (F bs).run = some d → FnD (cfg w0) g [slD bs] d) : Gd (cfg w0) (bsC g F) := gd_sig fun a d hd => by
  obtain ⟨x, u⟩ := a
  simp only at hd
  cases hb : asBs x with
  | none => rw [hb] at hd; cases hd
  | some bs =>
    rw [hb] at hd
    rcases asBs_eq hb with ⟨rfl, rfl | rfl⟩ | ⟨hne, rfl⟩
    · exact h1 d hd
    · exact h2 d hd
    · exact h bs hne d hd

def cs69 : List Ct := [checkBC 70]
def cs75 : List Ct := [checkBC 137, ⟨119, tG whenF⟩, firstC 98]
def cs135 : List Ct := [c136]

def okS (b : Bd) : Bool := decide ((b.cs.length : Int) ≤ 9) && decide ((b.nm.size : Int) ≤ 40)
def T61 : List Bd → Option D
  | [] => some (Bo true)
  | b :: bs => bif decide ((b.cs.length : Int) ≤ 9) then bif !decide ((b.nm.size : Int) ≤ 40) then some (Bo false) else T61 bs else some (Bo false)
def roomP (l : List (Tup ptK)) : Bool := Nat.ble (([] ++ l).length * 16) 1000000000000 && Nat.ble ([] ++ l).length 1000000000000
def outB : List Bd → D
  | [] => nilD
  | b :: bs => slD (b :: bs)
def G64 (k : Option D) : List Bd → Option D
  | [] => k
  | b :: bs => bif roomP b.cs then G64 k bs else none
def T64 (bs : List Bd) : Option D := G64 (some (outB bs)) bs
def dup69 (k : Option D) (b : Bd) : List Bd → Option D
  | [] => k
  | s :: ss => bif s.nm.toList == b.nm.toList then some (I 9) else dup69 k b ss
def G69 : List Bd → List Bd → Option D
  | _, [] => some (I 0)
  | seen, b :: bs => bif smallB b then bif chkB b != 0 then some (I (chkB b)) else dup69 (G69 (seen ++ [b]) bs) b seen else none
def T69 (bs : List Bd) : Option D := bif Nat.ble 5 bs.length then some (I 5) else G69 [] bs
def dup75 (k : Int → Option D) (b : Bd) : Int → List Bd → Option D
  | _, [] => k (-1)
  | i, s :: ss => bif s.nm.toList == b.nm.toList then k i else dup75 k b (i + 1) ss
def er75 (b : Bd) (i : Int) : Int := firstZ [chkB b, whenZ (decide (i ≥ 0)) 9]
def G75 : List Bd → List Bd → Option D
  | _, [] => some (I 0)
  | seen, b :: bs => dup75 (fun i => bif smallB b then bif er75 b i != 0 then some (I (er75 b i)) else G75 (seen ++ [b]) bs else none) b 0 seen
def T75 (bs : List Bd) : Option D := bif Nat.ble 5 bs.length then some (I 5) else G75 [] bs
def fn136D : D := .fn 136 [] []
def flatV : List (List (Tup wallK)) → List D
  | [] => []
  | l :: ls => .vec wallK l :: flatV ls
def vsD (ls : List (List (Tup wallK))) : D := .sl ls.length 1 (flatV ls)
def outV : List (List (Tup wallK)) → D
  | [] => nilD
  | l :: ls => vsD (l :: ls)
def T135 (all : List Bd) : List Bd → Option D
  | [] => some (outV (all.map edges))
  | b :: bs => bif smallB b then T135 all bs else none


def z0 : Int := W (((0 : Nat) : Int) - ((0 : Nat) : Int))
def gz (n : Int) : Bool := decide (0 < n) && (decide (n ≤ 10000000) && Nat.ble (n.toNat * 64) 1000000000000)
def pan (k : Int → Option D) : Int → List (List (Tup wallK)) → Option D
  | a, [] => k a
  | a, l :: ls => bif decide (W (a + (l.length : Int)) < 0) then none else pan k (W (a + (l.length : Int))) ls
def GG : List (Tup wallK) → Nat → List (List (Tup wallK)) → Option D
  | m, p, [] => some (.vec wallK (List.take p (List.drop 0 m)))
  | m, p, l :: ls => bif Nat.ble (0 + p + l.length) m.length then GG (setAt m (0 + p) l) (p + l.length) ls else none
def roomW (l : List (Tup wallK)) : Bool := Nat.ble (l.length * 64) 1000000000000 && Nat.ble l.length 1000000000000
def EE : List (Tup wallK) → List (List (Tup wallK)) → Option D
  | out, [] => some (.vec wallK out)
  | out, l :: ls => bif roomW (out ++ l) then EE (out ++ l) ls else none
def EE0 : List (List (Tup wallK)) → Option D
  | [] => some nilD
  | l :: ls => bif roomW l then EE l ls else none
def T134 (ls : List (List (Tup wallK))) : Option D :=
  pan (fun S => bif decide (S < 0) then none else bif decide (W (S - z0) > 0) then bif gz (W (S - z0)) then GG (List.replicate (W (S - z0)).toNat (dfl wallK)) 0 ls else none else EE0 ls) 0 ls

theorem run61_n  : bodyK ((cfg w0).at []) 60 (fnOf Tryz.f61) [nilD] = T61 [] := by kernel_rfl
theorem run61_e  : bodyK ((cfg w0).at []) 60 (fnOf Tryz.f61) [(.emp 4)] = T61 [] := by kernel_rfl
theorem run61_1 (b1 : Bd) : bodyK ((cfg w0).at []) 60 (fnOf Tryz.f61) [(slD [b1])] = T61 [b1] := by kernel_rfl
theorem run61_2 (b1 b2 : Bd) : bodyK ((cfg w0).at []) 60 (fnOf Tryz.f61) [(slD [b1, b2])] = T61 [b1, b2] := by kernel_rfl
theorem run61_3 (b1 b2 b3 : Bd) : bodyK ((cfg w0).at []) 60 (fnOf Tryz.f61) [(slD [b1, b2, b3])] = T61 [b1, b2, b3] := by kernel_rfl
theorem run61_4 (b1 b2 b3 b4 : Bd) : bodyK ((cfg w0).at []) 60 (fnOf Tryz.f61) [(slD [b1, b2, b3, b4])] = T61 [b1, b2, b3, b4] := by kernel_rfl
theorem run61_5 (b1 b2 b3 b4 b5 : Bd) : bodyK ((cfg w0).at []) 60 (fnOf Tryz.f61) [(slD [b1, b2, b3, b4, b5])] = T61 [b1, b2, b3, b4, b5] := by kernel_rfl
theorem run64_n  : bodyK ((cfg w0).at []) 60 (fnOf Tryz.f64) [nilD] = T64 [] := by kernel_rfl
theorem run64_e  : bodyK ((cfg w0).at []) 60 (fnOf Tryz.f64) [(.emp 4)] = T64 [] := by kernel_rfl
theorem run64_1 (b1 : Bd) : bodyK ((cfg w0).at []) 60 (fnOf Tryz.f64) [(slD [b1])] = T64 [b1] := by kernel_rfl
theorem run64_2 (b1 b2 : Bd) : bodyK ((cfg w0).at []) 60 (fnOf Tryz.f64) [(slD [b1, b2])] = T64 [b1, b2] := by kernel_rfl
theorem run64_3 (b1 b2 b3 : Bd) : bodyK ((cfg w0).at []) 60 (fnOf Tryz.f64) [(slD [b1, b2, b3])] = T64 [b1, b2, b3] := by kernel_rfl
theorem run64_4 (b1 b2 b3 b4 : Bd) : bodyK ((cfg w0).at []) 60 (fnOf Tryz.f64) [(slD [b1, b2, b3, b4])] = T64 [b1, b2, b3, b4] := by kernel_rfl
theorem run64_5 (b1 b2 b3 b4 b5 : Bd) : bodyK ((cfg w0).at []) 60 (fnOf Tryz.f64) [(slD [b1, b2, b3, b4, b5])] = T64 [b1, b2, b3, b4, b5] := by kernel_rfl
theorem run69_n  : bodyK ((cfg w0).at cs69) 60 (fnOf Tryz.f69) [nilD] = T69 [] := by kernel_rfl
theorem run69_e  : bodyK ((cfg w0).at cs69) 60 (fnOf Tryz.f69) [(.emp 4)] = T69 [] := by kernel_rfl
theorem run69_1 (b1 : Bd) : bodyK ((cfg w0).at cs69) 60 (fnOf Tryz.f69) [(slD [b1])] = T69 [b1] := by kernel_rfl
theorem run69_2 (b1 b2 : Bd) : bodyK ((cfg w0).at cs69) 60 (fnOf Tryz.f69) [(slD [b1, b2])] = T69 [b1, b2] := by kernel_rfl
theorem run69_3 (b1 b2 b3 : Bd) : bodyK ((cfg w0).at cs69) 60 (fnOf Tryz.f69) [(slD [b1, b2, b3])] = T69 [b1, b2, b3] := by kernel_rfl
theorem run69_4 (b1 b2 b3 b4 : Bd) : bodyK ((cfg w0).at cs69) 60 (fnOf Tryz.f69) [(slD [b1, b2, b3, b4])] = T69 [b1, b2, b3, b4] := by kernel_rfl
theorem run69_5 (b1 b2 b3 b4 b5 : Bd) : bodyK ((cfg w0).at cs69) 60 (fnOf Tryz.f69) [(slD [b1, b2, b3, b4, b5])] = T69 [b1, b2, b3, b4, b5] := by kernel_rfl
theorem run75_n  : bodyK ((cfg w0).at cs75) 60 (fnOf Tryz.f75) [nilD] = T75 [] := by kernel_rfl
theorem run75_e  : bodyK ((cfg w0).at cs75) 60 (fnOf Tryz.f75) [(.emp 4)] = T75 [] := by kernel_rfl
theorem run75_1 (b1 : Bd) : bodyK ((cfg w0).at cs75) 60 (fnOf Tryz.f75) [(slD [b1])] = T75 [b1] := by kernel_rfl
theorem run75_2 (b1 b2 : Bd) : bodyK ((cfg w0).at cs75) 60 (fnOf Tryz.f75) [(slD [b1, b2])] = T75 [b1, b2] := by kernel_rfl
theorem run75_3 (b1 b2 b3 : Bd) : bodyK ((cfg w0).at cs75) 60 (fnOf Tryz.f75) [(slD [b1, b2, b3])] = T75 [b1, b2, b3] := by kernel_rfl
theorem run75_4 (b1 b2 b3 b4 : Bd) : bodyK ((cfg w0).at cs75) 60 (fnOf Tryz.f75) [(slD [b1, b2, b3, b4])] = T75 [b1, b2, b3, b4] := by kernel_rfl
theorem run75_5 (b1 b2 b3 b4 b5 : Bd) : bodyK ((cfg w0).at cs75) 60 (fnOf Tryz.f75) [(slD [b1, b2, b3, b4, b5])] = T75 [b1, b2, b3, b4, b5] := by kernel_rfl
theorem run135_n  : bodyK ((cfg w0).at cs135) 60 (fnOf Tryz.f135) [nilD, fn136D] = T135 [] [] := by kernel_rfl
theorem run135_e  : bodyK ((cfg w0).at cs135) 60 (fnOf Tryz.f135) [(.emp 4), fn136D] = T135 [] [] := by kernel_rfl
theorem run135_1 (b1 : Bd) : bodyK ((cfg w0).at cs135) 60 (fnOf Tryz.f135) [(slD [b1]), fn136D] = T135 [b1] [b1] := by kernel_rfl
theorem run135_2 (b1 b2 : Bd) : bodyK ((cfg w0).at cs135) 60 (fnOf Tryz.f135) [(slD [b1, b2]), fn136D] = T135 [b1, b2] [b1, b2] := by kernel_rfl
theorem run135_3 (b1 b2 b3 : Bd) : bodyK ((cfg w0).at cs135) 60 (fnOf Tryz.f135) [(slD [b1, b2, b3]), fn136D] = T135 [b1, b2, b3] [b1, b2, b3] := by kernel_rfl
theorem run135_4 (b1 b2 b3 b4 : Bd) : bodyK ((cfg w0).at cs135) 60 (fnOf Tryz.f135) [(slD [b1, b2, b3, b4]), fn136D] = T135 [b1, b2, b3, b4] [b1, b2, b3, b4] := by kernel_rfl
theorem run134_1 (m : List (Tup wallK)) (x : Tup wallK) : bodyK (((cfg w0).onI [175]).at []) 60 (fnOf Tryz.f134) [vsD [x :: m]] = T134 [x :: m] := by kernel_rfl
theorem run134_2 (l1 m : List (Tup wallK)) (x : Tup wallK) : bodyK (((cfg w0).onI [175]).at []) 60 (fnOf Tryz.f134) [vsD [l1, x :: m]] = T134 [l1, x :: m] := by kernel_rfl
theorem run134_3 (l1 l2 m : List (Tup wallK)) (x : Tup wallK) : bodyK (((cfg w0).onI [175]).at []) 60 (fnOf Tryz.f134) [vsD [l1, l2, x :: m]] = T134 [l1, l2, x :: m] := by kernel_rfl
theorem run134_4 (l1 l2 l3 m : List (Tup wallK)) (x : Tup wallK) : bodyK (((cfg w0).onI [175]).at []) 60 (fnOf Tryz.f134) [vsD [l1, l2, l3, x :: m]] = T134 [l1, l2, l3, x :: m] := by kernel_rfl
theorem run134_n : bodyK (((cfg w0).onI [175]).at []) 60 (fnOf Tryz.f134) [nilD] = some nilD := by kernel_rfl

end
end Go.Proofs.YtmlglimahbjgbaaGreatDoor
