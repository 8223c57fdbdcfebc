/-
 A part of the proof of the statement that the claim names: see the last file.
-/
import Derived.Test.YthcpfignhalffaaGreatDoorP1
namespace Go.Proofs.YthcpfignhalffaaGreatDoor
open Go Go.Am
set_option maxRecDepth 100000
variable {w0 : World}
noncomputable section
def gsC : List Gr → List D
 | [] => []
 | g :: gs => I g.w :: I g.h :: .vec intK g.l :: gsC gs
def slG (gs : List Gr) : D := .sl gs.length 3 (gsC gs)
def asGsL : List D → Option (List Gr)
 | [] => some []
 | .val (.int .i64 w) :: .val (.int .i64 h) :: .vec ks l :: r => match recast ks intK l, asGsL r with
   | some l, some gs => some (⟨w, h, l⟩ :: gs)
   | _, _ => none
 | _ => none
theorem asGsL_eq : ∀ {ds : List D} {gs : List Gr}, asGsL ds = some gs → ds = gsC gs
 | [], gs, h => by cases h; rfl
 | d :: ds, gs, h => by
   unfold asGsL at h
   split at h
   ·rename_i e; cases e
   ·rename_i w hh ks l r heq
    cases heq
    split at h
    ·rename_i l' gs' hr hr'
     cases h
     obtain ⟨e, rfl⟩ := recast_eq hr
     subst e
     rw [asGsL_eq hr']
     rfl
    ·cases h
   ·cases h
def asGs (d : D) : Option (List Gr) :=
 match d with
 | .val (.slice none 0 0) => some []
 | .emp 3 => some []
 | .sl n sz cs => match Nat.beq sz 3, asGsL cs with
   | true, some gs => match Nat.beq gs.length n && Nat.blt 0 n with
     | true => some gs
     | false => none
   | _, _ => none
 | _ => none
theorem asGs_eq {d : D} {gs : List Gr} (h : asGs d = some gs) : (gs = [] ∧ (d = nilD ∨ d = .emp 3)) ∨ (gs ≠ [] ∧ d = slG gs) := by
 unfold asGs at h
 split at h
 ·cases h; exact .inl ⟨rfl, .inl rfl⟩
 ·cases h; exact .inl ⟨rfl, .inr rfl⟩
 ·rename_i n sz cs
  split at h
  ·rename_i gs' hb hc
   split at h
   ·rename_i hn
    simp only [Bool.and_eq_true, Nat.beq_eq, Nat.blt_eq] at hn hb
    cases h
    obtain ⟨rfl, hp⟩ := hn
    refine .inr ⟨fun e => by subst e; simp at hp, ?_⟩
    rw [asGsL_eq hc, hb]
    rfl
   ·cases h
  ·cases h
 ·cases h
def gsK (g : Nat) (ss : List Sh) (F : List Gr → ArgT ss → FT D) : Ct := ct g (.x :: ss) fun a => match asGs a.1 with
 | some l => F l a.2
 | none => .bad
theorem gd_gs {g : Nat} {ss : List Sh} {F : List Gr → ArgT ss → FT D} (h1 : ∀ a d, (F [] a).run = some d → FnD (cfg w0) g (nilD :: toShs ss a) d) (h2 : ∀ a d, (F [] a).run = some d → FnD (cfg w0) g (.emp 3 :: toShs ss a) d)
  (h : ∀ gs, gs ≠ [] → ∀ a d, (F gs a).run = some d → FnD (cfg w0) g (slG gs :: toShs ss a) d) : Gd (cfg w0) (gsK g ss F) := gd_sig fun a d hd => by
 obtain ⟨x, a⟩ := a
 simp only at hd
 cases hb : asGs x with
 | none => rw [hb] at hd; cases hd
 | some gs =>
   rw [hb] at hd
   rcases asGs_eq hb with ⟨rfl, rfl | rfl⟩ | ⟨hne, rfl⟩
   ·exact h1 a d hd
   ·exact h2 a d hd
   ·exact h gs hne a d hd
def len4 (gs : List Gr) : Bool := match gs with
 | [] | [_] | [_, _] | [_, _, _] | [_, _, _, _] => true
 | _ => false
theorem four {gs : List Gr} (h : len4 gs = true) (hne : gs ≠ []) : (∃ a, gs = [a]) ∨ (∃ a b, gs = [a, b]) ∨ (∃ a b c, gs = [a, b, c]) ∨ ∃ a b c d, gs = [a, b, c, d] := by
 match gs, hne, h with
 | [a], _, _ => exact .inl ⟨a, rfl⟩
 | [a, b], _, _ => exact .inr (.inl ⟨a, b, rfl⟩)
 | [a, b, c], _, _ => exact .inr (.inr (.inl ⟨a, b, c, rfl⟩))
 | [a, b, c, d], _, _ => exact .inr (.inr (.inr ⟨a, b, c, d, rfl⟩))
 | _ :: _ :: _ :: _ :: _ :: _, _, h => cases h
theorem gd_run4 (h0 : Lib0 w0) {cs : List Ct} (hcs : Gds (cfg w0) cs) {g : Nat} {fd : AFn} (hfd : fnTr.get g = some fd) {ss : List Sh} {F : List Gr → ArgT ss → FT D} {T : List Gr → ArgT ss → Option D}
  (hF : ∀ gs a d, (F gs a).run = some d → len4 gs = true ∧ T gs a = some d)
  (rn : ∀ x, bodyK ((cfg w0).at cs) 60 fd (nilD :: toShs ss x) = T [] x) (re : ∀ x, bodyK ((cfg w0).at cs) 60 fd (.emp 3 :: toShs ss x) = T [] x)
  (r1 : ∀ a x, bodyK ((cfg w0).at cs) 60 fd (slG [a] :: toShs ss x) = T [a] x) (r2 : ∀ a b x, bodyK ((cfg w0).at cs) 60 fd (slG [a, b] :: toShs ss x) = T [a, b] x)
  (r3 : ∀ a b c x, bodyK ((cfg w0).at cs) 60 fd (slG [a, b, c] :: toShs ss x) = T [a, b, c] x) (r4 : ∀ a b c d x, bodyK ((cfg w0).at cs) 60 fd (slG [a, b, c, d] :: toShs ss x) = T [a, b, c, d] x) : Gd (cfg w0) (gsK g ss F) := by
 have go := fun {ds : List D} {d : D} (h : bodyK ((cfg w0).at cs) 60 fd ds = some d) => fnD_k (cfg_ok w0) h0 hcs (g := g) hfd h
 refine gd_gs (fun x d hd => go ((rn x).trans (hF _ _ _ hd).2)) (fun x d hd => go ((re x).trans (hF _ _ _ hd).2)) fun gs hne x d hd => ?_
 obtain ⟨h4, hT⟩ := hF _ _ _ hd
 rcases four h4 hne with ⟨a, rfl⟩ | ⟨a, b, rfl⟩ | ⟨a, b, c, rfl⟩ | ⟨a, b, c, e, rfl⟩
 ·exact go ((r1 a x).trans hT)
 ·exact go ((r2 a b x).trans hT)
 ·exact go ((r3 a b c x).trans hT)
 ·exact go ((r4 a b c e x).trans hT)
def smGs (gs : List Gr) : Bool := gs.all smG
end
end Go.Proofs.YthcpfignhalffaaGreatDoor
namespace Go.Proofs.YthcpfignhalffaaGreatDoor
open Go Go.Am
set_option maxRecDepth 100000
variable {w0 : World}
noncomputable section
def T42 : List Gr → Option D
 | [] => some (Bo true)
 | g :: gs => bif !few g then some (Bo false) else T42 gs
def outG : List Gr → D
 | [] => nilD
 | g :: gs => slG (g :: gs)
def G44 (k : Option D) : List Gr → Option D
 | [] => k
 | g :: gs => bif smG g then G44 k gs else none
def T44 (gs : List Gr) : Option D := G44 (some (outG gs)) gs
def errG (a b : Gr) : Int := firstZ [chkG b, whenZ (!sizeB b a) 2]
def errR (a b : Gr) : Int := firstZ [chkG b, whenZ (!sizeB a b) 2]
def chkGs (gs : List Gr) : Int := match gs with
 | [] => 12
 | g :: r => bif Nat.blt 16 (g :: r).length then 5 else firstZ ((g :: r).map (errG g))
def T127 (gs : List Gr) : Option D := match gs with
 | [] => some (I 12)
 | g :: r => bif Nat.blt 16 (g :: r).length then some (I 5) else G44 (some (I (firstZ ((g :: r).map (errG g))))) (g :: r)
def G48 (a : Gr) : List Gr → Option D
 | [] => some (I 0)
 | g :: gs => bif smG g then bif errR a g != 0 then some (I (errR a g)) else G48 a gs else none
def T48 (gs : List Gr) : Option D := match gs with
 | [] => some (I 12)
 | g :: r => bif Nat.blt 16 (g :: r).length then some (I 5) else G48 g (g :: r)
def inK (g : Gr) (i : Int) : Bool := Nat.beq 1 1 && (decide (0 ≤ i) && decide (i < g.l.length))
def G131 (i : Int) : Int → List Gr → Option D
 | s, [] => some (I s)
 | s, g :: gs => bif inK g i then G131 i (W (s + i1 (nth g.l i.toNat))) gs else none
def T131 (gs : List Gr) (i : Int) : Option D := match gs with
 | [] => some (I 0)
 | gs => G131 i 0 gs
def cs127 : List Ct := [chkC 73, whenC 132, firstC 99]
def cs48 : List Ct := [chkC 20, whenC 49, firstC 109, c61]
theorem run42_n  : bodyK ((cfg w0).at []) 60 (fnOf Tryz.f42) [nilD] = T42 [] := by kernel_rfl
theorem run42_e  : bodyK ((cfg w0).at []) 60 (fnOf Tryz.f42) [(.emp 3)] = T42 [] := by kernel_rfl
theorem run42_1 (g1 : Gr) : bodyK ((cfg w0).at []) 60 (fnOf Tryz.f42) [(slG [g1])] = T42 [g1] := by kernel_rfl
theorem run42_2 (g1 g2 : Gr) : bodyK ((cfg w0).at []) 60 (fnOf Tryz.f42) [(slG [g1, g2])] = T42 [g1, g2] := by kernel_rfl
theorem run42_3 (g1 g2 g3 : Gr) : bodyK ((cfg w0).at []) 60 (fnOf Tryz.f42) [(slG [g1, g2, g3])] = T42 [g1, g2, g3] := by kernel_rfl
theorem run42_4 (g1 g2 g3 g4 : Gr) : bodyK ((cfg w0).at []) 60 (fnOf Tryz.f42) [(slG [g1, g2, g3, g4])] = T42 [g1, g2, g3, g4] := by kernel_rfl
theorem run42_17 (g1 g2 g3 g4 g5 g6 g7 g8 g9 g10 g11 g12 g13 g14 g15 g16 g17 : Gr) : bodyK ((cfg w0).at []) 60 (fnOf Tryz.f42) [(slG [g1, g2, g3, g4, g5, g6, g7, g8, g9, g10, g11, g12, g13, g14, g15, g16, g17])] = T42 [g1, g2, g3, g4, g5, g6, g7, g8, g9, g10, g11, g12, g13, g14, g15, g16, g17] := by kernel_rfl
theorem run44_n  : bodyK ((cfg w0).at [ownC 16]) 60 (fnOf Tryz.f44) [nilD] = T44 [] := by kernel_rfl
theorem run44_e  : bodyK ((cfg w0).at [ownC 16]) 60 (fnOf Tryz.f44) [(.emp 3)] = T44 [] := by kernel_rfl
theorem run44_1 (g1 : Gr) : bodyK ((cfg w0).at [ownC 16]) 60 (fnOf Tryz.f44) [(slG [g1])] = T44 [g1] := by kernel_rfl
theorem run44_2 (g1 g2 : Gr) : bodyK ((cfg w0).at [ownC 16]) 60 (fnOf Tryz.f44) [(slG [g1, g2])] = T44 [g1, g2] := by kernel_rfl
theorem run44_3 (g1 g2 g3 : Gr) : bodyK ((cfg w0).at [ownC 16]) 60 (fnOf Tryz.f44) [(slG [g1, g2, g3])] = T44 [g1, g2, g3] := by kernel_rfl
theorem run44_4 (g1 g2 g3 g4 : Gr) : bodyK ((cfg w0).at [ownC 16]) 60 (fnOf Tryz.f44) [(slG [g1, g2, g3, g4])] = T44 [g1, g2, g3, g4] := by kernel_rfl
theorem run44_17 (g1 g2 g3 g4 g5 g6 g7 g8 g9 g10 g11 g12 g13 g14 g15 g16 g17 : Gr) : bodyK ((cfg w0).at [ownC 16]) 60 (fnOf Tryz.f44) [(slG [g1, g2, g3, g4, g5, g6, g7, g8, g9, g10, g11, g12, g13, g14, g15, g16, g17])] = T44 [g1, g2, g3, g4, g5, g6, g7, g8, g9, g10, g11, g12, g13, g14, g15, g16, g17] := by kernel_rfl
theorem run127_n  : bodyK ((cfg w0).at cs127) 60 (fnOf Tryz.f127) [nilD] = T127 [] := by kernel_rfl
theorem run127_e  : bodyK ((cfg w0).at cs127) 60 (fnOf Tryz.f127) [(.emp 3)] = T127 [] := by kernel_rfl
theorem run127_1 (g1 : Gr) : bodyK ((cfg w0).at cs127) 60 (fnOf Tryz.f127) [(slG [g1])] = T127 [g1] := by kernel_rfl
theorem run127_2 (g1 g2 : Gr) : bodyK ((cfg w0).at cs127) 60 (fnOf Tryz.f127) [(slG [g1, g2])] = T127 [g1, g2] := by kernel_rfl
theorem run127_3 (g1 g2 g3 : Gr) : bodyK ((cfg w0).at cs127) 60 (fnOf Tryz.f127) [(slG [g1, g2, g3])] = T127 [g1, g2, g3] := by kernel_rfl
theorem run127_4 (g1 g2 g3 g4 : Gr) : bodyK ((cfg w0).at cs127) 60 (fnOf Tryz.f127) [(slG [g1, g2, g3, g4])] = T127 [g1, g2, g3, g4] := by kernel_rfl
theorem run127_17 (g1 g2 g3 g4 g5 g6 g7 g8 g9 g10 g11 g12 g13 g14 g15 g16 g17 : Gr) : bodyK ((cfg w0).at cs127) 60 (fnOf Tryz.f127) [(slG [g1, g2, g3, g4, g5, g6, g7, g8, g9, g10, g11, g12, g13, g14, g15, g16, g17])] = T127 [g1, g2, g3, g4, g5, g6, g7, g8, g9, g10, g11, g12, g13, g14, g15, g16, g17] := by kernel_rfl
theorem run48_n  : bodyK ((cfg w0).at cs48) 60 (fnOf Tryz.f48) [nilD] = T48 [] := by kernel_rfl
theorem run48_e  : bodyK ((cfg w0).at cs48) 60 (fnOf Tryz.f48) [(.emp 3)] = T48 [] := by kernel_rfl
theorem run48_1 (g1 : Gr) : bodyK ((cfg w0).at cs48) 60 (fnOf Tryz.f48) [(slG [g1])] = T48 [g1] := by kernel_rfl
theorem run48_2 (g1 g2 : Gr) : bodyK ((cfg w0).at cs48) 60 (fnOf Tryz.f48) [(slG [g1, g2])] = T48 [g1, g2] := by kernel_rfl
theorem run48_3 (g1 g2 g3 : Gr) : bodyK ((cfg w0).at cs48) 60 (fnOf Tryz.f48) [(slG [g1, g2, g3])] = T48 [g1, g2, g3] := by kernel_rfl
theorem run48_4 (g1 g2 g3 g4 : Gr) : bodyK ((cfg w0).at cs48) 60 (fnOf Tryz.f48) [(slG [g1, g2, g3, g4])] = T48 [g1, g2, g3, g4] := by kernel_rfl
theorem run48_17 (g1 g2 g3 g4 g5 g6 g7 g8 g9 g10 g11 g12 g13 g14 g15 g16 g17 : Gr) : bodyK ((cfg w0).at cs48) 60 (fnOf Tryz.f48) [(slG [g1, g2, g3, g4, g5, g6, g7, g8, g9, g10, g11, g12, g13, g14, g15, g16, g17])] = T48 [g1, g2, g3, g4, g5, g6, g7, g8, g9, g10, g11, g12, g13, g14, g15, g16, g17] := by kernel_rfl
theorem run131_n  (i : Int) : bodyK ((cfg w0).at []) 60 (fnOf Tryz.f131) [nilD, I i] = T131 [] i := by kernel_rfl
theorem run131_e  (i : Int) : bodyK ((cfg w0).at []) 60 (fnOf Tryz.f131) [(.emp 3), I i] = T131 [] i := by kernel_rfl
theorem run131_1 (g1 : Gr) (i : Int) : bodyK ((cfg w0).at []) 60 (fnOf Tryz.f131) [(slG [g1]), I i] = T131 [g1] i := by kernel_rfl
theorem run131_2 (g1 g2 : Gr) (i : Int) : bodyK ((cfg w0).at []) 60 (fnOf Tryz.f131) [(slG [g1, g2]), I i] = T131 [g1, g2] i := by kernel_rfl
theorem run131_3 (g1 g2 g3 : Gr) (i : Int) : bodyK ((cfg w0).at []) 60 (fnOf Tryz.f131) [(slG [g1, g2, g3]), I i] = T131 [g1, g2, g3] i := by kernel_rfl
theorem run131_4 (g1 g2 g3 g4 : Gr) (i : Int) : bodyK ((cfg w0).at []) 60 (fnOf Tryz.f131) [(slG [g1, g2, g3, g4]), I i] = T131 [g1, g2, g3, g4] i := by kernel_rfl
end
end Go.Proofs.YthcpfignhalffaaGreatDoor
namespace Go.Proofs.YthcpfignhalffaaGreatDoor
open Go Go.Am
set_option maxRecDepth 100000
variable {w0 : World}
noncomputable section
theorem seventeen {gs : List Gr} (h : gs.length = 17) : ∃ g1 g2 g3 g4 g5 g6 g7 g8 g9 g10 g11 g12 g13 g14 g15 g16 g17 : Gr, gs = [g1, g2, g3, g4, g5, g6, g7, g8, g9, g10, g11, g12, g13, g14, g15, g16, g17] := by
 match gs, h with
 | [g1, g2, g3, g4, g5, g6, g7, g8, g9, g10, g11, g12, g13, g14, g15, g16, g17], _ => exact ⟨g1, g2, g3, g4, g5, g6, g7, g8, g9, g10, g11, g12, g13, g14, g15, g16, g17, rfl⟩
def len17 (gs : List Gr) : Bool := len4 gs || Nat.beq gs.length 17
theorem gd_run17 (h0 : Lib0 w0) {cs : List Ct} (hcs : Gds (cfg w0) cs) {g : Nat} {fd : AFn} (hfd : fnTr.get g = some fd) {ss : List Sh} {F : List Gr → ArgT ss → FT D} {T : List Gr → ArgT ss → Option D}
  (hF : ∀ gs a d, (F gs a).run = some d → len17 gs = true ∧ T gs a = some d)
  (rn : ∀ x, bodyK ((cfg w0).at cs) 60 fd (nilD :: toShs ss x) = T [] x) (re : ∀ x, bodyK ((cfg w0).at cs) 60 fd (.emp 3 :: toShs ss x) = T [] x)
  (r1 : ∀ a x, bodyK ((cfg w0).at cs) 60 fd (slG [a] :: toShs ss x) = T [a] x) (r2 : ∀ a b x, bodyK ((cfg w0).at cs) 60 fd (slG [a, b] :: toShs ss x) = T [a, b] x)
  (r3 : ∀ a b c x, bodyK ((cfg w0).at cs) 60 fd (slG [a, b, c] :: toShs ss x) = T [a, b, c] x) (r4 : ∀ a b c d x, bodyK ((cfg w0).at cs) 60 fd (slG [a, b, c, d] :: toShs ss x) = T [a, b, c, d] x)
  (r17 : ∀ gs, gs.length = 17 → ∀ x, bodyK ((cfg w0).at cs) 60 fd (slG gs :: toShs ss x) = T gs x) : Gd (cfg w0) (gsK g ss F) := by
 have go := fun {ds : List D} {d : D} (h : bodyK ((cfg w0).at cs) 60 fd ds = some d) => fnD_k (cfg_ok w0) h0 hcs (g := g) hfd h
 refine gd_gs (fun x d hd => go ((rn x).trans (hF _ _ _ hd).2)) (fun x d hd => go ((re x).trans (hF _ _ _ hd).2)) fun gs hne x d hd => ?_
 obtain ⟨h4, hT⟩ := hF _ _ _ hd
 unfold len17 at h4
 rw [Bool.or_eq_true] at h4
 rcases h4 with h4 | h4
 ·rcases four h4 hne with ⟨a, rfl⟩ | ⟨a, b, rfl⟩ | ⟨a, b, c, rfl⟩ | ⟨a, b, c, e, rfl⟩
  ·exact go ((r1 a x).trans hT)
  ·exact go ((r2 a b x).trans hT)
  ·exact go ((r3 a b c x).trans hT)
  ·exact go ((r4 a b c e x).trans hT)
 ·exact go ((r17 gs (Nat.eq_of_beq_eq_true h4) x).trans hT)
theorem T42_eq : ∀ gs : List Gr, T42 gs = some (Bo (gs.all few))
 | [] => rfl
 | g :: gs => by
   unfold T42
   rw [T42_eq gs, List.all_cons]
   cases few g <;> rfl
def c42 : Ct := gsK 42 [] fun gs _ => .br (len17 gs) (.leaf (Bo (gs.all few))) .bad
theorem gd42 (h0 : Lib0 w0) : Gd (cfg w0) c42 := gd_run17 h0 (cs := []) trivial (fd := fnOf Tryz.f42) rfl (ss := []) (T := fun gs _ => T42 gs)
 (fun gs a d hd => by obtain ⟨hg, hd⟩ := br_run hd; cases hd; exact ⟨hg, T42_eq gs⟩)
 (fun _ => run42_n) (fun _ => run42_e) (fun a _ => run42_1 a) (fun a b _ => run42_2 a b) (fun a b c _ => run42_3 a b c) (fun a b c d _ => run42_4 a b c d)
 (fun gs h _ => by obtain ⟨g1, g2, g3, g4, g5, g6, g7, g8, g9, g10, g11, g12, g13, g14, g15, g16, g17, rfl⟩ := seventeen h; exact run42_17 ..)
theorem G44_eq (k : Option D) : ∀ {gs : List Gr}, smGs gs = true → G44 k gs = k
 | [], _ => rfl
 | g :: gs, h => by
   unfold smGs at h
   rw [List.all_cons, Bool.and_eq_true] at h
   unfold G44
   rw [h.1, G44_eq k (gs := gs) h.2]; rfl
def c44 : Ct := gsK 44 [] fun gs _ => .br (len17 gs && smGs gs) (.leaf (outG gs)) .bad
theorem gd44 (h0 : Lib0 w0) : Gd (cfg w0) c44 := gd_run17 h0 (cs := [ownC 16]) ⟨gd16 h0, trivial⟩ (fd := fnOf Tryz.f44) rfl (ss := []) (T := fun gs _ => T44 gs)
 (fun gs a d hd => by
  obtain ⟨hg, hd⟩ := br_run hd
  cases hd
  rw [Bool.and_eq_true] at hg
  exact ⟨hg.1, G44_eq _ hg.2⟩)
 (fun _ => run44_n) (fun _ => run44_e) (fun a _ => run44_1 a) (fun a b _ => run44_2 a b) (fun a b c _ => run44_3 a b c) (fun a b c d _ => run44_4 a b c d)
 (fun gs h _ => by obtain ⟨g1, g2, g3, g4, g5, g6, g7, g8, g9, g10, g11, g12, g13, g14, g15, g16, g17, rfl⟩ := seventeen h; exact run44_17 ..)
theorem cs127_gd (h0 : Lib0 w0) : Gds (cfg w0) cs127 := ⟨gd73 h0, gd132 h0, gd99 h0, trivial⟩
theorem cs48_gd (h0 : Lib0 w0) : Gds (cfg w0) cs48 := ⟨gd20 h0, gd49 h0, gd109 h0, gd61 h0, trivial⟩
def chkGsC (g : Nat) : Ct := gsK g [] fun gs _ => .br (len17 gs && smGs gs) (.leaf (I (chkGs gs))) .bad
theorem T127_eq {gs : List Gr} (h : smGs gs = true) : T127 gs = some (I (chkGs gs)) := by
 cases gs with
 | nil => rfl
 | cons g r =>
   show (bif Nat.blt 16 (g :: r).length then some (I 5) else G44 (some (I (firstZ ((g :: r).map (errG g))))) (g :: r)) = some (I (bif Nat.blt 16 (g :: r).length then 5 else firstZ ((g :: r).map (errG g))))
   rw [G44_eq _ h]
   generalize Nat.blt 16 (g :: r).length = b
   cases b <;> rfl
theorem gd127 (h0 : Lib0 w0) : Gd (cfg w0) (chkGsC 127) := gd_run17 h0 (cs127_gd h0) (fd := fnOf Tryz.f127) rfl (ss := []) (T := fun gs _ => T127 gs)
 (fun gs a d hd => by
  obtain ⟨hg, hd⟩ := br_run hd
  cases hd
  rw [Bool.and_eq_true] at hg
  exact ⟨hg.1, T127_eq hg.2⟩)
 (fun _ => run127_n) (fun _ => run127_e) (fun a _ => run127_1 a) (fun a b _ => run127_2 a b) (fun a b c _ => run127_3 a b c) (fun a b c d _ => run127_4 a b c d)
 (fun gs h _ => by obtain ⟨g1, g2, g3, g4, g5, g6, g7, g8, g9, g10, g11, g12, g13, g14, g15, g16, g17, rfl⟩ := seventeen h; exact run127_17 ..)
theorem sizeB_comm (a b : Gr) : sizeB a b = sizeB b a := by
 unfold sizeB
 rw [Bool.eq_iff_iff]
 simp only [Bool.and_true, Bool.and_eq_true, beq_iff_eq]
 exact ⟨fun h => ⟨h.1.symm, h.2.symm⟩, fun h => ⟨h.1.symm, h.2.symm⟩⟩
theorem err_eq (a b : Gr) : errG a b = errR a b := by unfold errG errR; rw [sizeB_comm]
theorem G48_eq (a : Gr) : ∀ {gs : List Gr}, smGs gs = true → G48 a gs = some (I (firstZ (gs.map (errG a))))
 | [], _ => rfl
 | g :: gs, h => by
   unfold smGs at h
   rw [List.all_cons, Bool.and_eq_true] at h
   show (bif smG g then bif errR a g != 0 then some (I (errR a g)) else G48 a gs else none) = some (I (bif errG a g != 0 then errG a g else firstZ (gs.map (errG a))))
   rw [h.1, G48_eq a (gs := gs) h.2, ← err_eq]
   generalize (errG a g != 0) = b
   cases b <;> rfl
theorem T48_eq {gs : List Gr} (h : smGs gs = true) : T48 gs = some (I (chkGs gs)) := by
 cases gs with
 | nil => rfl
 | cons g r =>
   show (bif Nat.blt 16 (g :: r).length then some (I 5) else G48 g (g :: r)) = some (I (bif Nat.blt 16 (g :: r).length then 5 else firstZ ((g :: r).map (errG g))))
   rw [G48_eq g h]
   generalize Nat.blt 16 (g :: r).length = b
   cases b <;> rfl
theorem gd48 (h0 : Lib0 w0) : Gd (cfg w0) (chkGsC 48) := gd_run17 h0 (cs48_gd h0) (fd := fnOf Tryz.f48) rfl (ss := []) (T := fun gs _ => T48 gs)
 (fun gs a d hd => by
  obtain ⟨hg, hd⟩ := br_run hd
  cases hd
  rw [Bool.and_eq_true] at hg
  exact ⟨hg.1, T48_eq hg.2⟩)
 (fun _ => run48_n) (fun _ => run48_e) (fun a _ => run48_1 a) (fun a b _ => run48_2 a b) (fun a b c _ => run48_3 a b c) (fun a b c d _ => run48_4 a b c d)
 (fun gs h _ => by obtain ⟨g1, g2, g3, g4, g5, g6, g7, g8, g9, g10, g11, g12, g13, g14, g15, g16, g17, rfl⟩ := seventeen h; exact run48_17 ..)
def sumZ (i : Nat) : Int → List Gr → Int
 | s, [] => s
 | s, g :: gs => sumZ i (W (s + i1 (nth g.l i))) gs
def sumI (gs : List Gr) (i : Nat) : Int := sumZ i 0 gs
def inAll (gs : List Gr) (i : Int) : Bool := gs.all fun g => inK g i
theorem G131_eq (i : Int) : ∀ {gs : List Gr} (s : Int), inAll gs i = true → G131 i s gs = some (I (sumZ i.toNat s gs))
 | [], _, _ => rfl
 | g :: gs, s, h => by
   unfold inAll at h
   rw [List.all_cons, Bool.and_eq_true] at h
   unfold G131 sumZ
   rw [h.1, G131_eq i (gs := gs) _ h.2]; rfl
def c131 : Ct := gsK 131 [.c ik] fun gs a => .br (len4 gs && inAll gs a.1) (.leaf (I (sumI gs (show Int from a.1).toNat))) .bad
theorem gd131 (h0 : Lib0 w0) : Gd (cfg w0) c131 := gd_run4 h0 (cs := []) trivial (fd := fnOf Tryz.f131) rfl (ss := [.c ik]) (T := fun gs a => T131 gs a.1)
 (fun gs a d hd => by
  obtain ⟨hg, hd⟩ := br_run hd
  cases hd
  rw [Bool.and_eq_true] at hg
  refine ⟨hg.1, ?_⟩
  cases gs with
  | nil => rfl
  | cons g r => exact G131_eq _ _ hg.2)
 (fun x => run131_n x.1) (fun x => run131_e x.1) (fun a x => run131_1 a x.1) (fun a b x => run131_2 a b x.1) (fun a b c x => run131_3 a b c x.1) (fun a b c d x => run131_4 a b c d x.1)
end
end Go.Proofs.YthcpfignhalffaaGreatDoor
