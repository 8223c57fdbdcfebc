/-
  A part of the proof of the statement that the claim names: see the last file.
-/
import Derived.Test.YtmlglimahbjgbaaGreatDoorL2
import Derived.Test.YtmlglimahbjgbaaGreatDoorAm4
namespace Go.Proofs.YtmlglimahbjgbaaGreatDoor
open Go Go.Am Go.Town
set_option maxRecDepth 100000
variable {w0 : World}
noncomputable section

/-! # The reference's mirrors -/

/-! ## Image -/

noncomputable def valI (w : Tup wallK) (s : Tup v3K) : Bool := wChk w == 0 && (pChk s == 0 && evW w)
noncomputable def j1W (w : Tup wallK) (s : Tup v3K) : Tup v3K := t3 (W (W (2 * aX w) - pX s)) (pY s) (pZ s)
noncomputable def j2W (w : Tup wallK) (s : Tup v3K) : Tup v3K := t3 (pX s) (W (W (2 * aY w) - pY s)) (pZ s)
noncomputable def j3W (w : Tup wallK) (s : Tup v3K) : Tup v3K := t3 (W (pY s - W (aY w - aX w))) (W (pX s + W (aY w - aX w))) (pZ s)
noncomputable def j4W (w : Tup wallK) (s : Tup v3K) : Tup v3K := t3 (W (W (aX w + aY w) - pY s)) (W (W (aX w + aY w) - pX s)) (pZ s)

theorem fn56 (h0 : Lib0 w0) (w : Tup wallK) (s : Tup v3K) (h : valI w s = true) : FnD (cfg w0) 56 [wD w, vec3 s] (vec3 (imW w s)) :=
  fnD_k (cfg_ok w0) h0 (cs := []) trivial (fd := fnOf Tryz.f56) rfl (n := 40) ((show bodyK ((cfg w0).at []) 40 (fnOf Tryz.f56) [wD w, vec3 s] =
    bif x0 w then some (vec3 (j1W w s)) else bif y0 w then some (vec3 (j2W w s)) else bif xy w then some (vec3 (j3W w s)) else some (vec3 (j4W w s)) by kernel_rfl).trans (by
      unfold valI at h
      simp only [Bool.and_eq_true, beq_iff_eq] at h
      obtain ⟨hw, hs, _⟩ := h
      have S := w_small hw
      have P := p_small hs
      have a1 := S.a1
      have a2 := S.a2
      have p1 := P.x
      have p2 := P.y
      have e3 : j3W w s = i3W w s := by
        unfold j3W i3W
        rw [W_in (n := aY w - aX w) (by omega) (by omega), W_in (n := pY s - (aY w - aX w)) (by omega) (by omega), W_in (n := pX s + (aY w - aX w)) (by omega) (by omega), W_in (n := aX w + pY s) (by omega) (by omega), W_in (n := aX w + pY s - aY w) (by omega) (by omega), W_in (n := aY w + pX s) (by omega) (by omega), W_in (n := aY w + pX s - aX w) (by omega) (by omega)]
        congr 1 <;> omega
      have e4 : j4W w s = i4W w s := by
        unfold j4W i4W
        rw [W_in (n := aX w + aY w) (by omega) (by omega), W_in (n := aX w + aY w - pY s) (by omega) (by omega), W_in (n := aX w + aY w - pX s) (by omega) (by omega), W_in (n := pY s - aY w) (by omega) (by omega), W_in (n := pX s - aX w) (by omega) (by omega), W_in (n := aX w - (pY s - aY w)) (by omega) (by omega), W_in (n := aY w - (pX s - aX w)) (by omega) (by omega)]
        congr 1 <;> omega
      rw [imW_eq, e3, e4]
      show _ = some (vec3 (bif x0 w then j1W w s else bif y0 w then j2W w s else bif xy w then i3W w s else i4W w s))
      cases x0 w <;> cases y0 w <;> cases xy w <;> rfl))
noncomputable def c56 : Ct := ct 56 [.b wallK, .b v3K] fun a => .br (valI a.1 a.2.1) (.leaf (vec3 (imW a.1 a.2.1))) .bad
theorem gd56 (h0 : Lib0 w0) : Gd (cfg w0) c56 := gd_sig fun a d hd => by
  obtain ⟨hg, hd⟩ := br_run hd
  cases hd
  exact fn56 h0 a.1 a.2.1 hg

/-! ## cut -/

noncomputable def sdP (o : Tup wallK) (p : Tup plK) : Int := sideZ (aX o) (aY o) (bX o) (bY o) (lX p) (lY p) (lD p)
noncomputable def bpA (s : Tup v3K) (p : Tup plK) (o : Tup wallK) : Int := besideZ (pX s) (pY s) (lX p) (lY p) (lD p) (aX o) (aY o)
noncomputable def bpB (s : Tup v3K) (p : Tup plK) (o : Tup wallK) : Int := besideZ (pX s) (pY s) (lX p) (lY p) (lD p) (bX o) (bY o)
noncomputable def vec4 (p : Tup plK) : D := .agg [I p.1, I p.2.1, I p.2.2.1, I p.2.2.2.1]
noncomputable def cN (o : Tup wallK) (s : Tup v3K) (p : Tup plK) : Int := W (W (W (sgnZ (sdP o p) * sdP o p) * pZ s) + W (W (sgnZ (sdW o s) * sdW o s) * lZ p))
noncomputable def cD (o : Tup wallK) (s : Tup v3K) (p : Tup plK) : Int := W (W (W (sgnZ (sdW o s) * sdW o s) * lD p) + W (sgnZ (sdP o p) * sdP o p))
noncomputable def cX1 (o : Tup wallK) (s : Tup v3K) (p : Tup plK) : Bool := W (sgnZ (sdW o s) * sgnZ (sdP o p)) != -1
noncomputable def cX2 (o : Tup wallK) (s : Tup v3K) (p : Tup plK) : Bool := !decide (W (sgnZ (bpA s p o) * sgnZ (bpB s p o)) ≤ 0)
noncomputable def cIs (o : Tup wallK) (s : Tup v3K) (p : Tup plK) : Bool := decide (cN o s p < W (hW o * cD o s p))
noncomputable def mtW (o : Tup wallK) (s : Tup v3K) (p : Tup plK) : Bool := meetsZ (sdW o s) (sdP o p) (bpA s p o) (bpB s p o)
noncomputable def smP (p : Tup plK) : Bool :=
  (decide (-32000000000 ≤ lX p) && decide (lX p ≤ 32000000000)) && ((decide (-32000000000 ≤ lY p) && decide (lY p ≤ 32000000000)) && ((decide (0 ≤ lZ p) && decide (lZ p ≤ 16000000000)) && (decide (0 ≤ lD p) && decide (lD p ≤ 16000000))))
noncomputable def valC (o : Tup wallK) (s : Tup v3K) (p : Tup plK) : Bool := wChk o == 0 && (pChk s == 0 && smP p)
noncomputable def cutO (o : Tup wallK) (s : Tup v3K) (p : Tup plK) : D := .tup [Bo (exW o s p), I (bif mtW o s p then cN o s p else 0), I (bif mtW o s p then cD o s p else 0)]
noncomputable def cs112 : List Ct := [⟨110, tG (intsF sgnK)⟩]

theorem fn112 (h0 : Lib0 w0) (o : Tup wallK) (s : Tup v3K) (p : Tup plK) (h : valC o s p = true) : FnD (cfg w0) 112 [wD o, vec3 s, vec4 p] (cutO o s p) :=
  fnD_k (cfg_ok w0) h0 (cs := cs112) ⟨gd_of (sgn_good h0), trivial⟩ (fd := fnOf Tryz.f112) rfl (n := 60) ((show bodyK ((cfg w0).at cs112) 60 (fnOf Tryz.f112) [wD o, vec3 s, vec4 p] =
    bif cX1 o s p then some (.tup [Bo false, I 0, I 0]) else bif cX2 o s p then some (.tup [Bo false, I 0, I 0]) else some (.tup [Bo (cIs o s p), I (cN o s p), I (cD o s p)]) by kernel_rfl).trans (by
      unfold valC smP at h
      simp only [Bool.and_eq_true, beq_iff_eq, decide_eq_true_eq] at h
      obtain ⟨hw, hs, hX, hY, hZ, hD⟩ := h
      have S := w_small hw
      have P := p_small hs
      obtain ⟨_, s1, s2⟩ := sd_eq S P
      obtain ⟨q1, q2⟩ := side_big S.a1 S.a2 S.b1 S.b2 hX hY hD
      have hc : cIs o s p = decide (numZ (sdW o s) (sdP o p) (hW o) (pZ s) (lZ p) (lD p) > 0) := xcut ⟨s1, s2⟩ ⟨q1, q2⟩ hD S.hh P.z hZ
      have hx : (cX1 o s p || cX2 o s p) = !mtW o s p := rmeet (sdW o s) (sdP o p) (bpA s p o) (bpB s p o)
      have he : exW o s p = (mtW o s p && decide (numZ (sdW o s) (sdP o p) (hW o) (pZ s) (lZ p) (lD p) > 0)) := rfl
      unfold cutO
      rw [he, hc]
      generalize decide (numZ (sdW o s) (sdP o p) (hW o) (pZ s) (lZ p) (lD p) > 0) = b at *
      cases h1 : cX1 o s p <;> cases h2 : cX2 o s p <;> cases h3 : mtW o s p <;> rw [h1, h2, h3] at hx <;> first | rfl | cases hx))
noncomputable def c112 : Ct := ct 112 [.b wallK, .b v3K, .b plK] fun a => .br (valC a.1 a.2.1 a.2.2.1) (.leaf (cutO a.1 a.2.1 a.2.2.1)) .bad
theorem gd112 (h0 : Lib0 w0) : Gd (cfg w0) c112 := gd_sig fun a d hd => by
  obtain ⟨hg, hd⟩ := br_run hd
  cases hd
  exact fn112 h0 a.1 a.2.1 a.2.2.1 hg

/-! ## Reflected -/

noncomputable def cs57 : List Ct := [⟨110, tG (intsF sgnK)⟩, c112, c56, ⟨84, tG (intsF lowK)⟩, ⟨81, tG sqrF⟩]
theorem cs57_gd (h0 : Lib0 w0) : Gds (cfg w0) cs57 := ⟨gd_of (sgn_good h0), gd112 h0, gd56 h0, gd_of (rlow_good h0), gd_of (rsquare_good h0), trivial⟩
noncomputable def szW (w : Tup wallK) (s : Tup v3K) : Int := W (sgnZ (sdW w s) * sdW w s)
noncomputable def plR (w : Tup wallK) (s r : Tup v3K) : Tup plK :=
  t4 (W (W (szW w r * pX (imW w s)) + W (szW w s * pX r))) (W (W (szW w r * pY (imW w s)) + W (szW w s * pY r))) (W (W (szW w r * pZ s) + W (szW w s * pZ r))) (W (szW w s + szW w r))
noncomputable def mirR (w : Tup wallK) (k : Int) (s r : Tup v3K) (p : Tup plK) : Tup mirK :=
  t11 k (pX (imW w s)) (pY (imW w s)) (pZ (imW w s)) (lnZ (lX p) (lD p)) (ldZ (lX p) (lD p)) (lnZ (lY p) (lD p)) (ldZ (lY p) (lD p)) (lnZ (lZ p) (lD p)) (ldZ (lZ p) (lD p)) (sqW (imW w s) r)
noncomputable def rel57 : List (Nat × Cv) := [(0, .id), (17, .id), (1, .id), (6, .id), (7, .id), (16, .id), (13, .id), (8, .id), (9, .id)]
noncomputable def st57 (l : List (Tup wallK)) (k : Int) (s r : Tup v3K) (p : Tup plK) (i : Tup v3K) (a : Int × Int) : List D := [.vec wallK l, I a.1, I k, ov3 s, ov3 r, o4 p, ov3 i, .obox zM, I a.2]

theorem round57 (l : List (Tup wallK)) (k : Int) (s r : Tup v3K) (p : Tup plK) (i : Tup v3K) (j e : Int) : rndD ((cfg w0).at cs57) 40 [] 40 (fnOf Tryz.f57).ntmps rel57 (lpB 0 (fnOf Tryz.f57).body) (st57 l k s r p i (j, e)) =
    bif decide (j < l.length) then
      bif j == k then some ([], .normal, st57 l k s r p i (W (j + 1), e)) else
      bif (Nat.beq 7 7 && (decide (0 ≤ j) && decide (j < l.length))) then
        bif valC (nth l j.toNat) s p then
        bif (Nat.beq 7 7 && (decide (0 ≤ j) && decide (j < l.length))) then
        bif valC (nth l j.toNat) r p then
        bif exW (nth l j.toNat) s p then some ([], .ret, st57 l k s r p i (j, 7)) else
        bif exW (nth l j.toNat) r p then some ([], .ret, st57 l k s r p i (j, 7)) else some ([], .normal, st57 l k s r p i (W (j + 1), e))
        else none else none else none else none
    else some ([], .exit 0, st57 l k s r p i (j, e)) := by kernel_rfl

noncomputable def zS (e : Int) : Ro := some ([], zE e)
noncomputable def tr57 (w : Tup wallK) (s r : Tup v3K) (K : Ro) : Ro :=
  bif sdW w s == 0 then zS 7 else bif sdW w r == 0 then zS 7 else bif (sgnZ (sdW w s) != sgnZ (sdW w r)) then zS 7 else
    gO (valI w s) (bif !decide (W (sgnZ (bsA (imW w s) r w) * sgnZ (bsB (imW w s) r w)) ≤ 0) then zS 7 else bif decide (lZ (plR w s r) ≥ W (hW w * lD (plR w s r))) then zS 7 else K)
noncomputable def ld57 (l : List (Tup wallK)) (k : Int) (s r : Tup v3K) (w : Tup wallK) (p : Tup plK) (x : X) (a : Int × Int) : Ld := ldP 0 (fnOf Tryz.f57).ntmps rel57 x (st57 l k s r p (imW w s) a)
noncomputable def ob57 (l : List (Tup wallK)) (k : Int) (s r : Tup v3K) (w : Tup wallK) (p : Tup plK) (x : X) (a : Int × Int) : Obs := [(ld57 l k s r w p x a, .loop (lpB 0 (fnOf Tryz.f57).body), st57 l k s r p (imW w s) (0, 0))]

theorem body57n (l : List (Tup wallK)) (k : Int) (s r : Tup v3K) (a : Int × Int) : bodyT ((cfg w0).at cs57) 60 [ld57 l k s r (nth l k.toNat) (plR (nth l k.toNat) s r) .normal a] 60 (fnOf Tryz.f57) [.vec wallK l, I k, vec3 s, vec3 r] =
    gO (inK l k) (tr57 (nth l k.toNat) s r (gO (quoG (lX (plR (nth l k.toNat) s r)) (lD (plR (nth l k.toNat) s r))) (gO (quoG (lY (plR (nth l k.toNat) s r)) (lD (plR (nth l k.toNat) s r))) (gO (quoG (lZ (plR (nth l k.toNat) s r)) (lD (plR (nth l k.toNat) s r)))
      (some (ob57 l k s r (nth l k.toNat) (plR (nth l k.toNat) s r) .normal a, .tup [mD (mirR (nth l k.toNat) k s r (plR (nth l k.toNat) s r)), I 0])))))) := by kernel_rfl

theorem body57r (l : List (Tup wallK)) (k : Int) (s r : Tup v3K) (a : Int × Int) : bodyT ((cfg w0).at cs57) 60 [ld57 l k s r (nth l k.toNat) (plR (nth l k.toNat) s r) .ret a] 60 (fnOf Tryz.f57) [.vec wallK l, I k, vec3 s, vec3 r] =
    gO (inK l k) (tr57 (nth l k.toNat) s r (some (ob57 l k s r (nth l k.toNat) (plR (nth l k.toNat) s r) .ret a, zE a.2))) := by kernel_rfl
end
end Go.Proofs.YtmlglimahbjgbaaGreatDoor

namespace Go.Proofs.YtmlglimahbjgbaaGreatDoor
open Go Go.Am Go.Town
set_option maxRecDepth 100000
variable {w0 : World}
noncomputable section

/-! # The reference's Reflected: its contract -/

noncomputable def v57 (l : List (Tup wallK)) (k : Int) (s r : Tup v3K) : Bool := chkAllW l == 0 && (inK l k && (pChk s == 0 && (pChk r == 0 && evW (nthW l k))))

theorem v57_ok {l : List (Tup wallK)} {k : Int} {s r : Tup v3K} (h : v57 l k s r = true) : chkAllW l = 0 ∧ inK l k = true ∧ pChk s = 0 ∧ pChk r = 0 ∧ evW (nthW l k) = true ∧ wChk (nthW l k) = 0 := by
  unfold v57 at h
  simp only [Bool.and_eq_true, beq_iff_eq] at h
  obtain ⟨h1, h2, h3, h4, h5⟩ := h
  refine ⟨h1, h2, h3, h4, h5, (chkAll_all h1).2 _ (nth_mem ?_)⟩
  unfold inK at h2
  simp only [Bool.and_eq_true, decide_eq_true_eq] at h2
  omega

theorem plR_eq {w : Tup wallK} {s r : Tup v3K} {p q : Int} (F : MirF w s r p q) : plR w s r = plW w s r := by
  have h1 := F.pn
  have h2 := F.qn
  have p0 := F.p0
  have q0 := F.q0
  have e1 : szW w s = absZ (sdW w s) := size_in (by omega)
  have e2 : szW w r = absZ (sdW w r) := size_in (by omega)
  unfold plR plW
  rw [e1, e2]

theorem sg_ne {P Q : Int} (hP : P ≠ 0) (hQ : Q ≠ 0) : (sgnZ P != sgnZ Q) = (decide (P > 0) != decide (Q > 0)) := by
  rcases sgn3 P with ⟨h1, h2, h3⟩ | ⟨h1, h2, h3⟩ | ⟨h1, h2, h3⟩ <;> rcases sgn3 Q with ⟨g1, g2, g3⟩ | ⟨g1, g2, g3⟩ | ⟨g1, g2, g3⟩ <;>
    first
      | (exfalso; rw [decide_eq_false_iff_not] at h2 h3; omega)
      | (exfalso; rw [decide_eq_false_iff_not] at g2 g3; omega)
      | (rw [h1, g1, show decide (P > 0) = decide (0 < P) from rfl, show decide (Q > 0) = decide (0 < Q) from rfl, h2, g2]; rfl)

theorem tr57_eq {w : Tup wallK} {s r : Tup v3K} {p q : Int} (F : MirF w s r p q) (hv : valI w s = true) (K : Ro) : tr57 w s r K = bif preM w s r then K else zS 7 := by
  unfold tr57 preM
  rw [plR_eq F, hv, sgn_pos]
  cases h1 : (sdW w s == 0) with
  | true => rfl
  | false =>
    cases h2 : (sdW w r == 0) with
    | true => rfl
    | false =>
      rw [sg_ne (by simpa using h1) (by simpa using h2)]
      show (bif _ then _ else bif _ then _ else bif _ then _ else gO true (bif ((decide (bsA (imW w s) r w > 0) && decide (bsB (imW w s) r w > 0)) || (decide (bsA (imW w s) r w < 0) && decide (bsB (imW w s) r w < 0))) then _ else _)) = _
      cases (decide (sdW w s > 0) != decide (sdW w r > 0)) <;> cases ((decide (bsA (imW w s) r w > 0) && decide (bsB (imW w s) r w > 0)) || (decide (bsA (imW w s) r w < 0) && decide (bsB (imW w s) r w < 0))) <;> cases decide (lZ (plW w s r) ≥ W (hW w * lD (plW w s r))) <;> rfl

theorem smP_of {w : Tup wallK} {s r : Tup v3K} {p q : Int} (F : MirF w s r p q) : smP (plW w s r) = true := by
  have p0 := F.p0
  have q0 := F.q0
  have hD := F.D
  unfold smP
  simp only [Bool.and_eq_true, decide_eq_true_eq]
  exact ⟨F.Xb, F.Yb, F.Zb, by omega, by omega⟩

theorem loop57 (h0 : Lib0 w0) (l : List (Tup wallK)) (hl : chkAllW l = 0) (k : Int) (s r : Tup v3K) (w : Tup wallK) (p : Tup plK) (hs : pChk s = 0) (hr : pChk r = 0) (hp : smP p = true) :
    ∃ a : Int × Int, (anyW l k s r p = true → a.2 = 7) ∧ LdT ((cfg w0).at cs57) (ld57 l k s r w p (bif anyW l k s r p then X.ret else .normal) a) (.loop (lpB 0 (fnOf Tryz.f57).body)) (st57 l k s r p (imW w s) (0, 0)) := by
  obtain ⟨hn, hall⟩ := chkAll_all hl
  obtain ⟨q, hq⟩ := rgRun_any (id := 0) (p := wayB l k s r p) (c := (7 : Int)) l.length 0 0
  have key := fun x a => ldT_rg (at_ok (cfg_ok w0) cs57) (at_sp h0 (cs57_gd h0)) (N := (fnOf Tryz.f57).ntmps) (rel := rel57) (B := lpB 0 (fnOf Tryz.f57).body) (id := 0) (k := l.length) (by omega) (st57 l k s r p (imW w s))
    (fun j a => bif wayB l k s r p j then (X.ret, (7 : Int)) else (.normal, a)) (fun _ _ => True)
    (fun j b hj _ => .leaf (by
      have hw := hall _ (nth_mem hj)
      have v1 : valC (nth l j) s p = true := by unfold valC; rw [hw, hs, hp]; rfl
      have v2 : valC (nth l j) r p = true := by unfold valC; rw [hw, hr, hp]; rfl
      rw [round57, inb 7 hj, lt_t hj, Int.toNat_natCast, v1, v2]
      unfold wayB
      cases ((j : Int) == k) <;> cases exW (nth l j) s p <;> cases exW (nth l j) r p <;> rfl)) (fun _ _ _ _ _ _ => trivial)
    (fun b _ => .leaf (by rw [round57, ge_f]; rfl)) (a0 := 0) trivial (x := x) (p := a)
  unfold anyW
  cases hb : (List.range' 0 l.length).any (wayB l k s r p) <;> rw [hb] at hq
  · refine ⟨_, ?_, key _ _ hq⟩
    intro h
    cases h
  · refine ⟨_, ?_, key _ _ hq⟩
    intro _
    rfl

theorem fn57 (h0 : Lib0 w0) (l : List (Tup wallK)) (k : Int) (s r : Tup v3K) (h : v57 l k s r = true) : FnD (cfg w0) 57 [.vec wallK l, I k, vec3 s, vec3 r] (bif refB l k s r then .tup [mD (mirW (nthW l k) k s r), I 0] else zE 7) := by
  obtain ⟨hl, hi, hs, hr, he, hw⟩ := v57_ok h
  have F := mir_f hw hs hr he
  have hv : valI (nthW l k) s = true := by unfold valI; rw [hw, hs, he]; rfl
  unfold refB
  show FnD (cfg w0) 57 _ (bif preM (nthW l k) s r && !anyW l k s r (plW (nthW l k) s r) then _ else _)
  cases hp : preM (nthW l k) s r with
  | false =>
    refine fnD_t (cfg_ok w0) h0 (cs57_gd h0) (fd := fnOf Tryz.f57) rfl (o := []) ((body57n l k s r (0, 0)).trans ?_) trivial
    show gO (inK l k) (tr57 (nthW l k) s r _) = _
    rw [hi, tr57_eq F hv, hp]; rfl
  | true =>
    obtain ⟨a, ha7, ha⟩ := loop57 h0 l hl k s r (nthW l k) (plW (nthW l k) s r) hs hr (smP_of F)
    have e := plR_eq F
    cases hb : anyW l k s r (plW (nthW l k) s r) with
    | true =>
      rw [hb] at ha
      refine fnD_t (cfg_ok w0) h0 (cs57_gd h0) (fd := fnOf Tryz.f57) rfl (o := ob57 l k s r (nthW l k) (plR (nthW l k) s r) .ret a) ((body57r l k s r a).trans ?_) ⟨by rw [e]; exact ha, trivial⟩
      show gO (inK l k) (tr57 (nthW l k) s r _) = _
      rw [hi, tr57_eq F hv, hp, ha7 hb]; rfl
    | false =>
      rw [hb] at ha
      refine fnD_t (cfg_ok w0) h0 (cs57_gd h0) (fd := fnOf Tryz.f57) rfl (o := ob57 l k s r (nthW l k) (plR (nthW l k) s r) .normal a) ((body57n l k s r a).trans ?_) ⟨by rw [e]; exact ha, trivial⟩
      have hne : sdW (nthW l k) s ≠ 0 := by
        intro h0
        unfold preM at hp
        rw [h0] at hp
        cases hp
      have hq := (F.quo hne).2.2
      unfold quoM at hq
      simp only [Bool.and_eq_true] at hq
      show gO (inK l k) (tr57 (nthW l k) s r (gO (quoG (lX (plR (nthW l k) s r)) (lD (plR (nthW l k) s r))) (gO (quoG (lY (plR (nthW l k) s r)) (lD (plR (nthW l k) s r))) (gO (quoG (lZ (plR (nthW l k) s r)) (lD (plR (nthW l k) s r))) (some (ob57 l k s r (nthW l k) (plR (nthW l k) s r) .normal a, .tup [mD (mirR (nthW l k) k s r (plR (nthW l k) s r)), I 0])))))) = _
      rw [hi, tr57_eq F hv, hp, e, hq.1, hq.2.1, hq.2.2]; rfl
noncomputable def c57 : Ct := ct 57 [.v wallK, .c ik, .b v3K, .b v3K] fun a => .br (v57 a.1 a.2.1 a.2.2.1 a.2.2.2.1) (.br (refB a.1 a.2.1 a.2.2.1 a.2.2.2.1) (.leaf (.tup [mD (mirW (nthW a.1 a.2.1) a.2.1 a.2.2.1 a.2.2.2.1), I 0])) (.leaf (zE 7))) .bad
theorem gd57 (h0 : Lib0 w0) : Gd (cfg w0) c57 := gd_sig fun a d hd => by
  obtain ⟨hg, hd⟩ := br_run hd
  have := fn57 h0 a.1 a.2.1 a.2.2.1 a.2.2.2.1 hg
  simp only [FT.run] at hd
  cases hc : refB a.1 a.2.1 a.2.2.1 a.2.2.2.1 <;> rw [hc] at hd this <;> cases hd <;> exact this

/-! ## Mirrors -/

noncomputable def hasM (l : List (Tup wallK)) (s r : Tup v3K) (j : Nat) : Bool := evW (nth l j) && refB l j s r
noncomputable def addM (l : List (Tup wallK)) (s r : Tup v3K) (j : Nat) (out : List (Tup mirK)) : List (Tup mirK) := bif hasM l s r j then out ++ [mirW (nth l j) j s r] else out
noncomputable def mirsL (l : List (Tup wallK)) (s r : Tup v3K) : List (Tup mirK) := (List.range' 0 l.length).foldl (fun b j => addM l s r j b) []

theorem addM_len (l : List (Tup wallK)) (s r : Tup v3K) (j : Nat) (out : List (Tup mirK)) : (addM l s r j out).length ≤ out.length + 1 := by
  unfold addM
  cases hasM l s r j <;> simp

noncomputable def cs58 : List Ct := [c55, c57]
theorem cs58_gd (h0 : Lib0 w0) : Gds (cfg w0) cs58 := ⟨gd55 h0, gd57 h0, trivial⟩
noncomputable def rel58 : List (Nat × Cv) := [(0, .id), (8, .id), (4, .id), (5, .id), (7, .ov mirK)]
noncomputable def st58 (l : List (Tup wallK)) (s r : Tup v3K) (a : Int × List (Tup mirK)) : List D := [.vec wallK l, I a.1, ov3 s, ov3 r, .ovec mirK a.2]
noncomputable def apM (l : List (Tup wallK)) (s r : Tup v3K) (j : Int) (out : List (Tup mirK)) : List (Tup mirK) := out ++ [mirW (nth l j.toNat) j s r]
noncomputable def wc (l : List (Tup wallK)) (j : Int) : Bool := wChk (nth l j.toNat) == 0

theorem round58 (l : List (Tup wallK)) (s r : Tup v3K) (j : Int) (out : List (Tup mirK)) : rndD ((cfg w0).at cs58) 40 [] 40 (fnOf Tryz.f58).ntmps rel58 (lpB 0 (fnOf Tryz.f58).body) (st58 l s r (j, out)) =
    bif decide (j < l.length) then
      bif (Nat.beq 7 7 && (decide (0 ≤ j) && decide (j < l.length))) then
        bif wc l j then
          bif !evW (nth l j.toNat) then some ([], .normal, st58 l s r (W (j + 1), out)) else
          bif v57 l j s r then
            bif refB l j s r then
              bif (Nat.ble ((apM l s r j out).length * 88) 1000000000000 && Nat.ble (apM l s r j out).length 1000000000000) then some ([], .normal, st58 l s r (W (j + 1), apM l s r j out)) else none
            else some ([], .normal, st58 l s r (W (j + 1), out))
          else none
        else none
      else none
    else some ([], .exit 0, st58 l s r (j, out)) := by kernel_rfl

noncomputable def v58 (l : List (Tup wallK)) (s r : Tup v3K) : Bool := chkAllW l == 0 && (pChk s == 0 && pChk r == 0)
theorem v58_ok {l : List (Tup wallK)} {s r : Tup v3K} (h : v58 l s r = true) : chkAllW l = 0 ∧ pChk s = 0 ∧ pChk r = 0 := by
  unfold v58 at h
  simpa only [Bool.and_eq_true, beq_iff_eq] using h

theorem body58 (l : List (Tup wallK)) (s r : Tup v3K) (a : Int × List (Tup mirK)) : bodyT ((cfg w0).at cs58) 40 [ldP 0 (fnOf Tryz.f58).ntmps rel58 .normal (st58 l s r a)] 40 (fnOf Tryz.f58) [.vec wallK l, vec3 s, vec3 r] =
    some ([(ldP 0 (fnOf Tryz.f58).ntmps rel58 .normal (st58 l s r a), .loop (lpB 0 (fnOf Tryz.f58).body), st58 l s r (0, []))], .vec mirK a.2) := by kernel_rfl

theorem fn58 (h0 : Lib0 w0) (l : List (Tup wallK)) (s r : Tup v3K) (h : v58 l s r = true) : FnD (cfg w0) 58 [.vec wallK l, vec3 s, vec3 r] (.vec mirK (mirsL l s r)) := by
  obtain ⟨hl, hs, hr⟩ := v58_ok h
  obtain ⟨hn, hall⟩ := chkAll_all hl
  refine fn_rg h0 (cs58_gd h0) (fd := fnOf Tryz.f58) rfl rel58 l.length (by omega) (st58 l s r) (fun j a => (X.normal, addM l s r j a)) (fun j a => a.length ≤ j) (a0 := []) (by simp)
    (fun j a hj hi => .leaf (by
      have hw := hall _ (nth_mem hj)
      have hwc : wc l j = true := by unfold wc; rw [Int.toNat_natCast, hw]; rfl
      rw [round58, inb 7 hj, lt_t hj, hwc, Int.toNat_natCast]
      show (bif !evW (nth l j) then _ else _) = (some (([] : Obs), X.normal, st58 l s r (W ((j : Int) + 1), addM l s r j a)) : Option (Obs × X × List D))
      unfold addM hasM
      cases he : evW (nth l j) with
      | false => rfl
      | true =>
        have hv : v57 l j s r = true := by
          have hin : inK l j = true := inb 7 hj
          have : evW (nthW l j) = true := by unfold nthW; rw [Int.toNat_natCast]; exact he
          unfold v57
          rw [hl, hs, hr, hin, this]; rfl
        rw [hv]
        cases refB l j s r with
        | false => rfl
        | true =>
          have hap : apM l s r j a = a ++ [mirW (nth l j) j s r] := by unfold apM; rw [Int.toNat_natCast]
          rw [hap, room (by omega) (by omega)]; rfl)) (fun j a a' _ hi h => by
      cases h
      have := addM_len l s r j a
      omega)
    (fun a _ => .leaf (by rw [round58, ge_f]; rfl)) fun x p hx => ?_
  rw [rgRun_fold (h := fun j b => addM l s r j b) 0 l.length 0 [] (fun _ _ _ _ => rfl)] at hx
  cases hx
  exact body58 l s r _
noncomputable def c58 : Ct := ct 58 [.v wallK, .b v3K, .b v3K] fun a => .br (v58 a.1 a.2.1 a.2.2.1) (.leaf (.vec mirK (mirsL a.1 a.2.1 a.2.2.1))) .bad
theorem gd58 (h0 : Lib0 w0) : Gd (cfg w0) c58 := gd_sig fun a d hd => by
  obtain ⟨hg, hd⟩ := br_run hd
  cases hd
  exact fn58 h0 a.1 a.2.1 a.2.2.1 hg

/-! ## mirrors of the law -/

noncomputable def rel60 : List (Nat × Cv) := [(6, .id), (7, .id), (8, .id), (3, .ov mirK)]
noncomputable def st60 (l : List (Tup mirK)) (a : Int × List (Tup mirK)) : List D := [.vec mirK l, I l.length, I a.1, .ovec mirK a.2]
theorem round60 (l : List (Tup mirK)) (j : Int) (out : List (Tup mirK)) : rndD ((cfg w0).at []) 40 [] 40 (fnOf Tryz.f60).ntmps rel60 (lpB 0 (fnOf Tryz.f60).body) (st60 l (j, out)) =
    bif decide (j < l.length) then
      bif (Nat.beq 11 11 && (decide (0 ≤ j) && decide (j < l.length))) then
        bif (Nat.ble ((out ++ [nth l j.toNat]).length * 88) 1000000000000 && Nat.ble (out ++ [nth l j.toNat]).length 1000000000000) then some ([], .normal, st60 l (W (j + 1), out ++ [nth l j.toNat])) else none
      else none
    else some ([], .exit 0, st60 l (j, out)) := by kernel_rfl
theorem body60 (l : List (Tup mirK)) (j : Int) (out : List (Tup mirK)) : bodyT ((cfg w0).at []) 40 [ldP 0 (fnOf Tryz.f60).ntmps rel60 .normal (st60 l (j, out))] 40 (fnOf Tryz.f60) [.vec mirK l] =
    some ([(ldP 0 (fnOf Tryz.f60).ntmps rel60 .normal (st60 l (j, out)), .loop (lpB 0 (fnOf Tryz.f60).body), st60 l (0, []))], .vec mirK out) := by kernel_rfl
theorem fn60 (h0 : Lib0 w0) (l : List (Tup mirK)) (hg : l.length ≤ 100000) : FnD (cfg w0) 60 [.vec mirK l] (.vec mirK l) := by
  refine fn_ls h0 (cs := []) trivial (fd := fnOf Tryz.f60) rfl rel60 l (by omega) (st60 l) (fun w a => (X.normal, a ++ [w])) (fun j a => a.length = j) (a0 := []) rfl
    (fun j a hj hi => .leaf (by
      rw [round60, inb 11 hj, lt_t hj, Int.toNat_natCast, room (by omega) (by omega)]
      rfl)) (fun j a a' _ hi h => by cases h; simp [hi])
    (fun a _ => .leaf (by rw [round60, ge_f]; rfl)) fun x p hx => ?_
  rw [lsRun_fold (h := fun w b => b ++ [w]) 0 l 0 [] (fun _ _ _ => rfl), foldl_snoc (fun w => w)] at hx
  cases hx
  have e : ([] : List (Tup mirK)) ++ l.map (fun w => w) = l := by simp
  rw [e]
  exact body60 l _ l
noncomputable def c60 : Ct := ct 60 [.v mirK] fun a => .br (Nat.ble (a.1 : List (Tup mirK)).length 100000) (.leaf (.vec mirK a.1)) .bad
theorem gd60 (h0 : Lib0 w0) : Gd (cfg w0) c60 := gd_sig fun a d hd => by
  obtain ⟨hg, hd⟩ := br_run hd
  cases hd
  exact fn60 h0 a.1 (Nat.le_of_ble_eq_true hg)

/-! ## SameMirrors -/

noncomputable def eqM (a b : Tup mirK) : Bool :=
  eqI a.1 b.1 && ((eqI a.2.1 b.2.1 && (eqI a.2.2.1 b.2.2.1 && (eqI a.2.2.2.1 b.2.2.2.1 && true))) && ((eqI a.2.2.2.2.1 b.2.2.2.2.1 && (eqI a.2.2.2.2.2.1 b.2.2.2.2.2.1 && true)) && ((eqI a.2.2.2.2.2.2.1 b.2.2.2.2.2.2.1 && (eqI a.2.2.2.2.2.2.2.1 b.2.2.2.2.2.2.2.1 && true)) &&
    ((eqI a.2.2.2.2.2.2.2.2.1 b.2.2.2.2.2.2.2.2.1 && (eqI a.2.2.2.2.2.2.2.2.2.1 b.2.2.2.2.2.2.2.2.2.1 && true)) && (eqI a.2.2.2.2.2.2.2.2.2.2.1 b.2.2.2.2.2.2.2.2.2.2.1 && true)))))
noncomputable def rel59 : List (Nat × Cv) := [(0, .id), (1, .id), (5, .id), (4, .id)]
noncomputable def st59 (a b : List (Tup mirK)) (s : Int × Bool) : List D := [.vec mirK a, .vec mirK b, I s.1, Bo s.2]
theorem round59 (a b : List (Tup mirK)) (j : Int) (r : Bool) : rndD ((cfg w0).at []) 40 [] 40 (fnOf Tryz.f59).ntmps rel59 (lpB 0 (fnOf Tryz.f59).body) (st59 a b (j, r)) =
    bif decide (j < a.length) then
      bif (Nat.beq 11 11 && (decide (0 ≤ j) && decide (j < a.length))) then
        bif (Nat.beq 11 11 && (decide (0 ≤ j) && decide (j < b.length))) then
          bif !eqM (nth a j.toNat) (nth b j.toNat) then some ([], .ret, st59 a b (j, false)) else some ([], .normal, st59 a b (W (j + 1), r))
        else none
      else none
    else some ([], .exit 0, st59 a b (j, r)) := by kernel_rfl
theorem body59 (a b : List (Tup mirK)) (p : Int × Bool) : bodyT ((cfg w0).at []) 40 [ldP 0 (fnOf Tryz.f59).ntmps rel59 .normal (st59 a b p)] 40 (fnOf Tryz.f59) [.vec mirK a, .vec mirK b] =
    bif (a.length : Int) != b.length then some ([], Bo false) else
    some ([(ldP 0 (fnOf Tryz.f59).ntmps rel59 .normal (st59 a b p), .loop (lpB 0 (fnOf Tryz.f59).body), st59 a b (0, false))], Bo true) := by kernel_rfl

theorem eqI_self (n : Int) : eqI n n = true := by simp [eqI]
theorem and_t {a b : Bool} (ha : a = true) (hb : b = true) : (a && b) = true := by rw [ha, hb]; rfl
theorem eqM_self (a : Tup mirK) : eqM a a = true :=
  have p2 : ∀ x y : Int, (eqI x x && (eqI y y && true)) = true := fun x y => and_t (eqI_self x) (and_t (eqI_self y) rfl)
  and_t (eqI_self _) (and_t (and_t (eqI_self _) (p2 _ _)) (and_t (p2 _ _) (and_t (p2 _ _) (and_t (p2 _ _) (and_t (eqI_self _) rfl)))))

/-- Of lists that agree. -/
theorem fn59 (h0 : Lib0 w0) (a : List (Tup mirK)) (hl : a.length ≤ 100000) : FnD (cfg w0) 59 [.vec mirK a, .vec mirK a] (Bo true) := by
  refine fn_rg h0 (cs := []) trivial (fd := fnOf Tryz.f59) rfl rel59 a.length (by omega) (st59 a a) (fun _ r => (.normal, r)) (fun _ _ => True) (a0 := false) trivial
    (fun j r hj _ => .leaf (by
      rw [round59, inb 11 hj, lt_t hj, Int.toNat_natCast, eqM_self]
      rfl)) (fun _ _ _ _ _ _ => trivial)
    (fun r _ => .leaf (by rw [round59, ge_f]; rfl)) fun x p hx => ?_
  rw [rgRun_fold (h := fun _ b => b) 0 a.length 0 false (fun _ _ _ _ => rfl)] at hx
  cases hx
  exact (body59 a a _).trans (by rw [bne_self_eq_false]; rfl)
end
end Go.Proofs.YtmlglimahbjgbaaGreatDoor

namespace Go.Proofs.YtmlglimahbjgbaaGreatDoor
open Go Go.Am Go.Town
set_option maxRecDepth 100000
variable {w0 : World}
noncomputable section

/-! # The program's Mirrors -/

noncomputable def cs53 : List Ct := [checkC 38, ⟨104, tG checkSpotF⟩, ⟨98, tG firstF⟩, c128, c130]
theorem cs53_gd (h0 : Lib0 w0) : Gds (cfg w0) cs53 := ⟨gd38 h0, gd_of (checkSpot_good h0), gd_of (first_good h0), gd128 h0, gd130 h0, trivial⟩
noncomputable def e53 (l : List (Tup wallK)) (s r : Tup v3K) : Int := firstZ [chkAllW l, pChk s, pChk r]
noncomputable def nilD : D := .val (.slice none 0 0)
noncomputable def resM : List (Tup mirK) → D
  | [] => nilD
  | m :: ms => .sl (m :: ms).length 11 (((m :: ms).flatMap (toVs mirK)).map .val)
noncomputable def goM (l : List (Tup wallK)) (s r : Tup v3K) : List Nat → List (Tup mirK) → Option D
  | [], acc => some (.tup [resM acc, I 0])
  | j :: js, acc => bif !evW (nth l j) then goM l s r js acc else gS (okM l j s r) (bif refB l j s r then goM l s r js (acc ++ [mirW (nth l j) j s r]) else goM l s r js acc)
noncomputable def out53 (l : List (Tup wallK)) (s r : Tup v3K) (js : List Nat) : Option D := bif e53 l s r != 0 then some (.tup [nilD, I (e53 l s r)]) else goM l s r js []

theorem run53_0 (s r : Tup v3K) : bodyK ((cfg w0).at cs53) 60 (fnOf Tryz.f53) [.vec wallK [], vec3 s, vec3 r] = out53 [] s r [] := by kernel_rfl
theorem run53_1 (a : Tup wallK) (s r : Tup v3K) : bodyK ((cfg w0).at cs53) 60 (fnOf Tryz.f53) [.vec wallK [a], vec3 s, vec3 r] = out53 [a] s r [0] := by kernel_rfl
theorem run53_2 (a b : Tup wallK) (s r : Tup v3K) : bodyK ((cfg w0).at cs53) 60 (fnOf Tryz.f53) [.vec wallK [a, b], vec3 s, vec3 r] = out53 [a, b] s r [0, 1] := by kernel_rfl
theorem run53_3 (a b c : Tup wallK) (s r : Tup v3K) : bodyK ((cfg w0).at cs53) 60 (fnOf Tryz.f53) [.vec wallK [a, b, c], vec3 s, vec3 r] = out53 [a, b, c] s r [0, 1, 2] := by kernel_rfl
theorem run53_4 (a b c d : Tup wallK) (s r : Tup v3K) : bodyK ((cfg w0).at cs53) 80 (fnOf Tryz.f53) [.vec wallK [a, b, c, d], vec3 s, vec3 r] = out53 [a, b, c, d] s r [0, 1, 2, 3] := by kernel_rfl
end
end Go.Proofs.YtmlglimahbjgbaaGreatDoor
