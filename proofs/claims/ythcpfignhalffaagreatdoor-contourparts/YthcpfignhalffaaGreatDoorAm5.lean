/-
 A part of the proof of the statement that the claim names: see the last file.
-/
import Derived.Test.YthcpfignhalffaaGreatDoorAm4
import Derived.IntWalk
import Derived.Test.YthcpfignhalffaaGreatDoorAm1
import Derived.LaidMore
import Derived.Carry
import Derived.ChangeArms
namespace Go.Am
noncomputable section
open Go Go.RowKit
inductive Sh where
 | c (k : Kd)
 | b (ks : List Kd)
 | r (ks : List Kd)
 | v (ks : List Kd)
 | x
def ShT : Sh → Type
 | .c k => El k
 | .b ks => Tup ks
 | .r ks => Tup ks
 | .v ks => List (Tup ks)
 | .x => D
def ArgT : List Sh → Type
 | [] => Unit
 | s :: ss => ShT s × ArgT ss
def valsOf : List D → Option (List Value)
 | [] => some []
 | .val v :: ds => match valsOf ds with
   | some vs => some (v :: vs)
   | none => none
 | _ => none
theorem valsOf_eq : ∀ {ds : List D} {vs : List Value}, valsOf ds = some vs → ds = vs.map .val
 | [], vs, h => by simp [valsOf] at h; subst h; rfl
 | d :: ds, vs, h => by
   unfold valsOf at h
   split at h
   ·rename_i e; cases e
   ·rename_i v ds' e
    cases e
    cases hr : valsOf ds with
    | none => simp [hr] at h
    | some ws => simp [hr] at h; subst h; rw [valsOf_eq hr]; rfl
   ·cases h
def toSh : (s : Sh) → ShT s → D
 | .c k, x => .val (toV k x)
 | .b ks, x => .agg ((toVs ks x).map .val)
 | .r ks, x => .box ((toVs ks x).map .val)
 | .v ks, l => .vec ks l
 | .x, d => d
def asL (ks : List Kd) : D → Option (List (Tup ks))
 | .vec k l => recast k ks l
 | .val (.slice none 0 0) => match okK ks && Nat.blt 0 ks.length with
   | true => some []
   | false => none
 | .emp sz => match Nat.beq sz ks.length && (okK ks && Nat.blt 0 ks.length) with
   | true => some []
   | false => none
 | .sl n sz cs => match Nat.beq sz ks.length && (Nat.blt 0 n && (flatK ks && Nat.blt 0 ks.length)), valsOf cs with
   | true, some vs => match Nat.beq vs.length (n * ks.length) with
     | true => ofRows ks n vs
     | false => none
   | _, _ => none
 | _ => none
def ofSh : (s : Sh) → D → Option (ShT s)
 | .c k, d => match d with
   | .val v => ofV k v
   | _ => none
 | .b ks, d => match d with
   | .agg ds => match valsOf ds with
     | some vs => ofVs ks vs
     | none => none
   | _ => none
 | .r ks, d => match d with
   | .box ds => match valsOf ds with
     | some vs => ofVs ks vs
     | none => none
   | _ => none
 | .v ks, d => asL ks d
 | .x, d => some d
def toShs : (ss : List Sh) → ArgT ss → List D
 | [], _ => []
 | s :: ss, x => toSh s x.1 :: toShs ss x.2
def ofShs : (ss : List Sh) → List D → Option (ArgT ss)
 | [], [] => some ()
 | s :: ss, d :: ds => match ofSh s d, ofShs ss ds with
   | some x, some xs => some (x, xs)
   | _, _ => none
 | _, _ => none
theorem ImpOK.nil_vec {G : Gl} {GB : Nat} {w : World} {u : Value} {ks : List Kd} (hf : okK ks = true) (hs : 0 < ks.length) (h : ImpOK G GB w (.val (.slice none 0 0)) u) : ImpOK G GB w (.vec ks []) u := fun h0 r0 H0 hno => by
 obtain ⟨r1, le, _, v, _⟩ := h h0 r0 H0 hno
 simp only [imp] at v
 have := v.scal_eq rfl
 subst this
 obtain ⟨a1, a2, a3⟩ := H0.nothing hf hs [] rfl false
 refine ⟨_, Ren.le_put H0 _, by simpa [imp] using a1, ?_, fun k hk => hno k (a3 k (by simpa [imp] using hk))⟩
 simpa [imp] using VR.vsl (K0 + h0.length) 0 ks.length _ (.slice none 0 0) (Ren.put_self ..) (by omega) ⟨rfl, hs, .inl ⟨rfl, .inl rfl, .of_len rfl⟩⟩ (by simp)
theorem ImpOK.emp_vec {G : Gl} {GB : Nat} {w : World} {u : Value} {ks : List Kd} {sz : Nat} (hf : okK ks = true) (hs : 0 < ks.length) (h : ImpOK G GB w (.emp sz) u) : ImpOK G GB w (.vec ks []) u := fun h0 r0 H0 hno => by
 obtain ⟨r1, le, _, v, _⟩ := h h0 r0 H0 hno
 simp only [imp] at v
 have hu : ∃ a cap, u = .slice (some a) 0 cap := by
  rcases v.slice' with ⟨t, cap, hr, hk, _⟩ | ⟨_, _, _, hz, a, cap, rfl⟩
  ·exact absurd hk (by decide)
  ·exact ⟨a, cap, rfl⟩
 obtain ⟨a, cap, rfl⟩ := hu
 obtain ⟨a1, a2, a3⟩ := H0.nothing hf hs [] rfl false
 refine ⟨_, Ren.le_put H0 _, by simpa [imp] using a1, ?_, fun k hk => hno k (a3 k (by simpa [imp] using hk))⟩
 simpa [imp] using VR.vsl (K0 + h0.length) 0 ks.length _ (.slice (some a) 0 cap) (Ren.put_self ..) (by omega) ⟨rfl, hs, .inl ⟨rfl, .inr ⟨a, cap, rfl⟩, .of_len rfl⟩⟩ (by simp)
theorem imps_vals (own : Bool) : ∀ (vs : List Value) (h : Heap), imps own (vs.map .val) h = (vs, h)
 | [], h => rfl
 | v :: vs, h => by
   simp only [List.map_cons, imps, imp, imps_vals own vs h]
theorem ImpOK.sl_vec {G : Gl} {GB : Nat} {w : World} {u : Value} {ks : List Kd} {n : Nat} {vs : List Value} {l : List (Tup ks)} (hf : flatK ks = true) (hs : 0 < ks.length) (hn : 0 < n) (hv : vs.length = n * ks.length) (hl : ofRows ks n vs = some l)
  (h : ImpOK G GB w (.sl n ks.length (vs.map .val)) u) : ImpOK G GB w (.vec ks l) u := fun h0 r0 H0 hno => by
 obtain ⟨r1, le, H1, v, _⟩ := h h0 r0 H0 hno
 simp only [imp, imps_vals] at H1 v
 obtain ⟨el, hg⟩ := ofRows_get hl
 obtain ⟨t, ht, hlt, hob⟩ := H1.obj (K0 + h0.length) (by rw [at_snoc, if_pos rfl]; rfl)
 rw [at_snoc, if_pos rfl] at hob
 obtain ⟨⟨o1, o2⟩, o3, _⟩ := hob
 obtain ⟨cap, hcap, hlim, rfl⟩ : ∃ cap, n ≤ cap ∧ t.off + cap * ks.length ≤ t.lim ∧ u = .slice (some ⟨t.blk, t.off, none⟩) n cap := by
  have hk : K0 ≤ K0 + h0.length := by omega
  generalize K0 + h0.length = b at *
  cases v with
  | scal _ hs => simp [Am.scal] at hs
  | slice _ _ _ _ cap t' h' hc hl' =>
    rw [ht] at h'
    cases h'
    exact ⟨cap, hc, by omega, by simp⟩
  | slice0 => exact absurd hk (by decide)
 have hcell : ∀ (j : Nat) (c : Value), vs[j]? = some c → w.cell? ⟨t.blk, t.off + j, none⟩ = some c := fun j c hc => by
  obtain ⟨u', hu', hv'⟩ := o3 j c hc
  have hsc : scal c = true := rows_scal hf hl hv c (List.mem_of_getElem? hc)
  rw [hv'.scal_eq hsc] at hu'
  exact hu'
 have hnz : n * ks.length = l.length * ks.length := by rw [el]
 obtain ⟨a1, a2, a3⟩ := H0.addRO (.vec ks l false) ⟨t.blk, t.off, t.lim, n * ks.length, ks.length, no⟩ rfl hlt (hno _) ⟨okK_of_flat hf, ⟨rfl, hs, hnz⟩, fun h => by omega, fun _ => ⟨by rw [el, ← hv]; exact o2, fun i x hx => RowIn.of_vals hf fun j c hc => by
  have e := hg i x hx
  have hi : i < l.length := (List.getElem?_eq_some_iff.1 hx).1
  have hj : j < ks.length := by
   have := (List.getElem?_eq_some_iff.1 hc).1
   rwa [toVs_len] at this
  rw [← e, List.getElem?_take, if_pos hj, List.getElem?_drop] at hc
  have := hcell _ _ hc
  rw [show t.off + i * ks.length + j = t.off + (i * ks.length + j) by omega]
  exact this, fun h => by cases h⟩⟩
 refine ⟨_, Ren.le_put H0 _, by simpa [imp] using a1, ?_, fun k hk => hno k (a3 k (by simpa [imp] using hk))⟩
 simp only [imp]
 rw [el]
 exact VR.vsl (K0 + h0.length) n ks.length _ _ (Ren.put_self ..) (by omega) ⟨rfl, hs, .inr ⟨hn, by simp, cap, ⟨hcap, by simpa using Nat.mul_le_mul_right _ hcap⟩, by simpa using hlim, by simp⟩⟩ rfl
theorem vals_le {ks : List Kd} {ds : List D} {x : Tup ks} (h : (match valsOf ds with
  | some vs => ofVs ks vs
  | none => none) = some x) : ds = (toVs ks x).map .val := by
 cases hv : valsOf ds with
 | none => rw [hv] at h; cases h
 | some vs =>
   rw [hv] at h
   rw [valsOf_eq hv, ofVs_toVs h]
theorem asL_le {G : Gl} {GB : Nat} {w : World} {ks : List Kd} {d : D} {l : List (Tup ks)} {u : Value} (h : asL ks d = some l) (hi : ImpOK G GB w d u) : ImpOK G GB w (.vec ks l) u := by
 unfold asL at h
 split at h
 ·obtain ⟨e, rfl⟩ := recast_eq h
  subst e; exact hi
 ·split at h
  ·rename_i hb
   simp only [Bool.and_eq_true, Nat.blt_eq] at hb
   cases h
   exact hi.nil_vec hb.1 hb.2
  ·cases h
 ·split at h
  ·rename_i hb
   simp only [Bool.and_eq_true, Nat.blt_eq] at hb
   cases h
   exact hi.emp_vec hb.2.1 hb.2.2
  ·cases h
 ·rename_i n sz cs
  split at h
  ·rename_i vs hb hvs
   simp only [Bool.and_eq_true, Nat.blt_eq, Nat.beq_eq] at hb
   obtain ⟨rfl, hn, hf, hs⟩ := hb
   split at h
   ·rename_i hl
    rw [Nat.beq_eq] at hl
    rw [valsOf_eq hvs] at hi
    exact hi.sl_vec hf hs hn hl h
   ·cases h
  ·cases h
 ·cases h
theorem c_le {k : Kd} {d : D} {x : El k} (h : ofSh (.c k) d = some x) : d = .val (toV k x) := by
 cases d with
 | val v => exact congrArg D.val (ofV_toV (show ofV k v = some x from h))
 | _ => cases (show (none : Option (El k)) = some x from h)
theorem b_le {ks : List Kd} {d : D} {x : Tup ks} (h : ofSh (.b ks) d = some x) : d = .agg ((toVs ks x).map .val) := by
 cases d with
 | agg ds => exact congrArg D.agg (vals_le h)
 | _ => cases (show (none : Option (Tup ks)) = some x from h)
theorem r_le {ks : List Kd} {d : D} {x : Tup ks} (h : ofSh (.r ks) d = some x) : d = .box ((toVs ks x).map .val) := by
 cases d with
 | box ds => exact congrArg D.box (vals_le h)
 | _ => cases (show (none : Option (Tup ks)) = some x from h)
theorem ofSh_le {G : Gl} {GB : Nat} {w : World} {s : Sh} {d : D} {x : ShT s} {u : Value} (h : ofSh s d = some x) (hi : ImpOK G GB w d u) : ImpOK G GB w (toSh s x) u := by
 cases s with
 | c k => rw [c_le h] at hi; exact hi
 | b ks => rw [b_le h] at hi; exact hi
 | r ks => rw [r_le h] at hi; exact hi
 | v ks => exact asL_le h hi
 | x => cases h; exact hi
theorem ofShs_le {G : Gl} {GB : Nat} {w : World} : ∀ {ss : List Sh} {ds : List D} {a : ArgT ss} {us : List Value}, ofShs ss ds = some a → ImpsOK G GB w ds us → ImpsOK G GB w (toShs ss a) us
 | [], [], _, us, _, hi => hi
 | [], _ :: _, _, _, h, _ => by simp [ofShs] at h
 | _ :: _, [], _, _, h, _ => by simp [ofShs] at h
 | s :: ss, d :: ds, a, us, h, hi => by
   unfold ofShs at h
   split at h
   ·rename_i x xs h1 h2
    cases h
    cases us with
    | nil => simp [ImpsOK] at hi
    | cons u us =>
      have ht := ofShs_le h2 (us := us) ⟨by simpa using hi.1, fun j d' u' hj hu => hi.2 (j + 1) d' u' (by simpa using hj) (by simpa using hu)⟩
      refine ⟨by simpa [toShs] using ht.1, fun j d' u' hj hu => ?_⟩
      cases j with
      | zero =>
        simp only [toShs, List.getElem?_cons_zero, Option.some.injEq] at hj hu
        subst hj hu
        exact ofSh_le h1 (hi.2 0 d _ rfl rfl)
      | succ j => exact ht.2 j d' u' (by simpa [toShs] using hj) (by simpa using hu)
   ·cases h
def sigF (ss : List Sh) (F : ArgT ss → FT D) (ds : List D) : FT D :=
 match ofShs ss ds with
 | some a => F a
 | none => .bad
def ct (g : Nat) (ss : List Sh) (F : ArgT ss → FT D) : Ct := ⟨g, sigF ss F⟩
theorem gd_sig {C : Cfg} {g : Nat} {ss : List Sh} {F : ArgT ss → FT D} (h : ∀ a d, (F a).run = some d → FnD C g (toShs ss a) d) : Gd C (ct g ss F) := fun ds d hd => by
 simp only [ct, sigF] at hd
 split at hd
 ·rename_i a ha
  intro w args hb hi
  exact h a d hd w args hb (ofShs_le ha hi)
 ·cases hd
theorem gd_body {C : Cfg} (ok : CfgOk C) (sp : SpecOK C) {cs : List Ct} (hcs : Gds C cs) {g : Nat} {ss : List Sh} {F : ArgT ss → FT D} {fd : AFn} (hfd : C.fn g = some fd) {n : Nat}
  (h : ∀ a d, (F a).run = some d → bodyK (C.at cs) n fd (toShs ss a) = some d) : Gd C (ct g ss F) :=
 gd_sig fun a d hd => fnD_k ok sp hcs hfd (h a d hd)
noncomputable def ldP (id N : Nat) (rel : List (Nat × Cv)) (x : X) (post : List D) : Ld := ⟨id, N, rel, fun _ => .leaf (x, post)⟩
def RdOK (C : Cfg) (N : Nat) (rel : List (Nat × Cv)) (B : Code) (pre : List D) (x : X) (post : List D) : Prop :=
 ∃ (n m : Nat) (L : List Ld) (o : Obs), rndD C n L m N rel B pre = some (o, x, post) ∧ Owed C o
theorem RdOK.leaf {C : Cfg} {n : Nat} {L : List Ld} {m N : Nat} {rel : List (Nat × Cv)} {B : Code} {pre post : List D} {x : X} (h : rndD C n L m N rel B pre = some ([], x, post)) : RdOK C N rel B pre x post := ⟨n, m, L, [], h, trivial⟩
theorem RdOK.one {C : Cfg} {n : Nat} {L : List Ld} {m N : Nat} {rel : List (Nat × Cv)} {B b : Code} {l : Ld} {pre post mid : List D} {x : X} (h : rndD C n L m N rel B pre = some ([(l, b, mid)], x, post)) (hl : LdT C l b mid) : RdOK C N rel B pre x post := ⟨n, m, L, _, h, hl, trivial⟩
variable {C : Cfg} {N : Nat} {rel : List (Nat × Cv)} {B : Code} {id : Nat} {α : Type}
theorem ldT_iter (ok : CfgOk C) (sp : SpecOK C) {σ : Type} (st : σ → List D) (next : σ → X × σ) (inv : σ → Prop)
  (hr : ∀ a, inv a → RdOK C N rel B (st a) (next a).1 (st (next a).2)) (hinv : ∀ a b, inv a → next a = (.normal, b) → inv b) {a0 b : σ} {x : X} {f : Nat} (hi : inv a0) (hit : iterN next f a0 = some (x, b)) (hid : Nat.ble 100000 id = false := by rfl) :
  LdT C (ldP id N rel (outX id x) (st b)) (.loop B) (st a0) :=
 ldT_loop ok sp (l := ldP id N rel (outX id x) (st b)) st next inv hr hinv a0 hi (fun x' ds' h => by
  simp only [ldP, FT.run, Option.some.injEq, Prod.mk.injEq] at h
  obtain ⟨rfl, rfl⟩ := h
  exact ⟨f, b, x, hit, rfl, rfl⟩) (hid := hid)
theorem ldT_if (ok : CfgOk C) (sp : SpecOK C) {c : Code} {pre post : List D} {x : X} (h : RdOK C N rel c pre x post) (hid : Nat.ble 100000 id = true := by rfl) : LdT C (ldP id N rel x post) c pre :=
 ldT_cond ok sp (l := ldP id N rel x post) hid fun x' ds' h' => by
  simp only [ldP, FT.run, Option.some.injEq, Prod.mk.injEq] at h'
  obtain ⟨rfl, rfl⟩ := h'
  exact h
end
end Go.Am
namespace Go.Am
noncomputable section
open Go Go.RowKit
theorem wrap_nat {n : Nat} (h : n < 4611686018427387904) : IntKind.i64.wrap ((n : Int) + 1) = ((n + 1 : Nat) : Int) := by
 rw [IntWalk.i64_in _ ⟨by omega, by omega⟩]; rfl
section
variable {α : Type} (id : Nat)
def rgNext (n : Nat) (step : Nat → α → X × α) (p : Int × α) : X × (Int × α) :=
 bif decide (p.1 < n) then
  match step p.1.toNat p.2 with
  | (.normal, a) => (.normal, (IntKind.i64.wrap (p.1 + 1), a))
  | (x, a) => (x, (p.1, a))
 else (.exit id, p)
def rgRun (step : Nat → α → X × α) : Nat → Nat → α → X × (Int × α)
 | 0, i, a => (.exit id, ((i : Int), a))
 | f + 1, i, a => match step i a with
   | (.normal, a') => rgRun step f (i + 1) a'
   | (x, a') => (x, ((i : Int), a'))
theorem rg_iter {n : Nat} (hn : n < 4611686018427387904) (step : Nat → α → X × α) : ∀ (f i : Nat) (a : α), i + f = n → iterN (rgNext id n step) (f + 1) ((i : Int), a) = some (rgRun id step f i a)
 | 0, i, a, h => by
   have : ¬ ((i : Int) < n) := by omega
   simp [iterN, rgNext, rgRun, this]
 | f + 1, i, a, h => by
   have hi : (i : Int) < n := by omega
   have hd : decide ((i : Int) < n) = true := by simp [hi]
   unfold iterN rgRun
   simp only [rgNext, hd, cond_true, Int.toNat_natCast]
   cases hs : step i a with
   | mk x a' =>
     cases x with
     | normal =>
       simp only
       rw [wrap_nat (by omega)]
       exact rg_iter hn step f (i + 1) a' (by omega)
     | exit id' => rfl
     | ret => rfl
theorem rgRun_fold {step : Nat → α → X × α} {h : Nat → α → α} : ∀ (f i : Nat) (a : α), (∀ j b, i ≤ j → j < i + f → step j b = (.normal, h j b)) → rgRun id step f i a = (.exit id, ((i + f : Nat) : Int), (List.range' i f).foldl (fun b j => h j b) a)
 | 0, i, a, _ => rfl
 | f + 1, i, a, hs => by
   unfold rgRun
   rw [hs i a (Nat.le_refl _) (by omega)]
   simp only
   rw [rgRun_fold f (i + 1) (h i a) (fun j b h1 h2 => hs j b (by omega) (by omega))]
   simp only [List.range'_succ, List.foldl_cons]
   rw [show i + 1 + f = i + (f + 1) by omega]
def lsRun {τ : Type} (g : τ → α → X × α) : List τ → Nat → α → X × (Int × α)
 | [], i, a => (.exit id, ((i : Int), a))
 | x :: xs, i, a => match g x a with
   | (.normal, a') => lsRun g xs (i + 1) a'
   | (x, a') => (x, ((i : Int), a'))
theorem rgRun_ls {ks : List Kd} {g : Tup ks → α → X × α} {step : Nat → α → X × α} : ∀ (l0 l : List (Tup ks)) (a : α), (∀ j b, j < (l0 ++ l).length → step j b = g (nth (l0 ++ l) j) b) → rgRun id step l.length l0.length a = lsRun id g l l0.length a
 | l0, [], a, _ => rfl
 | l0, x :: xs, a, hs => by
   show (match step l0.length a with
    | (.normal, a') => rgRun id step xs.length (l0.length + 1) a'
    | (y, a') => (y, ((l0.length : Nat) : Int), a')) = (match g x a with
    | (.normal, a') => lsRun id g xs (l0.length + 1) a'
    | (y, a') => (y, ((l0.length : Nat) : Int), a'))
   have hx : nth (l0 ++ x :: xs) l0.length = x := by
    simp [nth, List.getD_eq_getElem?_getD]
   have h1 := hs l0.length a (by simp)
   rw [hx] at h1
   rw [h1]
   cases hg : g x a with
   | mk y a' =>
     cases y with
     | normal =>
       simp only
       have := rgRun_ls (l0 ++ [x]) xs a' (fun j b hj => by
        have := hs j b (by simpa using hj)
        simpa using this)
       simpa using this
     | exit id' => rfl
     | ret => rfl
theorem lsRun_fold {τ : Type} {g : τ → α → X × α} {h : τ → α → α} : ∀ (l : List τ) (i : Nat) (a : α), (∀ x ∈ l, ∀ b, g x b = (.normal, h x b)) → lsRun id g l i a = (.exit id, ((i + l.length : Nat) : Int), l.foldl (fun b x => h x b) a)
 | [], i, a, _ => rfl
 | x :: xs, i, a, hs => by
   unfold lsRun
   rw [hs x (by simp) a]
   simp only
   rw [lsRun_fold xs (i + 1) (h x a) (fun y hy b => hs y (by simp [hy]) b)]
   simp only [List.foldl_cons, List.length_cons]
   rw [show i + 1 + xs.length = i + (xs.length + 1) by omega]
end
theorem foldl_snoc {τ ρ : Type} (f : τ → ρ) : ∀ (l : List τ) (out : List ρ), l.foldl (fun b x => b ++ [f x]) out = out ++ l.map f
 | [], out => by simp
 | x :: xs, out => by
   rw [List.foldl_cons, foldl_snoc f xs]
   simp
def nx {α : Type} (j : Nat) (p : X × α) : Int × α :=
 match p.1 with
 | .normal => (IntKind.i64.wrap ((j : Int) + 1), p.2)
 | _ => ((j : Int), p.2)
variable {C : Cfg} {N : Nat} {rel : List (Nat × Cv)} {B : Code} {id : Nat} {α : Type}
theorem ldT_rg (ok : CfgOk C) (sp : SpecOK C) {k : Nat} (hk : k < 4611686018427387904) (st : Int × α → List D) (step : Nat → α → X × α) (inv : Nat → α → Prop)
  (hr : ∀ (j : Nat) a, j < k → inv j a → RdOK C N rel B (st ((j : Int), a)) (step j a).1 (st (nx j (step j a))))
  (hn : ∀ (j : Nat) a a', j < k → inv j a → step j a = (.normal, a') → inv (j + 1) a')
  (he : ∀ a, inv k a → RdOK C N rel B (st ((k : Int), a)) (.exit id) (st ((k : Int), a)))
  {a0 : α} (h0 : inv 0 a0) {x : X} {p : Int × α} (hx : rgRun id step k 0 a0 = (x, p)) (hid : Nat.ble 100000 id = false := by rfl) : LdT C (ldP id N rel (outX id x) (st p)) (.loop B) (st (0, a0)) := by
 refine ldT_iter ok sp st (rgNext id k step) (fun p => ∃ j : Nat, p.1 = (j : Int) ∧ j ≤ k ∧ inv j p.2) (fun p ⟨j, hj, hle, hi⟩ => ?_) (fun p q ⟨j, hj, hle, hi⟩ hq => ?_) (a0 := (0, a0)) (b := p) (f := k + 1) ⟨0, rfl, by omega, h0⟩ ?_ hid
 ·obtain ⟨i, a⟩ := p
  simp only at hj hi
  subst hj
  unfold rgNext
  by_cases hlt : j < k
  ·have hd : decide ((j : Int) < k) = true := by simp [hlt]
   have := hr j a hlt hi
   simp only [hd, cond_true, Int.toNat_natCast]
   cases hs : step j a with
   | mk y b => rw [hs] at this; cases y <;> exact this
  ·have hd : decide ((j : Int) < k) = false := by simp; omega
   have hjk : j = k := by omega
   subst hjk
   simp only [hd, cond_false]
   exact he a hi
 ·obtain ⟨i, a⟩ := p
  simp only at hj hi
  subst hj
  unfold rgNext at hq
  by_cases hlt : j < k
  ·have hd : decide ((j : Int) < k) = true := by simp [hlt]
   simp only [hd, cond_true, Int.toNat_natCast] at hq
   cases hs : step j a with
   | mk y b =>
     rw [hs] at hq
     cases y with
     | normal =>
       simp only [Prod.mk.injEq, true_and] at hq
       subst hq
       exact ⟨j + 1, wrap_nat (by omega), by omega, hn j a b hlt hi hs⟩
     | exit id' => simp at hq
     | ret => simp at hq
  ·have hd : decide ((j : Int) < k) = false := by simp; omega
   simp only [hd, cond_false] at hq
   cases hq
 ·rw [← hx]; exact rg_iter id hk step k 0 a0 (by omega)
theorem ldT_ls (ok : CfgOk C) (sp : SpecOK C) {ks : List Kd} (l : List (Tup ks)) (hk : l.length < 4611686018427387904) (st : Int × α → List D) (g : Tup ks → α → X × α) (inv : Nat → α → Prop)
  (hr : ∀ (j : Nat) a, j < l.length → inv j a → RdOK C N rel B (st ((j : Int), a)) (g (nth l j) a).1 (st (nx j (g (nth l j) a))))
  (hn : ∀ (j : Nat) a a', j < l.length → inv j a → g (nth l j) a = (.normal, a') → inv (j + 1) a')
  (he : ∀ a, inv l.length a → RdOK C N rel B (st ((l.length : Int), a)) (.exit id) (st ((l.length : Int), a)))
  {a0 : α} (h0 : inv 0 a0) {x : X} {p : Int × α} (hx : lsRun id g l 0 a0 = (x, p)) (hid : Nat.ble 100000 id = false := by rfl) : LdT C (ldP id N rel (outX id x) (st p)) (.loop B) (st (0, a0)) :=
 ldT_rg ok sp hk st (fun j a => g (nth l j) a) inv hr hn he h0 ((rgRun_ls id (ks := ks) (g := g) [] l a0 (fun _ _ _ => rfl)).trans hx) hid
theorem fnD_lp {C : Cfg} (ok : CfgOk C) (sp : SpecOK C) {cs : List Ct} (hcs : Gds C cs) {g : FuncId} {fd : AFn} (hfd : C.fn g = some fd) {l : Ld} {n m : Nat} {b : Code} {pre ds : List D} {d : D}
  (h : bodyT (C.at cs) n [l] m fd ds = some ([(l, b, pre)], d)) (hl : LdT (C.at cs) l b pre) : FnD C g ds d := fnD_t ok sp hcs hfd h ⟨hl, trivial⟩
end
end Go.Am
namespace Go.Am
open Go
end Go.Am
namespace Go.Am
noncomputable section
open Go
def keyL : Kd → Bool
 | .pt => true
 | k => keyK k
section
variable {kk vk : Kd}
theorem getT_set (hk : keyL kk = true) (k k' : El kk) (v : El vk) : ∀ (es : List (El kk × El vk)), hasT k' es = true → getT k (setT k' v es) = cond (keyEq kk k k') v (getT k es)
 | [], h => by simp [hasT] at h
 | e :: es, h => by
   unfold setT
   cases he : keyEq kk k' e.1 with
   | true =>
     have hee := keyEq_eq he
     simp only [getT]
     rw [hee]
     cases keyEq kk k e.1 <;> rfl
   | false =>
     have hr : hasT k' es = true := by simpa [hasT, he] using h
     simp only [getT]
     rw [getT_set hk k k' v es hr]
     cases hke : keyEq kk k e.1 with
     | false => rfl
     | true =>
       have : keyEq kk k k' = false := by
        cases hkk : keyEq kk k k' with
        | false => rfl
        | true =>
          have h1 := keyEq_eq hkk
          subst h1
          rw [he] at hke; cases hke
       rw [this]; rfl
theorem getT_app (hk : keyL kk = true) (k k' : El kk) (v : El vk) : ∀ (es : List (El kk × El vk)), hasT k' es = false → getT k (es ++ [(k', v)]) = cond (keyEq kk k k') v (getT k es)
 | [], _ => by
   simp only [List.nil_append, getT]
   cases keyEq kk k k' <;> rfl
 | e :: es, h => by
   have h2 : keyEq kk k' e.1 = false ∧ hasT k' es = false := by simpa [hasT] using h
   simp only [List.cons_append, getT]
   rw [getT_app hk k k' v es h2.2]
   cases hke : keyEq kk k e.1 with
   | false => rfl
   | true =>
     have : keyEq kk k k' = false := by
      cases hkk : keyEq kk k k' with
      | false => rfl
      | true =>
        have h1 := keyEq_eq hkk
        subst h1
        rw [h2.1] at hke; cases hke
     rw [this]; rfl
theorem getT_put (hk : keyL kk = true) (k k' : El kk) (v : El vk) (es : List (El kk × El vk)) : getT k (putM k' v es) = cond (keyEq kk k k') v (getT k es) := by
 unfold putM
 cases h : hasT k' es with
 | true => exact getT_set hk k k' v es h
 | false => exact getT_app hk k k' v es h
end
theorem GiveOK.nil_vec {G : Gl} {GB : Nat} {w w' : World} {ks : List Kd} (hf : okK ks = true) (hs : 0 < ks.length) {vs : List Value} {u : Value} (h : GiveOK G GB w w' (.tup (.val (.slice none 0 0) :: vs.map .val)) u) : GiveOK G GB w w' (.tup (.vec ks [] :: vs.map .val)) u := fun r0 h0 H0 => by
 obtain ⟨r1, S, H, v⟩ := h r0 h0 H0
 have himp : ∀ (vs : List Value) (h : Heap), imps true (vs.map .val) h = (vs, h) := fun vs => by
  induction vs with
  | nil => intro h; rfl
  | cons v vs ih => intro h; simp [imps, imp, ih]
 simp only [imp, imps, himp] at S H v ⊢
 obtain ⟨a1, a2, _⟩ := H.nothing hf hs [] rfl true
 refine ⟨_, S.trans a2, a1, ?_⟩
 obtain ⟨us, rfl, hus⟩ : ∃ us : List Value, u = .tuple us.toArray ∧ VRs r1 (.slice none 0 0 :: vs) us := by
  cases v
  ·rename_i hh; simp [Am.scal] at hh
  ·rename_i xs' hx hh; exact ⟨xs'.toList, by simp, VRs.of_arr hx hh⟩
 refine VRs.tup ?_
 cases us with
 | nil => simp [VRs] at hus
 | cons u0 us =>
   obtain ⟨u1, e1, v1⟩ := hus.2 0 _ rfl
   simp only [List.getElem?_cons_zero, Option.some.injEq] at e1
   subst e1
   have := v1.scal_eq rfl
   subst this
   have le : Ren.le r1 (r1.put (K0 + h0.length) ⟨0, 0, 0, 0, ks.length, no⟩) := Ren.le_put H _
   refine VRs.cons ?_ ⟨by have := hus.1; simpa using this, fun j x hj => ?_⟩
   ·exact VR.asl (K0 + h0.length) 0 ks.length _ (.slice none 0 0) (Ren.put_self ..) (by omega) ⟨rfl, hs, by simp, .inl ⟨rfl, .inl rfl⟩⟩
   ·obtain ⟨y, hy, hv⟩ := hus.2 (j + 1) x (by simpa using hj)
    exact ⟨y, by simpa using hy, hv.mono le⟩
theorem FnD.nil_vec {C : Cfg} {g : FuncId} {ds : List D} {ks : List Kd} (hf : okK ks = true) (hs : 0 < ks.length) {vs : List Value} (h : FnD C g ds (.tup (.val (.slice none 0 0) :: vs.map .val))) : FnD C g ds (.tup (.vec ks [] :: vs.map .val)) := fun w args hb hi =>
 (h w args hb hi).mono fun _ _ ⟨u, a, b⟩ => ⟨u, a, b.nil_vec hf hs⟩
end
end Go.Am
namespace Go.Am
noncomputable section
open Go Go.RowKit
variable {G : Gl} {GB : Nat}
end
end Go.Am
namespace Go.Am
noncomputable section
open Go Go.RowKit
def FnM (C : Cfg) (g : FuncId) (ds : List D) (d : D) : Prop :=
 ∀ (w : World) (args : Array Value) (r1 : Ren), HR C.G C.GB r1 (imps false ds []).2 w → VRs r1 (imps false ds []).1 args.toList →
  Calls C.P g args w fun e w' => ∃ u r2 h2 v h3 n, e = .returned u ∧ StepF r1 (imps false ds []).2 w r2 h2 w' ∧ HR C.G C.GB r2 h2 w' ∧ VR r2 v u ∧ rdO n h2 v = some (d, h3)
def FT.map {α β : Type} (f : α → β) : FT α → FT β
 | .bad => .bad
 | .leaf x => .leaf (f x)
 | .br b x y => .br b (x.map f) (y.map f)
theorem FT.map_run {α β : Type} (f : α → β) : ∀ (t : FT α) {y : β}, (t.map f).run = some y → ∃ x, t.run = some x ∧ y = f x
 | .bad, y, h => by cases h
 | .leaf x, y, h => by cases h; exact ⟨x, rfl, rfl⟩
 | .br b s t, y, h => by
   cases b with
   | true => exact FT.map_run f s h
   | false => exact FT.map_run f t h
variable {C : Cfg}
theorem thr_len {f : Heap → Value → Option (D × Heap)} (hf : ∀ h v d h', f h v = some (d, h') → h'.length = h.length) : ∀ (vs : List Value) (h : Heap) (ds : List D) (h' : Heap), thr f vs h = some (ds, h') → h'.length = h.length
 | [], h, ds, h', hd => by simp only [thr, Option.some.injEq, Prod.mk.injEq] at hd; rw [hd.2]
 | v :: vs, h, ds, h', hd => by
   simp only [thr] at hd
   cases h1 : f h v with
   | none => rw [h1] at hd; cases hd
   | some x =>
     obtain ⟨d, hh⟩ := x
     simp only [h1] at hd
     cases h2 : thr f vs hh with
     | none => rw [h2] at hd; cases hd
     | some y =>
       obtain ⟨ds', hh2⟩ := y
       simp only [h2, Option.some.injEq, Prod.mk.injEq] at hd
       obtain ⟨_, rfl⟩ := hd
       exact (thr_len hf vs hh ds' hh2 h2).trans (hf h v d hh h1)
theorem rdM_len : ∀ (n : Nat) (h : Heap) (v : Value) (d : D) (h' : Heap), rdM n h v = some (d, h') → h'.length = h.length
 | 0, h, v, d, h', hd => by simp [rdM, rdQ] at hd
 | n + 1, h, v, d, h', hd => by
   have ih := thr_len (rdM_len n)
   unfold rdM rdQ at hd
   repeat' split at hd
   all_goals first
    | (cases hd; done)
    | (simp only [Option.some.injEq, Prod.mk.injEq] at hd
       obtain ⟨_, rfl⟩ := hd
       first
        | rfl
        | exact kill_length _ _
        | exact ih _ _ _ _ (by assumption)
        | exact (ih _ _ _ _ (by assumption)).trans ((kill_length _ _).trans (kill_length _ _))
        | (rename_i e1 _ _ _ e2 _; exact (ih _ _ _ _ e2).trans (ih _ _ _ _ e1)))
section
variable {N : Nat} {rel : List (Nat × Cv)} {B : Code} {id : Nat} {α : Type}
end
def Cfg.onH (C : Cfg) (hs : List (Nat × (List Value → Heap → FT (Value × Heap)))) : Cfg := { C with mode := fun f => modeH C.mode hs f }
where
 modeH (m : FuncId → Am.Mode) : List (Nat × (List Value → Heap → FT (Value × Heap))) → FuncId → Am.Mode
  | [], f => m f
  | c :: cs, f => match Nat.beq f c.1 with
    | true => .specH c.2
    | false => modeH m cs f
def GdH (C : Cfg) (c : Nat × (List Value → Heap → FT (Value × Heap))) : Prop := ∀ argv h v h', (c.2 argv h).run = some (v, h') → CallI C c.1 argv h v h'
def GdsH (C : Cfg) : List (Nat × (List Value → Heap → FT (Value × Heap))) → Prop
 | [] => True
 | c :: cs => GdH C c ∧ GdsH C cs
theorem onH_mode {C : Cfg} : ∀ {hs : List (Nat × (List Value → Heap → FT (Value × Heap)))}, GdsH C hs → SpecOK C → ∀ (g : FuncId) (M : Am.Mode), Cfg.onH.modeH C.mode hs g = M →
  C.mode g = M ∨ ∃ F, M = .specH F ∧ ∀ argv h v h', (F argv h).run = some (v, h') → CallI C g argv h v h'
 | [], _, _, g, M, h => .inl h
 | c :: cs, ⟨h1, h2⟩, sp, g, M, h => by
   unfold Cfg.onH.modeH at h
   split at h
   ·rename_i e
    rw [Nat.beq_eq] at e
    subst e
    exact .inr ⟨c.2, h.symm, h1⟩
   ·exact onH_mode h2 sp g M h
theorem specs_onH {C : Cfg} (sp : SpecOK C) {hs : List (Nat × (List Value → Heap → FT (Value × Heap)))} (hh : GdsH C hs) : SpecOK (C.onH hs) := by
 refine ⟨fun g Fn hm => ?_, fun g Fn hm => ?_, fun g Fn hm => ?_, fun g Fn hm => ?_⟩
 ·rcases onH_mode hh sp g _ hm with h | ⟨F, h, _⟩
  ·exact sp.1 g Fn h
  ·cases h
 ·rcases onH_mode hh sp g _ hm with h | ⟨F, h, _⟩
  ·exact sp.2.1 g Fn h
  ·cases h
 ·rcases onH_mode hh sp g _ hm with h | ⟨F, h, _⟩
  ·exact sp.2.2.1 g Fn h
  ·cases h
 ·rcases onH_mode hh sp g _ hm with h | ⟨F, h, k⟩
  ·exact sp.2.2.2 g Fn h
  ·cases h
   exact k
theorem Cfg.onH_ok {C : Cfg} (ok : CfgOk C) (hs : List (Nat × (List Value → Heap → FT (Value × Heap)))) : CfgOk (C.onH hs) := ⟨ok.ty, ok.fn, ok.mixed⟩
theorem Gds.onH {C : Cfg} {hs : List (Nat × (List Value → Heap → FT (Value × Heap)))} : ∀ {cs : List Ct}, Gds C cs → Gds (C.onH hs) cs
 | [], _ => trivial
 | _ :: _, h => ⟨h.1, Gds.onH h.2⟩
theorem FnM.sy {C : Cfg} {cs : List Ct} {g : FuncId} {ds : List D} {d : D} (h : FnM (C.at cs) g ds d) : FnM C g ds d := fun w args r1 H v1 =>
 (h w args r1 (HR.sy.2 H) v1).mono fun _ _ ⟨u, r2, h2, v, h3, n, a, b, c, d, e⟩ => ⟨u, r2, h2, v, h3, n, a, b, HR.sy.1 c, d, e⟩
def Cfg.onI (C : Cfg) (gs : List Nat) : Cfg := { C with mode := fun f => match gs.any (Nat.beq f) with
 | true => .inl
 | false => C.mode f }
theorem specs_onI {C : Cfg} (sp : SpecOK C) (gs : List Nat) : SpecOK (C.onI gs) := by
 have key : ∀ g M, (C.onI gs).mode g = M → M = .inl ∨ C.mode g = M := fun g M h => by
  unfold Cfg.onI at h
  simp only at h
  split at h
  ·exact .inl h.symm
  ·exact .inr h
 refine ⟨fun g Fn hm => ?_, fun g Fn hm => ?_, fun g Fn hm => ?_, fun g Fn hm => ?_⟩
 ·rcases key g _ hm with h | h
  ·cases h
  ·exact sp.1 g Fn h
 ·rcases key g _ hm with h | h
  ·cases h
  ·exact sp.2.1 g Fn h
 ·rcases key g _ hm with h | h
  ·cases h
  ·exact sp.2.2.1 g Fn h
 ·rcases key g _ hm with h | h
  ·cases h
  ·exact sp.2.2.2 g Fn h
theorem Cfg.onI_ok {C : Cfg} (ok : CfgOk C) (gs : List Nat) : CfgOk (C.onI gs) := ⟨ok.ty, ok.fn, ok.mixed⟩
end
end Go.Am
namespace Go.Am
noncomputable section
open Go Go.RowKit
variable {C : Cfg}
def okm : Value → Bool
 | .slice (some ⟨b, _, some _⟩) _ _ => Nat.beq b (K0 + 1)
 | v => scal v
def lft (bw : Nat) : Value → Value
 | .slice (some ⟨_, t, some lo⟩) n sz => .slice (some ⟨bw, t, some lo⟩) n sz
 | v => v
theorem vr_lft {r r0 : Ren} {bw : Nat} {tw : Tgt} (h0 : r0 (K0 + 1) = some tw) (h : r bw = some tw) (hk : K0 ≤ bw) {c u : Value} (hc : okm c = true) : VR r0 c u ↔ VR r (lft bw c) u := by
 unfold okm at hc
 split at hc
 ·rename_i b tg lo n sz
  rw [Nat.beq_eq] at hc
  subst hc
  constructor
  ·intro hv
   cases hv with
   | scal _ hs => cases hs
   | vsl _ _ _ t _ h1 h2 h3 h4 => rw [h0] at h1; cases h1; exact .vsl bw n sz tw u h hk h3 h4
   | sub _ _ _ _ t _ h1 h2 h3 => rw [h0] at h1; cases h1; exact .sub bw lo n sz tw u h hk h3
   | asl _ _ _ t _ h1 h2 h3 => rw [h0] at h1; cases h1; exact .asl bw n sz tw u h hk h3
  ·intro hv
   have hv : VR r (.slice (some ⟨bw, tg, some lo⟩) n sz) u := hv
   cases hv with
   | scal _ hs => cases hs
   | vsl _ _ _ t _ h1 h2 h3 h4 => rw [h] at h1; cases h1; exact .vsl (K0 + 1) n sz tw u h0 (by omega) h3 h4
   | sub _ _ _ _ t _ h1 h2 h3 => rw [h] at h1; cases h1; exact .sub (K0 + 1) lo n sz tw u h0 (by omega) h3
   | asl _ _ _ t _ h1 h2 h3 => rw [h] at h1; cases h1; exact .asl (K0 + 1) n sz tw u h0 (by omega) h3
 ·rename_i hne
  have e : lft bw c = c := by
   unfold lft
   split
   ·rename_i b t lo n sz; exact absurd rfl (hne b t lo n sz)
   ·rfl
  rw [e]
  exact ⟨fun hv => by rw [hv.scal_eq hc]; exact .scal c hc, fun hv => by rw [hv.scal_eq hc]; exact .scal c hc⟩
theorem callI_meth {g : FuncId} {h : Heap} {b bw : Nat} {cells cells' : List Value} {ks : List Kd} {l : List (Tup ks)} {o : Bool} {avs : List Value} {v : Value} {h0' : Heap}
  (hb : h.at b = .row (cells.map (lft bw)) true none) (hw : h.at bw = .vec ks l o) (hc : ∀ c ∈ cells, okm c = true) (hc' : ∀ c ∈ cells', okm c = true) (hs : ∀ a ∈ avs, scal a = true) (hv : scal v = true)
  (_ : cells'.length = cells.length)
  (hrun : CallI C g (.pointer (some ⟨K0, 0, none⟩) :: avs) [.row cells true none, .vec ks l false] v h0') (hr : h0'.at K0 = .row cells' true none) :
  CallI C g (.pointer (some ⟨b, 0, none⟩) :: avs) h v (h.put b (.row (cells'.map (lft bw)) true none)) := by
 intro F N r w args hF hro H hargs
 have hbo : (h.at b).owned = true := by rw [hb]; rfl
 have hba := AObj.alive_of_owned hbo
 have hwa : (h.at bw).alive = true := by rw [hw]; rfl
 obtain ⟨hbk, hbl⟩ := at_lt hba
 obtain ⟨hwk, _⟩ := at_lt hwa
 obtain ⟨t, rb, tlt, ob⟩ := H.obj b hba
 obtain ⟨tw, rw_, twlt, ow⟩ := H.obj bw hwa
 have hne : b ≠ bw := fun e => by rw [e, hw] at hb; cases hb
 have happ : ∀ b1 t1, (h.at b1).alive = true → r b1 = some t1 → t1.blk = t.blk → b1 = b := fun b1 t1 ha h1 he => by
  rcases H.exc b b1 t t1 hbo ha rb h1 he.symm with e | ⟨e, _⟩
  ·exact e.symm
  ·rw [hb] at e; cases e
 let r0 : Ren := fun i => if i = K0 then some t else if i = K0 + 1 then some tw else none
 have r00 : r0 K0 = some t := if_pos rfl
 have r01 : r0 (K0 + 1) = some tw := by show (if K0 + 1 = K0 then _ else if K0 + 1 = K0 + 1 then some tw else none) = _; rw [if_neg (by omega), if_pos rfl]
 have a0 : Heap.at [.row cells true none, .vec ks l false] K0 = .row cells true none := rfl
 have a1 : Heap.at [.row cells true none, .vec ks l false] (K0 + 1) = .vec ks l false := rfl
 have ax : ∀ i, i ≠ K0 → i ≠ K0 + 1 → (Heap.at [.row cells true none, .vec ks l false] i) = .dead := fun i h1 h2 => by
  cases ha : (Heap.at [.row cells true none, .vec ks l false] i).alive with
  | true =>
    obtain ⟨k1, k2⟩ := at_lt ha
    have : i < K0 + 2 := k2
    omega
  | false =>
    cases hx : Heap.at [.row cells true none, .vec ks l false] i <;> first | rfl | (rw [hx] at ha; cases ha)
 have H0 : HR C.G C.GB r0 [.row cells true none, .vec ks l false] w := by
  refine ⟨fun i ti hi => ?_, fun i hi => ?_, fun i j ti tj hi hj h1 h2 he => ?_, H.glob, H.gb, fun i ti hi h1 => ?_, fun i ti hi h1 k hk => ?_⟩
  ·have hi : (if i = K0 then some t else if i = K0 + 1 then some tw else none) = some ti := hi
   show K0 ≤ i ∧ i < K0 + 2
   split at hi
   ·omega
   ·split at hi
    ·omega
    ·cases hi
  ·by_cases e : i = K0
   ·subst e
    refine ⟨t, r00, tlt, ?_⟩
    rw [a0]
    rw [hb] at ob
    obtain ⟨⟨o1, o2⟩, o3, o4⟩ := ob
    rw [List.length_map] at o1 o2
    refine ⟨⟨o1, o2⟩, fun j c hj => ?_, o4⟩
    obtain ⟨u, hu, hvu⟩ := o3 j (lft bw c) (by rw [List.getElem?_map, hj]; rfl)
    exact ⟨u, hu, (vr_lft r01 rw_ hwk (hc c (List.mem_of_getElem? hj))).2 hvu⟩
   ·by_cases e1 : i = K0 + 1
    ·subst e1
     refine ⟨tw, r01, twlt, ?_⟩
     rw [a1]
     rw [hw] at ow
     obtain ⟨p1, p2, p3, p4⟩ := ow
     exact ⟨p1, p2, p3, fun h => ⟨(p4 h).1, (p4 h).2.1, fun h => by cases h⟩⟩
    ·rw [ax i e e1] at hi; cases hi
  ·have ei : i = K0 := Classical.byContradiction fun e => by
    by_cases e1 : i = K0 + 1
    ·subst e1; rw [a1] at hi; simp [AObj.owned] at hi
    ·rw [ax i e e1] at hi; cases hi
   subst ei
   rw [r00] at h1
   cases h1
   by_cases e : j = K0
   ·exact .inl e.symm
   ·by_cases e1 : j = K0 + 1
    ·subst e1
     rw [r01] at h2
     cases h2
     exact absurd (happ bw tw hwa rw_ he.symm).symm hne
    ·rw [ax j e e1] at hj; cases hj
  ·have ei : i = K0 := Classical.byContradiction fun e => by
    by_cases e1 : i = K0 + 1
    ·subst e1; rw [a1] at hi; simp [AObj.owned] at hi
    ·rw [ax i e e1] at hi; cases hi
   subst ei
   rw [r00] at h1
   cases h1
   exact H.own b t hbo rb
  ·have no0 : ¬ Owned r h k → ¬ Owned r0 [.row cells true none, .vec ks l false] k := fun hn ⟨i2, t2, q1, q2, q3⟩ => by
    have ei : i2 = K0 := Classical.byContradiction fun e => by
     by_cases e1 : i2 = K0 + 1
     ·subst e1; rw [a1] at q1; simp [AObj.owned] at q1
     ·rw [ax i2 e e1] at q1; cases q1
    subst ei
    rw [r00] at q2
    cases q2
    exact hn ⟨b, t, hbo, rb, q3⟩
   by_cases e : i = K0
   ·subst e
    rw [r00] at h1; cases h1
    obtain ⟨x, y⟩ := H.frz b t hba rb k hk
    exact ⟨x, no0 y⟩
   ·by_cases e1 : i = K0 + 1
    ·subst e1
     rw [r01] at h1; cases h1
     obtain ⟨x, y⟩ := H.frz bw tw hwa rw_ k hk
     exact ⟨x, no0 y⟩
    ·rw [ax i e e1] at hi; cases hi
 have hA0 : VRs r0 (.pointer (some ⟨K0, 0, none⟩) :: avs) args.toList := by
  refine ⟨hargs.1, fun j x hj => ?_⟩
  cases j with
  | zero =>
    cases hj
    obtain ⟨u, hu, hvu⟩ := hargs.2 0 _ rfl
    refine ⟨u, hu, ?_⟩
    cases hvu with
    | scal _ hs => simp [Am.scal] at hs; omega
    | ptr _ _ t1 h1 hk => rw [rb] at h1; cases h1; exact .ptr K0 0 t r00 (Nat.le_refl _)
  | succ j =>
    have hj : avs[j]? = some x := hj
    obtain ⟨u, hu, hvu⟩ := hargs.2 (j + 1) x hj
    have hx := hs x (List.mem_of_getElem? hj)
    refine ⟨u, hu, ?_⟩
    rw [hvu.scal_eq hx]
    exact .scal x hx
 have own0 : ∀ k, Owned r0 [.row cells true none, .vec ks l false] k → k = t.blk := fun k ⟨i, ti, h1, h2, h3⟩ => by
  have ei : i = K0 := Classical.byContradiction fun e => by
   by_cases e1 : i = K0 + 1
   ·subst e1; rw [a1] at h1; simp [AObj.owned] at h1
   ·rw [ax i e e1] at h1; cases h1
  subst ei
  rw [r00] at h2
  cases h2
  exact h3.symm
 have hput : ∀ b1, (h.put b (.row (cells'.map (lft bw)) true none)).at b1 = if b1 = b then .row (cells'.map (lft bw)) true none else h.at b1 := fun b1 => at_put hbk hbl _ b1
 refine CallsIn.mono (hrun F N r0 w args hF hro H0 hA0) fun e w' ⟨u, r0', he, S, H0', hvu⟩ => ?_
 obtain ⟨t', rt', tlt', ob'⟩ := H0'.obj K0 (by rw [hr]; rfl)
 have et : t' = t := by rw [S.le K0 t r00] at rt'; exact (Option.some.inj rt').symm
 subst et
 have r01' : r0' (K0 + 1) = some tw := S.le _ _ r01
 have hown : ∀ b1, ((h.put b (.row (cells'.map (lft bw)) true none)).at b1).owned = (h.at b1).owned := fun b1 => by rw [hput]; split <;> simp_all [AObj.owned]
 have haliv : ∀ b1, ((h.put b (.row (cells'.map (lft bw)) true none)).at b1).alive = (h.at b1).alive := fun b1 => by rw [hput]; split <;> simp_all [AObj.alive]
 have hmate : ∀ b1, ((h.put b (.row (cells'.map (lft bw)) true none)).at b1).mate = (h.at b1).mate := fun b1 => by rw [hput]; split <;> simp_all [AObj.mate]
 refine ⟨u, r, he, ⟨.refl r, S.os, S.tape, S.output, S.size, fun k hk ho => S.keep k hk fun h0 => ho ⟨b, t', hbo, rb, (own0 k h0).symm⟩, fun k _ ⟨i, ti, h1, h2, h3⟩ => ⟨i, ti, by rw [← hown]; exact h1, h2, h3⟩, by rw [put_length]; exact Nat.le_refl _, fun _ _ h => .inl h, fun k _ ⟨i, ti, h1, h2, h3⟩ => ⟨i, ti, by rw [← hown]; exact h1, h2, h3⟩⟩, ?_, ?_⟩
 ·refine ⟨fun i ti hi => by rw [put_length]; exact H.dom i ti hi, fun i hi => ?_, fun i j ti tj hi hj h1 h2 he => ?_, H0'.glob, ⟨Nat.le_trans H.gb.1 S.size, H.gb.2⟩, fun i ti hi h1 => H.own i ti (by rw [← hown]; exact hi) h1, fun i ti hi h1 k hk => let ⟨x, y⟩ := H.frz i ti (by rw [← haliv]; exact hi) h1 k hk; ⟨Nat.lt_of_lt_of_le x S.size, fun ⟨i2, t2, q1, q2, q3⟩ => y ⟨i2, t2, by rw [← hown]; exact q1, q2, q3⟩⟩⟩
  ·rw [haliv] at hi
   by_cases ei : i = b
   ·subst ei
    refine ⟨t', rb, tlt', ?_⟩
    rw [hput, if_pos rfl]
    rw [hr] at ob'
    obtain ⟨⟨o1, o2⟩, o3, o4⟩ := ob'
    refine ⟨by rw [List.length_map]; exact ⟨o1, o2⟩, fun j c hj => ?_, o4⟩
    rw [List.getElem?_map] at hj
    cases hx : cells'[j]? with
    | none => rw [hx] at hj; cases hj
    | some x =>
      rw [hx] at hj
      cases hj
      obtain ⟨u1, hu1, hv1⟩ := o3 j x hx
      exact ⟨u1, hu1, (vr_lft r01' rw_ hwk (hc' x (List.mem_of_getElem? hx))).1 hv1⟩
   ·obtain ⟨t1, h1, h2, h3⟩ := H.obj i hi
    refine ⟨t1, h1, Nat.lt_of_lt_of_le h2 S.size, ?_⟩
    rw [hput, if_neg ei]
    exact ObjR.of_block (.refl r) (S.keep _ h2 fun h0 => ei (happ i t1 hi h1 (own0 _ h0))) (fun k hk => S.keep k (H.frz i t1 hi h1 k hk).1 fun h0 => (H.frz i t1 hi h1 k hk).2 ⟨b, t', hbo, rb, (own0 k h0).symm⟩) h3
  ·rw [hown] at hi
   rw [haliv] at hj
   rw [hmate, hmate]
   exact H.exc i j ti tj hi hj h1 h2 he
 ·rw [hvu.scal_eq hv]
  exact .scal v hv
end
end Go.Am
namespace Go.Am
noncomputable section
open Go Go.RowKit
variable {C : Cfg}
theorem HR.reword {G : Gl} {GB : Nat} {r : Ren} {h : Heap} {w : World} (H : HR G GB r h w) {b : Nat} {cells cells' : List Value} (hb : h.at b = .row cells true none) (hlen : cells'.length = cells.length)
  (hc : ∀ (j : Nat) (c' : Value), cells'[j]? = some c' → ∃ c, cells[j]? = some c ∧ ∀ u, VR r c u → VR r c' u) :
  HR G GB r (h.put b (.row cells' true none)) w ∧ (∀ k, Owned r (h.put b (.row cells' true none)) k ↔ Owned r h k) ∧ ∀ k, Mine r (h.put b (.row cells' true none)) k ↔ Mine r h k := by
 have hba : (h.at b).alive = true := by rw [hb]; rfl
 obtain ⟨hbk, hbl⟩ := at_lt hba
 have hput : ∀ b1, (h.put b (.row cells' true none)).at b1 = if b1 = b then .row cells' true none else h.at b1 := fun b1 => at_put hbk hbl _ b1
 have hown : ∀ b1, ((h.put b (.row cells' true none)).at b1).owned = (h.at b1).owned := fun b1 => by rw [hput]; split <;> simp_all [AObj.owned]
 have haliv : ∀ b1, ((h.put b (.row cells' true none)).at b1).alive = (h.at b1).alive := fun b1 => by rw [hput]; split <;> simp_all [AObj.alive]
 have hmate : ∀ b1, ((h.put b (.row cells' true none)).at b1).mate = (h.at b1).mate := fun b1 => by rw [hput]; split <;> simp_all [AObj.mate]
 refine ⟨⟨fun i ti hi => by rw [put_length]; exact H.dom i ti hi, fun i hi => ?_, fun i j ti tj hi hj h1 h2 he => ?_, H.glob, H.gb, fun i ti hi h1 => H.own i ti (by rw [← hown]; exact hi) h1, fun i ti hi h1 k hk => let ⟨x, y⟩ := H.frz i ti (by rw [← haliv]; exact hi) h1 k hk; ⟨x, fun ⟨i2, t2, q1, q2, q3⟩ => y ⟨i2, t2, by rw [← hown]; exact q1, q2, q3⟩⟩⟩,
  fun k => ⟨fun ⟨i, ti, h1, h2, h3⟩ => ⟨i, ti, by rw [← hown]; exact h1, h2, h3⟩, fun ⟨i, ti, h1, h2, h3⟩ => ⟨i, ti, by rw [hown]; exact h1, h2, h3⟩⟩, fun k => ⟨fun ⟨i, ti, h1, h2, h3⟩ => ⟨i, ti, by rw [← hown]; exact h1, h2, h3⟩, fun ⟨i, ti, h1, h2, h3⟩ => ⟨i, ti, by rw [hown]; exact h1, h2, h3⟩⟩⟩
 ·rw [haliv] at hi
  obtain ⟨t, h1, h2, h3⟩ := H.obj i hi
  refine ⟨t, h1, h2, ?_⟩
  rw [hput]
  by_cases ei : i = b
  ·subst ei
   rw [if_pos rfl]
   rw [hb] at h3
   obtain ⟨⟨o1, o2⟩, o3, o4⟩ := h3
   refine ⟨by rw [hlen]; exact ⟨o1, o2⟩, fun j c hj => ?_, o4⟩
   obtain ⟨c0, hj0, himp⟩ := hc j c hj
   obtain ⟨u, hu, hv⟩ := o3 j c0 hj0
   exact ⟨u, hu, himp u hv⟩
  ·rw [if_neg ei]; exact h3
 ·rw [hown] at hi
  rw [haliv] at hj
  rw [hmate, hmate]
  exact H.exc i j ti tj hi hj h1 h2 he
theorem CallI.reword {g : FuncId} {argv : List Value} {h h1 : Heap} {v : Value} (H : CallI C g argv h v h1) {b : Nat} {cells cells' : List Value} (hb : h1.at b = .row cells true none) (hlen : cells'.length = cells.length)
  (hc : ∀ r w, HR C.G C.GB r h1 w → ∀ (j : Nat) (c' : Value), cells'[j]? = some c' → ∃ c, cells[j]? = some c ∧ ∀ u, VR r c u → VR r c' u) : CallI C g argv h v (h1.put b (.row cells' true none)) := by
 intro F n r w args hF hro HH hargs
 refine CallsIn.mono (H F n r w args hF hro HH hargs) fun e w' ⟨u, r', he, S, H', hv⟩ => ?_
 obtain ⟨K, o⟩ := HR.reword H' hb hlen (hc r' w' H')
 exact ⟨u, r', he, ⟨S.le, S.os, S.tape, S.output, S.size, S.keep, fun k hk ho => S.own k hk ((o.1 k).1 ho), by rw [put_length]; exact S.len, S.fresh, fun k hk ho => S.mine k hk ((o.2 k).1 ho)⟩, K, hv⟩
theorem CallI.before {g : FuncId} {argv : List Value} {h h1 : Heap} {v : Value} {b : Nat} {cells cells' : List Value} (H : CallI C g argv (h.put b (.row cells' true none)) v h1) (hb : h.at b = .row cells true none) (hlen : cells'.length = cells.length)
  (hc : ∀ r w, HR C.G C.GB r h w → ∀ (j : Nat) (c' : Value), cells'[j]? = some c' → ∃ c, cells[j]? = some c ∧ ∀ u, VR r c u → VR r c' u) : CallI C g argv h v h1 := by
 intro F n r w args hF hro HH hargs
 obtain ⟨K, o⟩ := HR.reword HH hb hlen (hc r w HH)
 refine CallsIn.mono (H F n r w args hF hro K hargs) fun e w' ⟨u, r', he, S, H', hv⟩ => ?_
 have sl := S.len
 rw [put_length] at sl
 exact ⟨u, r', he, ⟨S.le, S.os, S.tape, S.output, S.size, fun k hk ho => S.keep k hk fun x => ho ((o.1 k).1 x), fun k hk ho => (o.1 k).1 (S.own k hk ho), sl, fun b t hb => by have := S.fresh b t hb; rwa [put_length] at this, fun k hk ho => (o.2 k).1 (S.mine k hk ho)⟩, H', hv⟩
theorem put_put (h : Heap) (b : Nat) (o o' : AObj) : (h.put b o).put b o' = h.put b o' := by
 by_cases hb : K0 ≤ b
 ·rw [put_ge hb, put_ge hb, put_ge hb, List.set_set]
 ·rw [put_small hb, put_small hb, put_small hb]
theorem VR.part {r : Ren} {b o lo n sz : Nat} {u : Value} (h : VR r (.slice (some ⟨b, o, some lo⟩) n sz) u) : VR r (.slice (some ⟨b, 2, some lo⟩) n sz) u := by
 obtain ⟨t, hr, hk, hvs, _⟩ := h.vs'
 exact .sub b lo n sz t u hr hk hvs
end
end Go.Am
namespace Go.Am
noncomputable section
open Go Go.RowKit
def WfE : (k : Kd) → El k → Prop
 | .int k, n => (Lit.int k n).wf = true
 | .str, s => (show ByteArray from s).size ≤ maxLen
 | _, _ => True
def WfT : (ks : List Kd) → Tup ks → Prop
 | [], _ => True
 | k :: ks, x => WfE k x.1 ∧ WfT ks x.2
def Fit (ks : List Kd) (vs : List Value) : Prop := ∃ x : Tup ks, vs = toVs ks x ∧ WfT ks x
theorem Fit.nil : Fit [] [] := ⟨(), rfl, trivial⟩
theorem Fit.len {ks : List Kd} {vs : List Value} (h : Fit ks vs) : vs.length = ks.length := by
 obtain ⟨x, rfl, _⟩ := h
 exact toVs_len ks x
theorem Fit.append : ∀ {ks : List Kd} {vs : List Value} {ks' : List Kd} {vs' : List Value}, Fit ks vs → Fit ks' vs' → Fit (ks ++ ks') (vs ++ vs')
 | [], _, _, _, ⟨_, rfl, _⟩, h' => h'
 | k :: ks, _, ks', vs', ⟨x, rfl, hw⟩, h' => by
   obtain ⟨y, hy, hyw⟩ := Fit.append (ks := ks) (vs := toVs ks x.2) ⟨x.2, rfl, hw.2⟩ h'
   exact ⟨(x.1, y), by rw [toVs, List.cons_append, hy]; rfl, hw.1, hyw⟩
def fieldsK (L : TypeId → Option (List Kd)) (P : Program) : List Field → Nat → Option (List Kd)
 | [], _ => some []
 | f :: fs, off => match Nat.beq f.offset off, L f.type with
   | true, some ks => match Nat.beq (P.cellsOf f.type) ks.length, fieldsK L P fs (off + ks.length) with
     | true, some r => some (ks ++ r)
     | _, _ => none
   | _, _ => none
def leaves (P : Program) : Nat → TypeId → Option (List Kd)
 | 0, _ => none
 | m + 1, t => match P.underlying t with
   | some (.int k) => some [.int k]
   | some .string => some [.str]
   | some .bool => some [.bool]
   | some (.float k) => some [.float k]
   | some (.struct fs) => match fieldsK (leaves P m) P fs.toList 0 with
     | some ks => match Nat.beq (P.cellsOf t) ks.length with
       | true => some ks
       | false => none
     | none => none
   | some (.array n e) => match leaves P m e with
     | some ks => match Nat.beq (P.cellsOf e) ks.length && Nat.beq (P.cellsOf t) (n * ks.length) with
       | true => some (List.replicate n ks).flatten
       | false => none
     | none => none
   | _ => none
variable {H : Type} {enc : TypeId × Value → H} {P : Program} {w : World} {base : Nat} {sp : Nat → Bool} {held : Bool}
theorem mapM_all {α β : Type} {f : α → Option β} : ∀ {l : List α} {r : List β}, l.mapM f = some r → ∀ a ∈ l, ∃ b, f a = some b
 | [], _, _, a, ha => by cases ha
 | x :: l, r, h, a, ha => by
   simp only [List.mapM_cons, Option.bind_eq_bind, Option.bind_eq_some_iff, Option.pure_def, Option.some.injEq] at h
   obtain ⟨y, hy, ys, hys, _⟩ := h
   rcases List.mem_cons.1 ha with rfl | ha
   ·exact ⟨y, hy⟩
   ·exact mapM_all hys a ha
theorem fields_fit {L : TypeId → Option (List Kd)} {cs : List Value} {T : TypeId → List Value → Option (DataW H × List MemPlace)} (hL : ∀ t ks us x, L t = some ks → T t us = some x → Fit ks us) :
  ∀ (fs : List Field) (off : Nat) (ks : List Kd), fieldsK L P fs off = some ks → (∀ f ∈ fs, ∃ x, T f.type ((cs.drop f.offset).take (P.cellsOf f.type)) = some x) → Fit ks ((cs.drop off).take ks.length)
 | [], off, ks, h, _ => by simp [fieldsK] at h; subst h; simpa using Fit.nil
 | f :: fs, off, ks, h, hall => by
   unfold fieldsK at h
   split at h
   ·rename_i ks1 ho hl
    rw [Nat.beq_eq] at ho
    split at h
    ·rename_i r hb hr
     rw [Nat.beq_eq] at hb
     cases h
     obtain ⟨x, hx⟩ := hall f (by simp)
     have h1 := hL _ _ _ x hl hx
     have h2 := fields_fit hL fs _ r hr fun g hg => hall g (by simp [hg])
     rw [ho, hb] at h1
     have := h1.append h2
     rwa [← List.drop_drop, ← List.take_add, ← List.length_append] at this
    ·cases h
   ·cases h
theorem rep_fit {ks : List Kd} {cs : List Value} {c : Nat} (hc : c = ks.length) : ∀ (n : Nat), (∀ i, i < n → Fit ks ((cs.drop (i * c)).take c)) → Fit (List.replicate n ks).flatten (cs.take (n * c))
 | 0, _ => by simpa using Fit.nil
 | n + 1, h => by
   have h1 := rep_fit hc n fun i hi => h i (by omega)
   have h2 := h n (by omega)
   have e : (List.replicate (n + 1) ks).flatten = (List.replicate n ks).flatten ++ ks := by
    rw [List.replicate_succ', List.flatten_append]; simp
   rw [e]
   have := h1.append h2
   rwa [← List.take_add, show n * c + c = (n + 1) * c by rw [Nat.succ_mul]] at this
theorem int_fit {t : TypeId} {k : IntKind} {fuel : Nat} {cs : List Value} {x : DataW H × List MemPlace} (hu : P.underlying t = some (.int k)) (hx : DataW.trod enc P w base sp held fuel t cs = some x) : Fit [.int k] cs := by
 obtain ⟨n, rfl, _, hw⟩ := DataW.trod_int hu hx
 exact ⟨((show El (.int k) from n), ()), rfl, hw, trivial⟩
theorem str_fit {t : TypeId} {fuel : Nat} {cs : List Value} {x : DataW H × List MemPlace} (hu : P.underlying t = some .string) (hx : DataW.trod enc P w base sp held fuel t cs = some x) : Fit [.str] cs := by
 obtain ⟨s, rfl, _, hw⟩ := DataW.trod_string hu hx
 exact ⟨((show El .str from s), ()), rfl, hw, trivial⟩
theorem bool_fit {t : TypeId} {fuel : Nat} {cs : List Value} {x : DataW H × List MemPlace} (hu : P.underlying t = some .bool) (hx : DataW.trod enc P w base sp held fuel t cs = some x) : Fit [.bool] cs := by
 obtain ⟨b, rfl, _⟩ := DataW.trod_bool hu hx
 exact ⟨((show El .bool from b), ()), rfl, trivial, trivial⟩
theorem trod_float {t : TypeId} {k : FloatKind} {fuel : Nat} {cs : List Value} {x : DataW H × List MemPlace} (ht : P.underlying t = some (.float k)) (h : DataW.trod enc P w base sp held fuel t cs = some x) : ∃ b, cs = [.float k b] := by
 cases fuel with
 | zero => simp [DataW.trod] at h
 | succ n =>
   unfold DataW.trod at h
   rw [ht] at h
   split at h <;> simp_all
theorem float_fit {t : TypeId} {k : FloatKind} {fuel : Nat} {cs : List Value} {x : DataW H × List MemPlace} (hu : P.underlying t = some (.float k)) (hx : DataW.trod enc P w base sp held fuel t cs = some x) : Fit [.float k] cs := by
 obtain ⟨b, rfl⟩ := trod_float hu hx
 exact ⟨((show El (.float k) from b), ()), rfl, trivial, trivial⟩
theorem trod_fit : ∀ (m : Nat) (t : TypeId) (ks : List Kd) (fuel : Nat) (cs : List Value) (x : DataW H × List MemPlace), leaves P m t = some ks → DataW.trod enc P w base sp held fuel t cs = some x → Fit ks cs
 | 0, t, ks, fuel, cs, x, h, _ => by simp [leaves] at h
 | m + 1, t, ks, fuel, cs, x, h, hx => by
   unfold leaves at h
   split at h
   ·rename_i hu
    cases h
    exact int_fit hu hx
   ·rename_i hu
    cases h
    exact str_fit hu hx
   ·rename_i hu
    cases h
    exact bool_fit hu hx
   ·rename_i hu
    cases h
    exact float_fit hu hx
   ·rename_i fs hu
    cases fuel with
    | zero => simp [DataW.trod] at hx
    | succ fuel =>
      unfold DataW.trod at hx
      rw [hu] at hx
      split at h
      ·rename_i ks' hk
       split at h
       ·rename_i hb
        rw [Nat.beq_eq] at hb
        cases h
        simp only at hx
        split at hx
        ·rename_i hlen
         rw [Option.map_eq_some_iff] at hx
         obtain ⟨xs, hxs, _⟩ := hx
         have := fields_fit (P := P) (T := DataW.trod enc P w base sp held fuel) (cs := cs) (fun t ks us x h1 h2 => trod_fit m t ks fuel us x h1 h2) fs.toList 0 ks hk fun f hf => mapM_all hxs f hf
         rw [← hb, ← hlen] at this
         simpa using this
        ·cases hx
       ·cases h
      ·cases h
   ·rename_i n e hu
    cases fuel with
    | zero => simp [DataW.trod] at hx
    | succ fuel =>
      unfold DataW.trod at hx
      rw [hu] at hx
      split at h
      ·rename_i ks' hk
       split at h
       ·rename_i hb
        simp only [Bool.and_eq_true, Nat.beq_eq] at hb
        cases h
        simp only at hx
        split at hx
        ·rename_i hlen
         rw [Option.map_eq_some_iff] at hx
         obtain ⟨xs, hxs, _⟩ := hx
         have := rep_fit (ks := ks') (cs := cs) (c := P.cellsOf e) hb.1 n fun i hi => by
          obtain ⟨y, hy⟩ := mapM_all hxs i (by simpa using hi)
          exact trod_fit m e ks' fuel _ y hk hy
         rw [hb.1, ← hb.2, ← hlen] at this
         simpa using this
        ·cases hx
       ·cases h
      ·cases h
   ·cases h
theorem mapM_get {α β : Type} {f : α → Option β} : ∀ {l : List α} {r : List β}, l.mapM f = some r → ∀ (i : Nat) (a : α), l[i]? = some a → ∃ b, r[i]? = some b ∧ f a = some b
 | [], r, h, i, a, ha => by simp at ha
 | x :: l, r, h, i, a, ha => by
   simp only [List.mapM_cons, Option.bind_eq_bind, Option.bind_eq_some_iff, Option.pure_def, Option.some.injEq] at h
   obtain ⟨y, hy, ys, hys, rfl⟩ := h
   cases i with
   | zero => simp at ha; subst ha; exact ⟨y, rfl, hy⟩
   | succ i => exact mapM_get hys i a (by simpa using ha)
theorem trod_array_get {t e : TypeId} {n fuel : Nat} {cs : List Value} {ds : List (DataW H)} {ps : List MemPlace} (hu : P.underlying t = some (.array n e)) (h : DataW.trod enc P w base sp held fuel t cs = some (.agg ds, ps)) :
  cs.length = P.cellsOf t ∧ ∃ f, ∀ i, i < n → ∃ d q, ds[i]? = some d ∧ DataW.trod enc P w base sp held f e ((cs.drop (i * P.cellsOf e)).take (P.cellsOf e)) = some (d, q) := by
 cases fuel with
 | zero => simp [DataW.trod] at h
 | succ fuel =>
   simp only [DataW.trod, hu] at h
   split at h
   ·rename_i hl
    obtain ⟨xs, hm, hx⟩ := Option.map_eq_some_iff.1 h
    refine ⟨hl, fuel, fun i hi => ?_⟩
    obtain ⟨b, hb, hf⟩ := mapM_get hm i i (by simp [hi])
    simp only [Prod.mk.injEq, DataW.agg.injEq] at hx
    refine ⟨b.1, b.2, ?_, hf⟩
    rw [← hx.1]; simp [hb]
   ·cases h
theorem trod_struct_get {t : TypeId} {fs : Array Field} {fuel : Nat} {cs : List Value} {ds : List (DataW H)} {ps : List MemPlace} (hu : P.underlying t = some (.struct fs)) (h : DataW.trod enc P w base sp held fuel t cs = some (.agg ds, ps)) :
  ∃ f, ∀ (j : Nat) (fd : Field), fs.toList[j]? = some fd → ∃ d q, ds[j]? = some d ∧ DataW.trod enc P w base sp held f fd.type ((cs.drop fd.offset).take (P.cellsOf fd.type)) = some (d, q) := by
 cases fuel with
 | zero => simp [DataW.trod] at h
 | succ fuel =>
   simp only [DataW.trod, hu] at h
   split at h
   ·obtain ⟨xs, hm, hx⟩ := Option.map_eq_some_iff.1 h
    refine ⟨fuel, fun j fd hj => ?_⟩
    obtain ⟨b, hb, hf⟩ := mapM_get hm j fd hj
    simp only [Prod.mk.injEq, DataW.agg.injEq] at hx
    refine ⟨b.1, b.2, ?_, hf⟩
    rw [← hx.1]; simp [hb]
   ·cases h
theorem fnD_below {C : Cfg} {g : FuncId} {ds : List D} {v : Value} (hv : Am.scal v = true) (h : FnD C g ds (.val v)) {w : World} {args : Array Value} (hb : Base C.G C.GB w) (himp : ImpsOK C.G C.GB w ds args.toList) :
  Calls C.P g args w fun e w' => e = .returned v ∧ Below w.heap.size w w' :=
 (h w args hb himp).mono fun e w' ⟨u, he, G⟩ => by
  obtain ⟨r1, S, H', hvr⟩ := G _ [] hb.empty
  simp only [imp] at hvr S
  rw [hvr.scal_eq hv] at he
  refine ⟨he, S.os, S.tape, S.output, S.size, fun k hk => S.keep k hk fun ⟨b, t, h1, h2, _⟩ => by cases h2⟩
theorem imp_vals (own : Bool) : ∀ (vs : List Value) (h : Heap), imps own (vs.map .val) h = (vs, h)
 | [], h => rfl
 | v :: vs, h => by simp [imps, imp, imp_vals own vs]
theorem imp_plain {G : Gl} {GB : Nat} {vs : List Value} (hs : ∀ v ∈ vs, scal v = true) : ImpOK G GB w (.agg (vs.map .val)) (.agg vs.toArray) := fun h0 r0 H hno => by
 refine ⟨r0, .refl _, ?_, ?_, ?_⟩
 ·simpa [imp, imp_vals] using H
 ·simp only [imp, imp_vals]
  refine .agg _ _ rfl fun j hj hj' => ?_
  exact .scal _ (hs _ (by simp))
 ·simpa [imp, imp_vals] using hno
theorem trod_slice_get {t e : TypeId} {fuel : Nat} {v : Value} {x : DataW H × List MemPlace} (hu : P.underlying t = some (.slice e)) (h : DataW.trod enc P w base sp held fuel t [v] = some x) :
  v = .slice none 0 0 ∨ ∃ a len cap f, v = .slice (some a) len cap ∧ len ≤ cap ∧ ∀ i, i < len → ∃ cs y, w.cells? base (a.add (i * P.cellsOf e)) (P.cellsOf e) = some cs ∧ DataW.trod enc P w base sp held f e cs = some y := by
 cases fuel with
 | zero => simp [DataW.trod] at h
 | succ f =>
   unfold DataW.trod at h
   rw [hu] at h
   match v, h with
   | .slice none 0 0, _ => exact .inl rfl
   | .slice (some a) len cap, h =>
     right
     simp only at h
     split at h
     ·rename_i hc
      rw [Option.bind_eq_some_iff] at h
      obtain ⟨elems, he, _⟩ := h
      refine ⟨a, len, cap, f, rfl, hc.2.1, fun i hi => ?_⟩
      obtain ⟨y, hy⟩ := mapM_all he i (by simpa using hi)
      rw [Option.bind_eq_some_iff] at hy
      obtain ⟨cs, h1, h2⟩ := hy
      exact ⟨cs, y, h1, h2⟩
     ·cases h
   | .slice none 0 (_ + 1), h => simp at h
   | .slice none (_ + 1) _, h => simp at h
   | .int _ _, h => simp at h
   | .bool _, h => simp at h
   | .float _ _, h => simp at h
   | .complex _ _ _, h => simp at h
   | .string _, h => simp at h
   | .pointer _, h => simp at h
   | .map _, h => simp at h
   | .chan _, h => simp at h
   | .func _ _ _, h => simp at h
   | .nilFunc, h => simp at h
   | .iface _ _, h => simp at h
   | .nilIface, h => simp at h
   | .agg _, h => simp at h
   | .tuple _, h => simp at h
theorem addr_twice (a : Addr) (m n : Nat) : (a.add m).add n = a.add (m + n) := by
 unfold Addr.add
 by_cases hm : m = 0
 ·subst hm; simp
 ·by_cases hn : n = 0
  ·subst hn; simp [hm]
  ·simp [hm, hn, Nat.add_assoc]
theorem rows_of {e : TypeId} {ks : List Kd} {m : Nat} {a : Addr} (hk : leaves P m e = some ks) (hc : P.cellsOf e = ks.length) : ∀ (n : Nat), (∀ i, i < n → ∃ cs y f, w.cells? base (a.add (i * P.cellsOf e)) (P.cellsOf e) = some cs ∧ DataW.trod (H := H) enc P w base sp held f e cs = some y) →
  ∃ l : List (Tup ks), l.length = n ∧ (∀ x ∈ l, WfT ks x) ∧ ∀ (i : Nat) (x : Tup ks), l[i]? = some x → ∀ (j : Nat) (v : Value), (toVs ks x)[j]? = some v → w.cell? (a.add (i * ks.length + j)) = some v
 | 0, _ => ⟨[], rfl, by simp, by simp⟩
 | n + 1, h => by
   obtain ⟨l, h1, h2, h3⟩ := rows_of hk hc n fun i hi => h i (by omega)
   obtain ⟨cs, y, f, h5, h6⟩ := h n (by omega)
   obtain ⟨_, hl, hcs⟩ := World.cells?_some h5
   obtain ⟨x, hx, hw⟩ := trod_fit m e ks f cs y hk h6
   refine ⟨l ++ [x], by simp [h1], fun r hr => ?_, fun i x' hi j v hj => ?_⟩
   ·rcases List.mem_append.1 hr with hr | hr
    ·exact h2 r hr
    ·rw [List.mem_singleton.1 hr]; exact hw
   ·rcases Nat.lt_or_ge i l.length with hlt | hge
    ·rw [List.getElem?_append_left hlt] at hi; exact h3 i x' hi j v hj
    ·rw [List.getElem?_append_right hge] at hi
     cases hd : i - l.length with
     | zero =>
       rw [hd] at hi
       simp only [List.getElem?_cons_zero, Option.some.injEq] at hi
       subst hi
       have hin : i = n := by omega
       subst hin
       have hjl : j < cs.length := by rw [hx]; exact (List.getElem?_eq_some_iff.1 hj).1
       have := hcs j (by omega)
       rw [hx, hj] at this
       rw [← this, addr_twice, hc]
     | succ k => rw [hd] at hi; simp at hi
theorem slice_imp {t e : TypeId} {ks : List Kd} {m fuel : Nat} {v : Value} {x : DataW H × List MemPlace} (hu : P.underlying t = some (.slice e)) (hk : leaves P m e = some ks) (hc : P.cellsOf e = ks.length) (hf : flatK ks = true) (hpos : 0 < ks.length)
  (h : DataW.trod enc P w base sp held fuel t [v] = some x) : ∃ l : List (Tup ks), (∀ x ∈ l, WfT ks x) ∧ ∀ (G : Gl) (GB : Nat), ImpOK G GB w (.vec ks l) v := by
 rcases trod_slice_get hu h with rfl | ⟨a, n, cap, f, rfl, hn, hel⟩
 ·exact ⟨[], by simp, fun G GB => ImpOK.nil_vec (okK_of_flat hf) hpos fun h0 r0 H hno => ⟨r0, .refl _, by simpa [imp] using H, by simpa [imp] using VR.scal (r := r0) (.slice none 0 0) rfl, by simpa [imp] using hno⟩⟩
 ·obtain ⟨l, h1, h2, h3⟩ := rows_of (enc := enc) (sp := sp) (held := held) (a := a) hk hc n fun i hi => by
   obtain ⟨cs, y, g1, g2⟩ := hel i hi
   exact ⟨cs, y, f, g1, g2⟩
  refine ⟨l, h2, fun G GB h0 r0 H hno => ?_⟩
  cases n with
  | zero =>
    have hl : l = [] := List.length_eq_zero_iff.1 h1
    subst hl
    obtain ⟨a1, a2, a3⟩ := H.nothing (okK_of_flat hf) hpos [] rfl false
    refine ⟨_, Ren.le_put H _, by simpa [imp] using a1, ?_, fun k hk => hno k (a3 k (by simpa [imp] using hk))⟩
    simpa [imp] using VR.vsl (K0 + h0.length) 0 ks.length _ (.slice (some a) 0 cap) (Ren.put_self ..) (by omega) ⟨rfl, hpos, .inl ⟨rfl, .inr ⟨a, cap, rfl⟩, .of_len rfl⟩⟩ (by simp)
  | succ n =>
    obtain ⟨b, off, spot⟩ := a
    have hx0 : ∃ x, l[0]? = some x := ⟨_, List.getElem?_eq_getElem (by omega)⟩
    obtain ⟨x0, hx0⟩ := hx0
    have hv0 : ∃ v, (toVs ks x0)[0]? = some v := ⟨_, List.getElem?_eq_getElem (by rw [toVs_len]; exact hpos)⟩
    obtain ⟨v0, hv0⟩ := hv0
    have hc0 := h3 0 x0 hx0 0 v0 hv0
    have hspot : spot = none := by simpa [Addr.add] using World.cell?_spot hc0
    subst hspot
    have hblk := World.block_lt_of_cell? w _ hc0
    have hb : b < w.heap.size := by
     unfold Addr.add at hblk
     split at hblk <;> exact hblk
    have hmul : l.length * ks.length ≤ cap * ks.length := Nat.mul_le_mul_right _ (by omega)
    obtain ⟨a1, a2, a3⟩ := H.addRO (.vec ks l false) ⟨b, off, off + cap * ks.length, l.length * ks.length, ks.length, no⟩ rfl hb (hno b) ⟨okK_of_flat hf, ⟨rfl, hpos, rfl⟩, fun h => by omega, fun _ => ⟨by simp only; omega, fun i x hi => RowIn.of_vals hf fun j c hj => by
     have := h3 i x hi j c hj
     unfold Addr.add at this
     split at this
     ·rename_i hz; rw [show off + i * ks.length + j = off by omega]; exact this
     ·rw [Nat.add_assoc]; exact this, fun h => by cases h⟩⟩
    refine ⟨_, Ren.le_put H _, by simpa [imp] using a1, ?_, fun k hk => hno k (a3 k (by simpa [imp] using hk))⟩
    simpa [imp] using VR.vsl (K0 + h0.length) l.length ks.length _ (.slice (some ⟨b, off, none⟩) (n + 1) cap) (Ren.put_self ..) (by omega) ⟨rfl, hpos, .inr ⟨by omega, by simp, cap, ⟨by omega, by simpa using Nat.mul_le_mul_right _ (by omega)⟩, by simp, by rw [h1]; simp⟩⟩ rfl
theorem one_imp {k : Kd} (hk : k.isFlat = true) {v : Value} (h : Fit [k] [v]) : ∃ x : El k, v = toV k x ∧ WfE k x ∧ ∀ (G : Gl) (GB : Nat), ImpOK G GB w (.val (toV k x)) v := by
 obtain ⟨x, hx, hw⟩ := h
 simp only [toVs, List.cons.injEq, and_true] at hx
 refine ⟨x.1, hx, hw.1, fun G GB h0 r0 H hno => ⟨r0, .refl _, by simpa [imp] using H, ?_, by simpa [imp] using hno⟩⟩
 rw [hx]
 simpa [imp] using VR.scal (r := r0) (toV k x.1) (toV_scal hk x.1)
theorem agg_imp {ks : List Kd} (hf : flatK ks = true) {cs : Array Value} (h : Fit ks cs.toList) : ∃ x : Tup ks, WfT ks x ∧ ∀ (G : Gl) (GB : Nat), ImpOK G GB w (.agg ((toVs ks x).map .val)) (.agg cs) := by
 obtain ⟨x, hx, hw⟩ := h
 refine ⟨x, hw, fun G GB => ?_⟩
 have : cs = (toVs ks x).toArray := by rw [← Array.toArray_toList (xs := cs), hx]
 rw [this]
 exact imp_plain (toVs_scal hf x)
def kdT (P : Program) (t : TypeId) : Option Kd :=
 match P.underlying t with
 | some (.int k) => some (.int k)
 | some .string => some .str
 | some .bool => some .bool
 | _ => none
def sameK (a : Option (List Kd)) (b : List Kd) : Bool :=
 match a with
 | some a => Kd.beqs a b
 | none => false
theorem sameK_eq {a : Option (List Kd)} {b : List Kd} (h : sameK a b = true) : a = some b := by
 unfold sameK at h
 split at h
 ·rw [Kd.beqs_eq h]
 ·cases h
def aggT (P : Program) (t : TypeId) : Bool :=
 match P.underlying t with
 | some (.struct _) | some (.array _ _) => true
 | _ => false
def elT (P : Program) (t : TypeId) : Option TypeId :=
 match P.underlying t with
 | some (.slice e) => some e
 | _ => none
def shOk (P : Program) (t : TypeId) : Sh → Bool
 | .c k => match kdT P t with
   | some k' => Kd.beq k' k
   | none => false
 | .b ks => aggT P t && (flatK ks && sameK (leaves P 8 t) ks)
 | .v ks => match elT P t with
   | some e => flatK ks && (Nat.blt 0 ks.length && (Nat.beq (P.cellsOf e) ks.length && sameK (leaves P 8 e) ks))
   | none => false
 | _ => false
def WfS : (s : Sh) → ShT s → Prop
 | .c k, x => WfE k x
 | .b ks, x => WfT ks x
 | .r ks, x => WfT ks x
 | .v ks, l => ∀ x ∈ (show List (Tup ks) from l), WfT ks x
 | .x, _ => True
theorem b_imp {t : TypeId} {ks : List Kd} {v : Value} {d : DataW H} {ps : List MemPlace} {r : Reach} {b0 : Nat} (h : shOk P t (.b ks) = true) (hv : Value.okWide P w r b0 t v) (hd : DataW.Trod enc P w base sp held t v d ps) : ∃ x : Tup ks, WfT ks x ∧ ∀ (G : Gl) (GB : Nat), ImpOK G GB w (.agg ((toVs ks x).map .val)) v := by
 simp only [shOk, Bool.and_eq_true] at h
 obtain ⟨h1, h2, h3⟩ := h
 obtain ⟨f, hf⟩ := hd
 obtain ⟨cs, rfl⟩ : ∃ cs, v = .agg cs := by
  unfold aggT at h1
  unfold Value.okWide at hv
  split at h1
  ·rename_i hu; rw [hu] at hv; exact ⟨hv.choose, hv.choose_spec.1⟩
  ·rename_i hu; rw [hu] at hv; exact ⟨hv.choose, hv.choose_spec.1⟩
  ·cases h1
 exact agg_imp h2 (trod_fit 8 t ks f _ _ (sameK_eq h3) hf)
def WfA : (ss : List Sh) → ArgT ss → Prop
 | [], _ => True
 | s :: ss, a => WfS s a.1 ∧ WfA ss a.2
theorem all_below (hl : laidOutB P = true) {W W' : World} (hb : Below W.heap.size W W') : ∀ (ts : List TypeId) (vs : List Value) (ds : List (DataW H)) (ps : List MemPlace), (ts.all fun t => P.readableRec t && decide (t < P.types.size)) = true →
  DataW.TrodAll enc P W 0 (fun _ => true) true ts vs ds ps → (∀ x ∈ ps, x.block < W.heap.size) → DataW.TrodAll enc P W' 0 (fun b => decide (b < W.heap.size)) true ts vs ds ps
 | [], vs, ds, ps, _, ht, _ => by
   obtain ⟨rfl, rfl, rfl⟩ := ChangeShapes.trodAll_nil ht
   rfl
 | t :: ts, vs, ds, ps, h, ht, hlt => by
   simp only [List.all_cons, Bool.and_eq_true, decide_eq_true_eq] at h
   obtain ⟨v, vs', d, ds', p, q, rfl, rfl, rfl, h1, h2⟩ := ChangeShapes.trodAll_cons ht
   exact ⟨p, q, Below.trod hl h.1.1 h.1.2 h1 hb fun x hx => hlt x (by simp [hx]), all_below hl hb ts vs' ds' q h.2 h2 fun x hx => hlt x (by simp [hx]), rfl⟩
end
end Go.Am
namespace Go.Am
noncomputable section
open Go Go.RowKit
variable {H : Type} {enc : TypeId × Value → H} {P : Program} {w : World} {base : Nat} {sp : Nat → Bool} {held : Bool}
def FitS (w : World) (ss : List Sh) (cs : List Value) : Prop := ∃ a : ArgT ss, WfA ss a ∧ ∀ (G : Gl) (GB : Nat), ImpsOK G GB w (toShs ss a) cs
theorem toShs_len : ∀ (ss : List Sh) (a : ArgT ss), (toShs ss a).length = ss.length
 | [], _ => rfl
 | _ :: ss, a => by simp [toShs, toShs_len ss a.2]
theorem FitS.len {ss : List Sh} {cs : List Value} (h : FitS w ss cs) : cs.length = ss.length := by
 obtain ⟨a, _, h⟩ := h
 rw [← (h ⟨fun _ => [], fun _ => none, false, false⟩ 0).1, toShs_len]
theorem ImpsOK.cons {G : Gl} {GB : Nat} {d : D} {u : Value} {ds : List D} {us : List Value} (h : ImpOK G GB w d u) (hs : ImpsOK G GB w ds us) : ImpsOK G GB w (d :: ds) (u :: us) :=
 ⟨by simp [hs.1], fun j d' u' hj hu => by
  cases j with
  | zero =>
    simp only [List.getElem?_cons_zero, Option.some.injEq] at hj hu
    subst hj hu
    exact h
  | succ j => exact hs.2 j d' u' (by simpa using hj) (by simpa using hu)⟩
theorem ImpsOK.append {G : Gl} {GB : Nat} : ∀ {ds : List D} {us : List Value} {ds' : List D} {us' : List Value}, ImpsOK G GB w ds us → ImpsOK G GB w ds' us' → ImpsOK G GB w (ds ++ ds') (us ++ us')
 | [], [], _, _, _, h' => h'
 | [], _ :: _, _, _, h, _ => by have := h.1; simp at this
 | _ :: _, [], _, _, h, _ => by have := h.1; simp at this
 | d :: ds, u :: us, ds', us', h, h' => by
   have h2 : ImpsOK G GB w ds us := ⟨by simpa using h.1, fun j d' u' hj hu => h.2 (j + 1) d' u' (by simpa using hj) (by simpa using hu)⟩
   exact ImpsOK.cons (h.2 0 d u rfl rfl) (ImpsOK.append h2 h')
theorem FitS.nil : FitS w [] [] := ⟨(), trivial, fun G GB => ⟨rfl, fun j d u h => by simp [toShs] at h⟩⟩
theorem FitS.append : ∀ {ss : List Sh} {vs : List Value} {ss' : List Sh} {vs' : List Value}, FitS w ss vs → FitS w ss' vs' → FitS w (ss ++ ss') (vs ++ vs')
 | [], vs, _, _, h, h' => by
   have := h.len
   rw [List.length_nil, List.length_eq_zero_iff] at this
   subst this
   exact h'
 | s :: ss, [], _, _, h, _ => by have := h.len; simp at this
 | s :: ss, v :: vs, ss', vs', ⟨a, hw, h⟩, h' => by
   have h2 : FitS w ss vs := ⟨a.2, hw.2, fun G GB => ⟨by have := (h G GB).1; simpa [toShs] using this, fun j d' u' hj hu => (h G GB).2 (j + 1) d' u' (by simpa [toShs] using hj) (by simpa using hu)⟩⟩
   obtain ⟨b, hb, g⟩ := FitS.append h2 h'
   exact ⟨(a.1, b), ⟨hw.1, hb⟩, fun G GB => ImpsOK.cons ((h G GB).2 0 _ _ rfl rfl) (g G GB)⟩
def fieldsS (L : TypeId → Option (List Sh)) (P : Program) : List Field → Nat → Option (List Sh)
 | [], _ => some []
 | f :: fs, off => match Nat.beq f.offset off, L f.type with
   | true, some ks => match Nat.beq (P.cellsOf f.type) ks.length, fieldsS L P fs (off + ks.length) with
     | true, some r => some (ks ++ r)
     | _, _ => none
   | _, _ => none
def leavesS (P : Program) : Nat → TypeId → Option (List Sh)
 | 0, _ => none
 | m + 1, t => match P.underlying t with
   | some (.int k) => some [.c (.int k)]
   | some .string => some [.c .str]
   | some .bool => some [.c .bool]
   | some (.slice e) => match leaves P 8 e with
     | some ks => match flatK ks && (Nat.blt 0 ks.length && Nat.beq (P.cellsOf e) ks.length) with
       | true => some [.v ks]
       | false => none
     | none => none
   | some (.struct fs) => match fieldsS (leavesS P m) P fs.toList 0 with
     | some ss => match Nat.beq (P.cellsOf t) ss.length with
       | true => some ss
       | false => none
     | none => none
   | _ => none
theorem fields_fitS {L : TypeId → Option (List Sh)} {cs : List Value} {T : TypeId → List Value → Option (DataW H × List MemPlace)} (hL : ∀ t ks us x, L t = some ks → T t us = some x → FitS w ks us) :
  ∀ (fs : List Field) (off : Nat) (ks : List Sh), fieldsS L P fs off = some ks → (∀ f ∈ fs, ∃ x, T f.type ((cs.drop f.offset).take (P.cellsOf f.type)) = some x) → FitS w ks ((cs.drop off).take ks.length)
 | [], off, ks, h, _ => by simp [fieldsS] at h; subst h; simpa using FitS.nil
 | f :: fs, off, ks, h, hall => by
   unfold fieldsS at h
   split at h
   ·rename_i ks1 ho hl
    rw [Nat.beq_eq] at ho
    split at h
    ·rename_i r hb hr
     rw [Nat.beq_eq] at hb
     cases h
     obtain ⟨x, hx⟩ := hall f (by simp)
     have h1 := hL _ _ _ x hl hx
     have h2 := fields_fitS hL fs _ r hr fun g hg => hall g (by simp [hg])
     rw [ho, hb] at h1
     have := h1.append h2
     rwa [← List.drop_drop, ← List.take_add, ← List.length_append] at this
    ·cases h
   ·cases h
theorem one_fitS {k : Kd} (hk : k.isFlat = true) {cs : List Value} (h : Fit [k] cs) : FitS w [.c k] cs := by
 obtain ⟨x, rfl, hw⟩ := h
 obtain ⟨y, hy, hyw, hi⟩ := one_imp (w := w) hk (v := toV k x.1) ⟨x, rfl, hw⟩
 exact ⟨((show ShT (.c k) from y), ()), ⟨hyw, trivial⟩, fun G GB => ImpsOK.cons (hi G GB) ⟨rfl, fun j d u h => by simp [toShs] at h⟩⟩
theorem trod_slice_one {t e : TypeId} {fuel : Nat} {cs : List Value} {x : DataW H × List MemPlace} (hu : P.underlying t = some (.slice e)) (h : DataW.trod enc P w base sp held fuel t cs = some x) : ∃ v, cs = [v] := by
 cases fuel with
 | zero => simp [DataW.trod] at h
 | succ f =>
   unfold DataW.trod at h
   rw [hu] at h
   match cs, h with
   | [v], _ => exact ⟨v, rfl⟩
   | [], h => simp at h
   | _ :: _ :: _, h => simp at h
theorem trod_fitS : ∀ (m : Nat) (t : TypeId) (ss : List Sh) (fuel : Nat) (cs : List Value) (x : DataW H × List MemPlace), leavesS P m t = some ss → DataW.trod enc P w base sp held fuel t cs = some x → FitS w ss cs
 | 0, t, ks, fuel, cs, x, h, _ => by simp [leavesS] at h
 | m + 1, t, ks, fuel, cs, x, h, hx => by
   unfold leavesS at h
   split at h
   ·rename_i hu
    cases h
    exact one_fitS rfl (int_fit hu hx)
   ·rename_i hu
    cases h
    exact one_fitS rfl (str_fit hu hx)
   ·rename_i hu
    cases h
    exact one_fitS rfl (bool_fit hu hx)
   ·rename_i e hu
    split at h
    ·rename_i ks hk
     split at h
     ·rename_i hb
      cases h
      simp only [Bool.and_eq_true, Nat.blt_eq, Nat.beq_eq] at hb
      obtain ⟨v, rfl⟩ := trod_slice_one hu hx
      obtain ⟨l, h1, h2⟩ := slice_imp hu hk hb.2.2 hb.1 hb.2.1 hx
      exact ⟨((show ShT (.v ks) from l), ()), ⟨h1, trivial⟩, fun G GB => ImpsOK.cons (h2 G GB) ⟨rfl, fun j d u h => by simp [toShs] at h⟩⟩
     ·cases h
    ·cases h
   ·rename_i fs hu
    cases fuel with
    | zero => simp [DataW.trod] at hx
    | succ fuel =>
      unfold DataW.trod at hx
      rw [hu] at hx
      split at h
      ·rename_i ks' hk
       split at h
       ·rename_i hb
        rw [Nat.beq_eq] at hb
        cases h
        simp only at hx
        split at hx
        ·rename_i hlen
         rw [Option.map_eq_some_iff] at hx
         obtain ⟨xs, hxs, _⟩ := hx
         have := fields_fitS (P := P) (T := DataW.trod enc P w base sp held fuel) (cs := cs) (fun t ks us x h1 h2 => trod_fitS m t ks fuel us x h1 h2) fs.toList 0 ks hk fun f hf => mapM_all hxs f hf
         rw [← hb, ← hlen] at this
         simpa using this
        ·cases hx
       ·cases h
      ·cases h
   ·cases h
theorem agg_impS {ss : List Sh} {cs : Array Value} (h : FitS w ss cs.toList) : ∃ a : ArgT ss, WfA ss a ∧ ∀ (G : Gl) (GB : Nat), ImpOK G GB w (.agg (toShs ss a)) (.agg cs) := by
 obtain ⟨a, hw, hi⟩ := h
 refine ⟨a, hw, fun G GB h0 r0 H hno => ?_⟩
 obtain ⟨r1, le, H1, v1, no1⟩ := (hi G GB).at h0 r0 H hno
 exact ⟨r1, le, by simpa only [imp] using H1, by simpa only [imp, Array.toArray_toList] using v1.agg, by simpa only [imp] using no1⟩
theorem s_imp {t : TypeId} {ss : List Sh} {v : Value} {d : DataW H} {ps : List MemPlace} {r : Reach} {b0 : Nat} (h : aggT P t = true) (hs : leavesS P 8 t = some ss) (hv : Value.okWide P w r b0 t v) (hd : DataW.Trod enc P w base sp held t v d ps) :
  ∃ a : ArgT ss, WfA ss a ∧ ∀ (G : Gl) (GB : Nat), ImpOK G GB w (.agg (toShs ss a)) v := by
 obtain ⟨f, hf⟩ := hd
 obtain ⟨cs, rfl⟩ : ∃ cs, v = .agg cs := by
  unfold aggT at h
  unfold Value.okWide at hv
  split at h
  ·rename_i hu; rw [hu] at hv; exact ⟨hv.choose, hv.choose_spec.1⟩
  ·rename_i hu; rw [hu] at hv; exact ⟨hv.choose, hv.choose_spec.1⟩
  ·cases h
 exact agg_impS (trod_fitS 8 t ss f _ _ hs hf)
end
end Go.Am
namespace Go.Am
noncomputable section
open Go Go.RowKit
variable {H : Type} {enc : TypeId × Value → H} {P : Program} {w : World} {base : Nat} {sp : Nat → Bool} {held : Bool}
def arrCells {H : Type} (L : DataW H → Option (List Value)) (c : Nat) : List (DataW H) → Option (List Value)
 | [] => some []
 | d :: ds => match L d with
   | some a => match arrCells L c ds with
     | some b => bif Nat.beq a.length c then some (a ++ b) else none
     | none => none
   | none => none
def strCells {H : Type} (L : TypeId → DataW H → Option (List Value)) (P : Program) : List Field → List (DataW H) → Nat → Option (List Value)
 | [], _, _ => some []
 | f :: fs, ds, off => match ds with
   | [] => none
   | d :: ds => match L f.type d with
     | some a => match strCells L P fs ds (off + a.length) with
       | some b => bif Nat.beq a.length (P.cellsOf f.type) && Nat.beq f.offset off then some (a ++ b) else none
       | none => none
     | none => none
def dcs {H : Type} (P : Program) : Nat → TypeId → DataW H → Option (List Value)
 | 0, _, _ => none
 | m + 1, t, d => match P.underlying t with
   | some (.int k) => match d with
     | .lit (.int _ n) => some [.int k n]
     | _ => none
   | some (.array n e) => match d with
     | .agg ds => bif Nat.beq ds.length n then arrCells (dcs P m e) (P.cellsOf e) ds else none
     | _ => none
   | some (.struct fs) => match d with
     | .agg ds => strCells (dcs P m) P fs.toList ds 0
     | _ => none
   | _ => none
theorem piece {cs a b : List Value} {o : Nat} (h1 : (cs.drop o).take a.length = a) (h2 : (cs.drop (o + a.length)).take b.length = b) : (cs.drop o).take (a ++ b).length = a ++ b := by
 rw [List.length_append, List.take_add, h1, List.drop_drop, h2]
theorem arr_cells {L : DataW H → Option (List Value)} {c : Nat} {cs : List Value} : ∀ (ds : List (DataW H)) (l : List Value) (o : Nat),
  (∀ i, i < ds.length → ∃ d, ds[i]? = some d ∧ ∀ a, L d = some a → ((cs.drop (o + i * c)).take c).take a.length = a) → arrCells L c ds = some l → (cs.drop o).take l.length = l
 | [], l, o, _, h => by cases h; rfl
 | d :: ds, l, o, hp, h => by
   unfold arrCells at h
   split at h
   ·rename_i a ha
    split at h
    ·rename_i b hb
     cases hc : Nat.beq a.length c with
     | false => rw [hc] at h; cases h
     | true =>
       rw [hc] at h
       cases h
       have hc : a.length = c := Nat.eq_of_beq_eq_true hc
       obtain ⟨d', e, hd⟩ := hp 0 (by simp)
       cases e
       have h1 := hd a ha
       rw [hc, List.take_take, Nat.min_self, Nat.zero_mul, Nat.add_zero] at h1
       refine piece (by rw [hc]; exact h1) (arr_cells ds b (o + a.length) (fun i hi => ?_) hb)
       obtain ⟨d', e, hd⟩ := hp (i + 1) (by simpa using hi)
       refine ⟨d', by simpa using e, fun a' ha' => ?_⟩
       have := hd a' ha'
       rw [hc, Nat.add_assoc, show c + i * c = (i + 1) * c by rw [Nat.succ_mul, Nat.add_comm]]
       exact this
    ·cases h
   ·cases h
theorem str_cells {L : TypeId → DataW H → Option (List Value)} {cs : List Value} : ∀ (fs : List Field) (ds : List (DataW H)) (l : List Value) (o : Nat),
  (∀ (j : Nat) (f : Field), fs[j]? = some f → ∃ d, ds[j]? = some d ∧ ∀ a, L f.type d = some a → ((cs.drop f.offset).take (P.cellsOf f.type)).take a.length = a) → strCells L P fs ds o = some l → (cs.drop o).take l.length = l
 | [], ds, l, o, _, h => by cases h; rfl
 | f :: fs, [], l, o, _, h => by cases h
 | f :: fs, d :: ds, l, o, hp, h => by
   unfold strCells at h
   simp only at h
   split at h
   ·rename_i a ha
    split at h
    ·rename_i b hb
     cases hc : (Nat.beq a.length (P.cellsOf f.type) && Nat.beq f.offset o) with
     | false => rw [hc] at h; cases h
     | true =>
       rw [hc] at h
       cases h
       rw [Bool.and_eq_true] at hc
       have h1 : a.length = P.cellsOf f.type := Nat.eq_of_beq_eq_true hc.1
       have h2 : f.offset = o := Nat.eq_of_beq_eq_true hc.2
       obtain ⟨d', e, hd⟩ := hp 0 f rfl
       cases e
       have h3 := hd a ha
       rw [h1, List.take_take, Nat.min_self, h2] at h3
       refine piece (by rw [h1]; exact h3) (str_cells fs ds b (o + a.length) (fun j f' hj => ?_) hb)
       obtain ⟨d', e, hd⟩ := hp (j + 1) f' (by simpa using hj)
       exact ⟨d', by simpa using e, hd⟩
    ·cases h
   ·cases h
theorem dcs_cells : ∀ (m : Nat) (t : TypeId) (d : DataW H) (l : List Value) (fuel : Nat) (cs : List Value) (p : List MemPlace), dcs P m t d = some l → DataW.trod enc P w base sp held fuel t cs = some (d, p) → cs.take l.length = l
 | 0, _, _, _, _, _, _, h, _ => by cases h
 | m + 1, t, d, l, fuel, cs, p, h, ht => by
   unfold dcs at h
   split at h
   ·rename_i k hu
    split at h
    ·cases h
     obtain ⟨z, hc, hz, _⟩ := DataW.trod_int hu ht
     simp only [Prod.mk.injEq, DataW.lit.injEq, Lit.int.injEq] at hz
     rw [hc, hz.1.2]
     rfl
    ·cases h
   ·rename_i n e hu
    split at h
    ·rename_i ds
     cases hn : Nat.beq ds.length n with
     | false => rw [hn] at h; cases h
     | true =>
       rw [hn] at h
       have hn : ds.length = n := Nat.eq_of_beq_eq_true hn
       obtain ⟨_, f, hel⟩ := trod_array_get hu ht
       have := arr_cells (L := dcs P m e) (c := P.cellsOf e) (cs := cs) ds l 0 (fun i hi => by
        obtain ⟨d, q, e1, e2⟩ := hel i (by omega)
        exact ⟨d, e1, fun a ha => by rw [Nat.zero_add]; exact dcs_cells m e d a f _ q ha e2⟩) h
       simpa using this
    ·cases h
   ·rename_i fs hu
    split at h
    ·rename_i ds
     obtain ⟨f, hel⟩ := trod_struct_get hu ht
     have := str_cells (P := P) (L := dcs P m) (cs := cs) fs.toList ds l 0 (fun j fd hj => by
      obtain ⟨d, q, e1, e2⟩ := hel j fd hj
      exact ⟨d, e1, fun a ha => dcs_cells m fd.type d a f _ q ha e2⟩) h
     simpa using this
    ·cases h
   ·cases h
end
end Go.Am
namespace Go.Am
noncomputable section
open Go Go.RowKit
variable {C : Cfg} {base : Nat}
def rfOf : Code → Option (Array Tmp × Code × Code)
 | .seq a b => match rfOf a with
   | some x => some x
   | none => rfOf b
 | .cond _ a b => match rfOf a with
   | some x => some x
   | none => rfOf b
 | .scope b => rfOf b
 | .block _ b => rfOf b
 | .loop b => rfOf b
 | .rangeFunc _ ps as bd => some (ps, as, bd)
 | _ => none
def rfPs (c : Code) : Array Tmp := match rfOf c with
 | some x => x.1
 | none => #[]
def rfAs (c : Code) : Code := match rfOf c with
 | some x => x.2.1
 | none => .skip
def rfBd (c : Code) : Code := match rfOf c with
 | some x => x.2.2
 | none => .skip
def startI (fd : AFn) (s : St) (xs ys : Array Value) (ps : Array Tmp) (as bd : Code) (tm : Option (Nat × Array Value)) : St :=
 ⟨(xs.toList ++ [Value.func (.yield (K0 + s.heap.length)) #[] #[]] ++ ys.toList) ++ List.replicate (fd.ntmps - (xs.toList ++ [Value.func (.yield (K0 + s.heap.length)) #[] #[]] ++ ys.toList).length) undef,
   s.heap ++ [.loop { state := .ready, pending := none, fn := 0, tmps := s.tmps, params := ps, assign := as, body := bd, tm := tm }]⟩
def pendX (lp : ALoop) : Option X :=
 match lp.state with
 | .busy => none
 | _ => match lp.pending with
   | none => some .normal
   | some .ret => some .ret
   | some (.exit id) => some (.exit id)
   | _ => none
def finI (C : Cfg) (fd : AFn) (py : Nat) (rs : List (Nat × Cw)) : X → St → Obs → Option (Obs × X × Option (Nat × Array Value) × List D) := fun x s o =>
 match x with
 | .exit _ => none
 | _ => match resVs C s.heap s.tmps fd.results with
   | some _ => match rdY rs s.heap (s.tmps.getD py undef) with
     | some (.yl _ lp _ ds, _) => match pendX lp with
       | some e => some (o, e, lp.tm, ds)
       | none => none
     | _ => none
   | none => none
def bodyI (C : Cfg) (n : Nat) (L : List Ld) (m : Nat) (fd : AFn) (s : St) (py : Nat) (rs : List (Nat × Cw)) : Option (Obs × X × Option (Nat × Array Value) × List D) :=
 evD C n L m fd.body s [] (finI C fd py rs)
theorem finI_inv {fd : AFn} {py : Nat} {rs : List (Nat × Cw)} {x : X} {s : St} {o o' : Obs} {e : X} {tm : Option (Nat × Array Value)} {ds : List D} (h : finI C fd py rs x s o = some (o', e, tm, ds)) :
  o = o' ∧ (x = .normal ∨ x = .ret) ∧ (∃ vs, resVs C s.heap s.tmps fd.results = some vs) ∧ ∃ N lp rel hh, rdY rs s.heap (s.tmps.getD py undef) = some (.yl N lp rel ds, hh) ∧ pendX lp = some e ∧ lp.tm = tm := by
 have key : (match resVs C s.heap s.tmps fd.results with
  | some _ => match rdY rs s.heap (s.tmps.getD py undef) with
    | some (.yl _ lp _ ds, _) => match pendX lp with
      | some e => some (o, e, lp.tm, ds)
      | none => none
    | _ => none
  | none => none) = some (o', e, tm, ds) → o = o' ∧ (∃ vs, resVs C s.heap s.tmps fd.results = some vs) ∧ ∃ N lp rel hh, rdY rs s.heap (s.tmps.getD py undef) = some (.yl N lp rel ds, hh) ∧ pendX lp = some e ∧ lp.tm = tm := fun h => by
  split at h
  ·rename_i vs hvs
   split at h
   ·rename_i N lp rel ds' hh hr
    split at h
    ·rename_i e' he
     simp only [Option.some.injEq, Prod.mk.injEq] at h
     obtain ⟨rfl, rfl, rfl, rfl⟩ := h
     exact ⟨rfl, ⟨vs, hvs⟩, N, lp, rel, hh, hr, he, rfl⟩
    ·cases h
   ·cases h
  ·cases h
 unfold finI at h
 cases x with
 | exit id => cases h
 | normal => obtain ⟨a, b⟩ := key h; exact ⟨a, .inl rfl, b⟩
 | ret => obtain ⟨a, b⟩ := key h; exact ⟨a, .inr rfl, b⟩
theorem Marks.stepF {r r' : Ren} {h h' : Heap} {w w' : World} {ds : List Deferred} (H : HR C.G C.GB r h w) (S : StepF r h w r' h' w') (M : Marks w base ds) : Marks w' base ds := by
 obtain ⟨rs, h1, h2, h3⟩ := M
 refine ⟨rs, h1, h2, fun x hx => ?_⟩
 obtain ⟨a, b⟩ := h3 x hx
 refine ⟨a, ?_⟩
 rw [S.keep x (Array.getElem?_eq_some_iff.1 b).1 (fun ho => H.owned_kind ho b)]
 exact b
theorem rdY_inv {rs : List (Nat × Cw)} {h : Heap} {v : Value} {N : Nat} {lp : ALoop} {rel : List Nat} {ds : List D} {hh : Heap} (hd : rdY rs h v = some (.yl N lp rel ds, hh)) :
  ∃ L lp3, v = .func (.yield L) #[] #[] ∧ h.at L = .loop lp3 ∧ rdW0 rs lp3.tmps (h.kill (some L)) = some (ds, hh) ∧ lp = { lp3 with tmps := [] } := by
 unfold rdY at hd
 split at hd
 ·rename_i L xs ys
  split at hd
  ·rename_i lp3 e1 e2 hat
   have e1 : xs = #[] := by rw [← Array.toArray_toList (xs := xs), e1]
   have e2 : ys = #[] := by rw [← Array.toArray_toList (xs := ys), e2]
   subst e1 e2
   split at hd
   ·rename_i ds' hh' hm
    simp only [Option.some.injEq, Prod.mk.injEq, D.yl.injEq] at hd
    obtain ⟨⟨_, rfl, _, rfl⟩, rfl⟩ := hd
    exact ⟨L, lp3, rfl, hat, hm, rfl⟩
   ·cases hd
  ·cases hd
 ·cases hd
theorem kill_put (h : Heap) (L : Nat) (o : AObj) : (h.put L o).kill (some L) = h.kill (some L) := by
 unfold Heap.kill Heap.put
 cases hb : Nat.ble K0 L with
 | true => simp only [setR_eq, List.set_set, hb]
 | false => simp only [hb]
theorem ldT_range (ok : CfgOk C) (sp : SpecOK C) {id N : Nat} {rel : List (Nat × Cv)} {pre : List D} {x : X} {ds' : List D} {tf : Tmp} {ps : Array Tmp} {as bd : Code} {g : FuncId} {fd : AFn} {xs ys : Array Value} {py : Nat} {rs : List (Nat × Cw)}
  (hid : Nat.ble 100000 id = true) (hf : (ldS N (rel.map (·.1)) pre).ev (.tmp tf) = .func (.func g) xs ys) (hg : C.fn g = some fd) (hrs : rel.map (·.1) = tf :: rs.map (·.1))
  (hb : ∀ tm, ∃ (n m : Nat) (L : List Ld) (obs : Obs), bodyI C n L m fd (startI fd (ldS N (rel.map (·.1)) pre) xs ys ps as bd tm) py rs = some (obs, x, tm, ds') ∧ Owed C obs) (hpl : ((rel.map (·.1)).all fun r => Nat.blt r 1000000) = true := by rfl) (hinr : C.inr = false := by rfl) :
  LdT C (ldP id N rel x (.val unk :: ds')) (.rangeFunc (.tmp tf) ps as bd) pre := by
 intro x' dsx hrun F Nf base r a w Q hF hro' H hbs hQ
 have hro : F.round = none := hro' hinr
 simp only [ldP, FT.run, Option.some.injEq, Prod.mk.injEq] at hrun
 obtain ⟨rfl, rfl⟩ := hrun
 rw [show wholeC (ldP id N rel x (.val unk :: ds')) (.rangeFunc (.tmp tf) ps as bd) = .rangeFunc (.tmp tf) ps as bd by unfold wholeC; rw [show (ldP id N rel x (.val unk :: ds')).id = id from rfl, hid]]
 show (Code.rangeFunc (.tmp tf) ps as bd).wpIn F Nf C.P Q a w
 have H : SR C.G C.GB base r (ldS N (rel.map (·.1)) pre) a w := H
 have hQ : ∀ r' a' w', StepF r (ldS N (rel.map (·.1)) pre).heap w r' (ldS N (rel.map (·.1)) (.val unk :: ds')).heap w' → SR C.G C.GB base r' (ldS N (rel.map (·.1)) (.val unk :: ds')) a' w' → Q x.toExit a' w' := hQ
 have hNl : (ldS N (rel.map (·.1)) pre).tmps.length = N := by unfold ldS mkS; simp
 generalize hs : ldS N (rel.map (·.1)) pre = s at *
 obtain ⟨xs', ys', hfe, hx, hy⟩ := (hf ▸ H.ev (.tmp tf) : VR r (.func (.func g) xs ys) (a.eval (.tmp tf))).func'
 refine wpIn_rangeFunc fun fn _ => ?_
 obtain ⟨w1, hw1, HR1, S1, M1⟩ := enter_range H hbs fn ps as bd (some (w.heap.size + 1, a.tmps)) (fun c h => by cases h; exact ⟨rfl, rfl⟩)
 obtain ⟨n, m, L, obs, hbody, hO⟩ := hb (some (w.heap.size + 1, a.tmps))
 have hrl := Ren.le_put H.heap ⟨w.heap.size + 1, 0, 0, 0, 0, no⟩
 have hargs : VRs (r.put (K0 + s.heap.length) ⟨w.heap.size + 1, 0, 0, 0, 0, no⟩) (xs.toList ++ [Value.func (.yield (K0 + s.heap.length)) #[] #[]] ++ ys.toList)
   (xs' ++ #[Value.func (.yield (w.heap.size + 1)) #[] #[]] ++ ys').toList := by
  have hyl : VRs (r.put (K0 + s.heap.length) ⟨w.heap.size + 1, 0, 0, 0, 0, no⟩) [Value.func (.yield (K0 + s.heap.length)) #[] #[]] [Value.func (.yield (w.heap.size + 1)) #[] #[]] :=
   .cons (.yield _ ⟨w.heap.size + 1, 0, 0, 0, 0, no⟩ (Ren.put_self ..)) (VRs.nil _)
  simpa using ((hx.mono hrl).append hyl).append (hy.mono hrl)
 obtain ⟨gn, f1, f2, f3, f4, f5⟩ := ok.fn g fd hg
 -- the call
 have hcall : CallsIn F.plain (Nf - 1) C.P g (xs' ++ #[Value.func (.yield (w.heap.size + 1)) #[] #[]] ++ ys') w1 fun e w3 => ∃ (u : Value) (r3 : Ren) (s3 : St), e = .returned u ∧ StepF (r.put (K0 + s.heap.length) ⟨w.heap.size + 1, 0, 0, 0, 0, no⟩) (s.heap ++ [.loop { state := .ready, pending := none, fn := 0, tmps := s.tmps, params := ps, assign := as, body := bd, tm := some (w.heap.size + 1, a.tmps) }]) w1 r3 s3.heap w3 ∧ HR C.G C.GB r3 s3.heap w3 ∧
   ∃ N' lp rel' hh, rdY rs s3.heap (s3.tmps.getD py undef) = some (.yl N' lp rel' ds', hh) ∧ pendX lp = some x ∧ lp.tm = some (w.heap.size + 1, a.tmps) ∧ ∃ u3, VR r3 (s3.tmps.getD py undef) u3 := by
  refine callsIn_of_wp_marks f1 f2 (hF.plain.1 g) ?_ rfl
  have hS : SR C.G C.GB w1.heap.size (r.put (K0 + s.heap.length) ⟨w.heap.size + 1, 0, 0, 0, 0, no⟩) (startI fd s xs ys ps as bd (some (w.heap.size + 1, a.tmps)))
    { tmps := (xs' ++ #[Value.func (.yield (w.heap.size + 1)) #[] #[]] ++ ys') ++ Array.replicate (gn.ntmps - (xs' ++ #[Value.func (.yield (w.heap.size + 1)) #[] #[]] ++ ys').size) undef, defers := [] } w1 := by
   unfold startI
   generalize hav : xs.toList ++ [Value.func (.yield (K0 + s.heap.length)) #[] #[]] ++ ys.toList = argv at *
   generalize hau : xs' ++ #[Value.func (.yield (w.heap.size + 1)) #[] #[]] ++ ys' = args at *
   have hl : argv.length = args.size := by have := hargs.1; simpa using this
   refine ⟨by simp [hl, f3], fun j x hj => ?_, HR1, ⟨[], rfl, by simp, by simp⟩⟩
   rcases Nat.lt_or_ge j argv.length with h1 | h1
   ·simp only at hj
    rw [List.getElem?_append_left h1] at hj
    obtain ⟨u, hu, hv⟩ := hargs.2 j x hj
    refine ⟨u, ?_, hv⟩
    simp only
    rw [Array.getElem?_append_left (by omega)]
    simpa using hu
   ·simp only at hj
    rw [List.getElem?_append_right h1, List.getElem?_replicate] at hj
    split at hj
    ·rename_i hlt
     simp only [Option.some.injEq] at hj
     subst hj
     refine ⟨undef, ?_, VR.undef' _⟩
     simp only
     rw [Array.getElem?_append_right (by omega), Array.getElem?_replicate, if_pos (by omega)]
    ·cases hj
  refine (evD_ok ok sp m fd.body _ _ _ (obs, x, some (w.heap.size + 1, a.tmps), ds') (fun x1 s1 o1 hk => by rw [(finI_inv hk).1]; exact hO) hbody).2 F.plain (Nf - 1) w1.heap.size _ _ w1 _ hF.plain (fun _ => rfl) hS (Nat.le_refl _) fun x1 s1 o1 r1 a1 w2 S hSR hk => ?_
  obtain ⟨_, hx1, ⟨vs, hvs⟩, N', lp, rel', hh, h1, h2, h3⟩ := finI_inv hk
  have fin : LeavesInM F.plain (Nf - 1) C.P gn a1.tmps (fun e w3 => ∃ (u : Value) (r3 : Ren) (s3 : St), e = .returned u ∧ StepF (r.put (K0 + s.heap.length) ⟨w.heap.size + 1, 0, 0, 0, 0, no⟩) (s.heap ++ [.loop { state := .ready, pending := none, fn := 0, tmps := s.tmps, params := ps, assign := as, body := bd, tm := some (w.heap.size + 1, a.tmps) }]) w1 r3 s3.heap w3 ∧ HR C.G C.GB r3 s3.heap w3 ∧
   ∃ N' lp rel' hh, rdY rs s3.heap (s3.tmps.getD py undef) = some (.yl N' lp rel' ds', hh) ∧ pendX lp = some x ∧ lp.tm = some (w.heap.size + 1, a.tmps) ∧ ∃ u3, VR r3 (s3.tmps.getD py undef) u3) a1.defers .returning w2 := by
   obtain ⟨ms, e1, e2, e3⟩ := hSR.marks
   rw [e1]
   refine leaves_marksF ms w2 e2 e3 hSR.heap HR1.gb.1 S fun w3 H3 S3 => ?_
   obtain ⟨u, p1, p2⟩ := results_run ok H3 (fun t => by rw [nthR_eq]; exact hSR.getD t) f4 hvs
   exact ⟨u, p1, u, r1, s1, rfl, S3, H3, N', lp, rel', hh, h1, h2, h3, _, hSR.getD py⟩
  rcases hx1 with rfl | rfl
  ·exact fin
  ·exact fin
 refine ⟨w.heap.size + 1, [{ target := .collected w.heap.size, args := #[] }], w1, ⟨.fn (.func g) ys', xs' ++ #[Value.func (.yield (w.heap.size + 1)) #[] #[]]⟩, w1, g,
  xs' ++ #[Value.func (.yield (w.heap.size + 1)) #[] #[]] ++ ys', w1, ?_, ?_, fun f' _ => hF.1 f', ?_, ?_, calls_plain (CallsIn.mono hcall ?_)⟩
 ·rw [hro, hw1]; exact run_enterLoop_outer fn a.tmps ps as bd
 ·simp [resolve, hfe, Deferred.ofValue]
  rfl
 ·simp only [invoke]; exact run_callFunc ok hg _ w1
 ·intro hd; rw [hF.2.1] at hd; simp at hd
 ·rintro e3 w3 ⟨u, r3, s3, rfl, S3, H3, N', lp, rel', hh, hrd, hp, htm, u3, hv3⟩
  obtain ⟨L3, lp3, hv, hat, hrw, rfl⟩ := rdY_inv hrd
  rw [hv] at hv3
  obtain ⟨t, hr3, rfl⟩ := hv3.yield'
  obtain ⟨Lc, hLc, hLR⟩ := H3.loop_at hat hr3
  have hblk : t.blk = w.heap.size + 1 := H3.loop_here hat hr3 _ htm
  have htmps : Lc.tmps = a.tmps := hLR.tm _ htm
  have hnb : lp3.state ≠ .busy := fun e => by unfold pendX at hp; simp [e] at hp
  have fin : ∀ (hpend : ∀ Q : Exit → Act → World → Prop, ∀ a w, Q x.toExit a w → (match Lc.pending with | none => Q .normal a w | some c => c.wpIn F Nf C.P Q a w)),
    rangePost F Nf C.P (w.heap.size + 1) Q { a with defers := [{ target := .collected w.heap.size, args := #[] }] ++ a.defers } (.returned u) w3 := fun hpend => by
   obtain ⟨H4, S4⟩ := H3.turnLoop hat hr3 { lp3 with state := .exhausted } { Lc with state := .exhausted } { hLR with state := rfl }
   have hLc' := hLc
   rw [hblk] at hLc' H4 S4
   refine ⟨Lc.pending, _, run_endLoop hLc' (by rw [hLR.state]; exact hnb), ?_⟩
   refine hpend Q _ _ ?_
   generalize hw4 : w3.putObj (w.heap.size + 1) (.loop { Lc with state := .exhausted }) = w4 at *
   have Hk := (H4.kill (some L3)).1
   rw [kill_put] at Hk
   have hget : ∀ i, VR r3 (lp3.tmps.getD i undef) (a.tmps.toList.getD i undef) := fun i => by
    rw [← htmps]
    rcases Nat.lt_or_ge i lp3.tmps.length with hi | hi
    ·obtain ⟨u, hu, hvu⟩ := hLR.tmps i lp3.tmps[i] (by simp [hi])
     have : Lc.tmps.toList.getD i undef = u := by
      rw [List.getD_eq_getElem?_getD, Array.getElem?_toList, hu]; rfl
     rw [this]
     simpa [List.getD_eq_getElem?_getD, hi] using hvu
    ·rw [List.getD_eq_getElem?_getD, List.getElem?_eq_none hi, List.getD_eq_getElem?_getD, List.getElem?_eq_none (by simpa [hLR.size] using hi)]
     exact VR.undef' r3
   obtain ⟨_, Lw, o1⟩ := rdW0_ok rs lp3.tmps (rs.map fun ic => a.tmps.toList.getD ic.1 undef) (s3.heap.kill (some L3)) ds' _ hrw Hk (by simp) (fun p ic hp => ⟨_, by simp [hp], hget ic.1⟩)
   have he := Hk.basis.empty
   obtain ⟨r4, _, K4, v4, _, _, w4o⟩ := o1 [] _ he ⟨fun b t hb => (by rw [at_nil] at hb; cases hb), fun b t _ _ => ⟨fun ho => (by obtain ⟨c, tc, _, c2, _⟩ := ho; cases c2), fun _ _ ho => (by obtain ⟨c, tc, _, c2, _⟩ := ho; cases c2)⟩⟩
   have hsub : ∀ k, Owned r4 (imps false ds' []).2 k → Owned r3 (s3.heap.put L3 (.loop { lp3 with state := .exhausted })) k := fun k hk => by
    rcases w4o.1 k hk with ⟨c, tc, _, c2, _⟩ | h3
    ·cases c2
    ·exact ((Less.kill (s3.heap.put L3 (.loop { lp3 with state := .exhausted })) (some L3)).owned (r := r3) (k := k) (by rw [kill_put]; exact h3))
   have hsubM : ∀ k, Mine r4 (imps false ds' []).2 k → Mine r3 (s3.heap.put L3 (.loop { lp3 with state := .exhausted })) k := fun k hk => by
    rcases w4o.2 k hk with ⟨c, tc, _, c2, _⟩ | h3
    ·cases c2
    ·exact ((Less.kill (s3.heap.put L3 (.loop { lp3 with state := .exhausted })) (some L3)).mine (r := r3) (k := k) (by rw [kill_put]; exact h3))
   have Stot : StepF r s.heap w r4 (imps false ds' []).2 w4 := ((S1.toF.trans S3).trans S4.toF).trans (StepF.same hsub hsubM)
   have hld : ldS N (rel.map (·.1)) (.val unk :: ds') = ⟨mkT N (tf :: rs.map (·.1)) (unk :: (imps false ds' []).1) fun _ => unk, (imps false ds' []).2⟩ := by
    unfold ldS
    rw [hrs] at hpl ⊢
    simp only [imps, imp, mkS_plain hpl]
   have hsz : a.tmps.size = N := by have := H.size; rw [this, hNl]
   refine hQ r4 _ _ (by rw [hld]; exact Stot) ?_
   rw [hld]
   refine ⟨by simp [mkT, hsz], fun j v hj => ?_, K4, M1.stepF HR1 (S3.trans S4.toF)⟩
   ·simp only [mkT, List.getElem?_map] at hj
    cases hrj : (List.range N)[j]? with
    | none => simp [hrj] at hj
    | some j' =>
      have hjN : j < N := by
       have := (List.getElem?_eq_some_iff.1 hrj).1
       simpa using this
      rw [List.getElem?_range hjN] at hrj
      cases hrj
      rw [List.getElem?_range hjN] at hj
      simp only [Option.map_some, Option.some.injEq] at hj
      have hja : j < a.tmps.size := by omega
      split at hj
      ·rename_i y hy
       subst hj
       obtain ⟨p, h1, h2⟩ := atR_get _ _ _ _ hy
       cases p with
       | zero =>
         simp only [List.getElem?_cons_zero, Option.some.injEq] at h2
         subst h2
         exact ⟨a.tmps[j], by simp [hja], .top _⟩
       | succ p =>
         simp only [List.getElem?_cons_succ] at h1 h2
         obtain ⟨u, hu, hvu⟩ := v4.2 p y h2
         simp only [List.getElem?_map] at hu h1
         cases hp : rs[p]? with
         | none => simp [hp] at h1
         | some ic =>
           simp only [hp, Option.map_some, Option.some.injEq] at h1 hu
           subst h1
           refine ⟨u, ?_, hvu⟩
           rw [← hu]
           simp [List.getD_eq_getElem?_getD, hja]
      ·subst hj
       exact ⟨a.tmps[j], by simp [hja], .top _⟩
  have hp2 : (match lp3.pending with
    | none => some X.normal
    | some .ret => some .ret
    | some (.exit id) => some (.exit id)
    | _ => none) = some x := by
   unfold pendX at hp
   cases hst : lp3.state with
   | busy => exact absurd hst hnb
   | ready => simp only [hst] at hp; exact hp
   | done => simp only [hst] at hp; exact hp
   | exhausted => simp only [hst] at hp; exact hp
  split at hp2
  ·rename_i he
   cases hp2
   exact fin fun Q a w h => by simp only [hLR.pending, he]; exact h
  ·rename_i he
   cases hp2
   exact fin fun Q a w h => by simp only [hLR.pending, he]; exact wpIn_ret h
  ·rename_i id he
   cases hp2
   exact fin fun Q a w h => by simp only [hLR.pending, he]; exact wpIn_exit h
  ·cases hp2
end
end Go.Am
namespace Go.Am
noncomputable section
open Go Go.RowKit
variable {C : Cfg}
def rdS1 : List (Nat × Cv) → List Value → Heap → Option (List D × Heap)
 | [], _, h => some ([], h)
 | (i, c) :: rs, tmps, h => match rdC c h (tmps.getD (tmI i) undef) with
   | some (d, h') => match rdS1 rs tmps h' with
     | some (ds, h'') => some (d :: ds, h'')
     | none => none
   | none => none
theorem rdS1_ok {w : World} {r : Ren} : ∀ (rs : List (Nat × Cv)) (tmps us : List Value) (h : Heap) (ds : List D) (h' : Heap), rdS1 rs tmps h = some (ds, h') → HR C.G C.GB r h w → us.length = rs.length →
  (∀ (p : Nat) (ic : Nat × Cv), rs[p]? = some ic → ∃ u, us[p]? = some u ∧ VR r (tmps.getD (tmI ic.1) undef) u) → HR C.G C.GB r h' w ∧ Less h' h ∧ InsOK C.G C.GB w r h h' ds us
 | [], tmps, us, h, ds, h', hd, H, hl, hv => by
   simp only [rdS1, Option.some.injEq, Prod.mk.injEq] at hd
   obtain ⟨rfl, rfl⟩ := hd
   have : us = [] := List.length_eq_zero_iff.1 hl
   subst this
   exact ⟨H, .refl _, fun h0 r0 H0 A => ⟨r0, .refl _, by simpa [imps] using H0, by simpa [imps] using VRs.nil r0, by simpa [imps] using A, by simpa [imps] using Cov.refl r0 h0 r h, by simpa [imps] using Own2.refl r0 h0 r h⟩⟩
 | (i, c) :: rs, tmps, us, h, ds, h', hd, H, hl, hv => by
   simp only [rdS1] at hd
   cases h1 : rdC c h (tmps.getD (tmI i) undef) with
   | none => rw [h1] at hd; cases hd
   | some x =>
     obtain ⟨d, hh⟩ := x
     simp only [h1] at hd
     cases h2 : rdS1 rs tmps hh with
     | none => rw [h2] at hd; cases hd
     | some y =>
       obtain ⟨ds', hh'⟩ := y
       simp only [h2, Option.some.injEq, Prod.mk.injEq] at hd
       obtain ⟨rfl, rfl⟩ := hd
       obtain ⟨u, hu, hvu⟩ := hv 0 (i, c) rfl
       obtain ⟨H1, L1, o1⟩ := rdC_ok h1 H hvu
       cases us with
       | nil => simp at hl
       | cons u0 us =>
         simp only [List.getElem?_cons_zero, Option.some.injEq] at hu
         subst hu
         obtain ⟨H2, L2, o2⟩ := rdS1_ok rs tmps us hh ds' hh' h2 H1 (by simpa using hl) (fun p ic hp => by simpa using hv (p + 1) ic (by simpa using hp))
         refine ⟨H2, L2.trans L1, fun h0 r0 H0 A => ?_⟩
         obtain ⟨r1, le1, K1, v1, A1, c1, w1⟩ := o1 h0 r0 H0 A
         obtain ⟨r2, le2, K2, v2, A2, c2, w2⟩ := o2 _ r1 K1 A1
         exact ⟨r2, le1.trans le2, by simpa [imps] using K2, by simpa [imps] using VRs.cons (v1.mono le2) v2, by simpa [imps] using A2, by simpa [imps] using c1.trans (c2.less L1), by simpa [imps] using w1.trans w2 L1⟩
theorem HR.rest {r r1 r2 : Ren} {h hs h2 : Heap} {w w' : World} (H : HR C.G C.GB r h w) (A : Ap r1 hs r h) (S : StepF r1 hs w r2 h2 w') (hgl : ∀ k, k < C.GB → ¬ Owned r1 hs k) :
  HR C.G C.GB r h w' ∧ Apart r h r2 h2 := by
 have keepA : ∀ b t, (h.at b).alive = true → r b = some t → w'.heap[t.blk]? = w.heap[t.blk]? := fun b t hb hr => by
  obtain ⟨t', hr', hlt, _⟩ := H.obj b hb
  rw [hr] at hr'; cases hr'
  exact S.keep _ hlt (A.2 b t hb hr).1
 have keepB : ∀ b t, (h.at b).alive = true → r b = some t → ∀ k, t.inn k → w'.heap[k]? = w.heap[k]? := fun b t hb hr k hi => S.keep _ (H.frz b t hb hr k hi).1 ((A.2 b t hb hr).2 k hi)
 refine ⟨⟨H.dom, fun b hb => ?_, H.exc, H.glob_keep fun k hk => S.keep k (by have := H.gb; omega) (hgl k hk), by have := H.gb; have := S.size; omega, H.own, fun b t hb hr k hk => let ⟨x, y⟩ := H.frz b t hb hr k hk; ⟨Nat.lt_of_lt_of_le x S.size, y⟩⟩, fun b t hb hr => ?_⟩
 ·obtain ⟨t, a, c, e⟩ := H.obj b hb
  exact ⟨t, a, Nat.lt_of_lt_of_le c S.size, ObjR.of_block (.refl _) (keepA b t hb a) (keepB b t hb a) e⟩
 ·obtain ⟨t', hr', hlt, _⟩ := H.obj b hb
  rw [hr] at hr'; cases hr'
  refine ⟨fun ho => (A.2 b t hb hr).1 (S.own _ hlt ho), fun hw ho => ?_, fun k hk ho => (A.2 b t hb hr).2 k hk (S.own _ (H.frz b t hb hr k hk).1 ho)⟩
  obtain ⟨c, tc, c1, c2, c3⟩ := S.mine _ hlt ho
  obtain ⟨x, y⟩ := A.1 c tc (AObj.alive_of_owned c1) c2
  rcases c3 with e | e
  ·exact x ⟨b, t, hw, hr, e.symm⟩
  ·exact y _ e ⟨b, t, hw, hr, rfl⟩
theorem HR.give {r r2 : Ren} {h h2 : Heap} {w : World} (H : HR C.G C.GB r h w) (ap : Apart r h r2 h2) (H2 : HR C.G C.GB r2 h2 w) {b2 : Nat} {t2 : Tgt} (ho : (h2.at b2).owned = true) (hm : (h2.at b2).mate = none) (hr : r2 b2 = some t2)
  (o' : AObj) (t' : Tgt) (hb : t'.blk = t2.blk) (hi : ∀ k, ¬ t'.inn k) (hobj : ObjR r w t' o') :
  HR C.G C.GB (r.put (K0 + h.length) t') (h ++ [o']) w ∧ Apart (r.put (K0 + h.length) t') (h ++ [o']) r2 (h2.kill (some b2)) ∧ HR C.G C.GB r2 (h2.kill (some b2)) w := by
 obtain ⟨t3, hr3, hlt, _⟩ := H2.obj b2 (AObj.alive_of_owned ho)
 rw [hr] at hr3; cases hr3
 have hatk : ∀ b', ((h2.kill (some b2)).at b').alive = true → b' ≠ b2 ∧ (h2.kill (some b2)).at b' = h2.at b' := fun b' hb' => by
  rw [at_kill] at hb' ⊢
  split at hb'
  ·simp [AObj.alive] at hb'
  ·rename_i h1
   rw [if_neg h1]
   exact ⟨fun e => h1 (by rw [e]), rfl⟩
 have sub : Sub r2 (h2.kill (some b2)) h2 := Sub.of fun b' hb' => (hatk b' hb').2
 have hnot : ¬ Mine r2 (h2.kill (some b2)) t2.blk := fun ⟨b', t3, hb', hr', he⟩ => by
  obtain ⟨h1, h3⟩ := hatk b' (AObj.alive_of_owned hb')
  rw [h3] at hb'
  rcases he with he | he
  ·rcases H2.exc b2 b' t2 t3 ho (AObj.alive_of_owned hb') hr hr' he.symm with e | ⟨e, _⟩
   ·exact h1 e.symm
   ·rw [hm] at e; cases e
  ·exact (H2.frz b' t3 (AObj.alive_of_owned hb') hr' _ he).2 ⟨b2, t2, ho, hr, rfl⟩
 refine ⟨H.newOwn o' t' (by rw [hb]; exact hlt) (fun b' t3 hal hr' => ?_) (by rw [hb]; exact H2.own b2 t2 ho hr) hobj (fun k hk => absurd hk (hi k)), fun b' t3 hal hr' => ?_, (H2.kill (some b2)).1⟩
 ·obtain ⟨x, _, z⟩ := ap b' t3 hal hr'
  exact ⟨fun he => x ⟨b2, t2, ho, hr, (he.trans hb).symm⟩, fun k hk he => z k hk ⟨b2, t2, ho, hr, hb.symm.trans he⟩⟩
 ·by_cases e : b' = K0 + h.length
  ·subst e
   rw [Ren.put_self] at hr'; cases hr'
   exact ⟨fun x => hnot (hb ▸ x.mine), fun _ x => hnot (hb ▸ x), fun k hk => absurd hk (hi k)⟩
  ·rw [at_snoc, if_neg e] at hal ⊢
   rw [Ren.put_other _ _ e] at hr'
   exact ap.sub sub b' t3 hal hr'
theorem SR.lay {base : Nat} {r r1 : Ren} {s : St} {a : Act} {w : World} (H : SR C.G C.GB base r s a w) {rs : List Nat} {vs : List Value} {h1 : Heap} {N : Nat} (hN : s.tmps.length = N) (hall : (rs.all fun i => alOk s.tmps i) = true)
  (K1 : HR C.G C.GB r1 h1 w) (v1 : VRs r1 vs (rs.map fun i => a.tmps.getD (tmI i) undef)) : SR C.G C.GB base r1 ⟨mkS N rs vs, h1⟩ a w := by
 have hget : ∀ i, VR r (s.tmps.getD i undef) (a.tmps.getD i undef) := fun i => by
  have := H.ev (.tmp i)
  simp only [St.ev, nthR_eq, Act.eval] at this
  simpa [Array.getD_eq_getD_getElem?] using this
 refine ⟨by rw [H.size, hN]; simp [mkS], fun j v hj => ?_, K1, H.marks⟩
 simp only [mkS, List.getElem?_map] at hj
 cases hr : (List.range N)[j]? with
 | none => simp [hr] at hj
 | some j' =>
   have hjN : j < N := by
    have := (List.getElem?_eq_some_iff.1 hr).1
    simpa using this
   rw [List.getElem?_range hjN] at hr
   cases hr
   rw [List.getElem?_range hjN] at hj
   simp only [Option.map_some, Option.some.injEq] at hj
   have hja : j < a.tmps.size := by rw [H.size, hN]; exact hjN
   split at hj
   ·rename_i x hx
    subst hj
    obtain ⟨p, q, y, h1, h2, h3⟩ := atS_get _ _ _ _ hx
    obtain ⟨u, hu, hvu⟩ := v1.2 p y h2
    simp only [List.getElem?_map, h1, Option.map_some, Option.some.injEq] at hu
    rcases h3 with ⟨e1, rfl⟩ | ⟨e1, e2, rfl⟩
    ·subst e1
     refine ⟨u, ?_, hvu⟩
     rw [← hu]
     simp [Array.getD_eq_getD_getElem?, hja]
    ·have ha := List.all_eq_true.1 hall _ (List.mem_of_getElem? h1)
     unfold alOk at ha
     simp only [e1] at ha
     have ei : q / 1000000 - 1 = j := by omega
     have em : tmI q = q % 1000000 := by unfold tmI; rw [e1]
     rw [em] at hu
     rw [ei] at ha
     have hne : capV (s.tmps.getD (q % 1000000) undef) ≠ unk := fun e => by rw [e] at ha; cases ha
     have hg := hget j
     rw [show a.tmps.getD j undef = a.tmps[j] by simp [Array.getD_eq_getD_getElem?, hja]] at hg
     refine ⟨a.tmps[j], by simp [hja], ?_⟩
     rcases capV_vr (hu ▸ hget (q % 1000000)) hvu hne with e | ⟨z, z1, z2⟩
     ·rw [e]; exact .top _
     ·rw [← sameP_vr ha z1 hg]; exact z2
   ·subst hj
    exact ⟨a.tmps[j], by simp [hja], .top _⟩
theorem atS_append : ∀ (A B : List Nat) (vs ws : List Value) (j : Nat), A.length = vs.length → atS (A ++ B) (vs ++ ws) j = match atS A vs j with
  | some v => some v
  | none => atS B ws j
 | [], B, [], ws, j, _ => by simp [atS]
 | [], _, _ :: _, _, _, h => by simp at h
 | _ :: _, _, [], _, _, h => by simp at h
 | r :: A, B, v :: vs, ws, j, h => by
   have ih := atS_append A B vs ws j (by simpa using h)
   simp only [List.cons_append, atS]
   cases Nat.blt r 1000000 with
   | true =>
     cases Nat.beq j r with
     | true => rfl
     | false => exact ih
   | false =>
     cases Nat.beq j (r % 1000000) with
     | true => rfl
     | false =>
       cases Nat.beq (j + 1) (r / 1000000) with
       | true => rfl
       | false => exact ih
theorem atS_keep (f : Nat → Value) : ∀ (keep : List Nat) (j : Nat), (keep.all fun r => Nat.blt r 1000000) = true → keep.contains j = true → atS keep (keep.map f) j = some (f j)
 | [], j, _, h => by simp at h
 | r :: rs, j, hp, h => by
   simp only [List.all_cons, Bool.and_eq_true] at hp
   simp only [List.map_cons, atS, hp.1]
   cases hb : Nat.beq j r with
   | true => rw [Nat.beq_eq] at hb; subst hb; rfl
   | false =>
     simp only
     refine atS_keep f rs j hp.2 ?_
     simp only [List.contains_cons, Bool.or_eq_true] at h
     rcases h with h | h
     ·have : j = r := by simpa using h
      subst this; rw [Nat.beq_refl] at hb; cases hb
     ·exact h
theorem atS_two {R : Value → Value → Prop} : ∀ (rel : List Nat) (vs vs' : List Value) (j : Nat) (v' : Value), vs.length = vs'.length → (∀ (p : Nat) (x x' : Value), vs[p]? = some x → vs'[p]? = some x' → R x x' ∧ R (capV x) (capV x')) →
  atS rel vs' j = some v' → ∃ v, atS rel vs j = some v ∧ R v v'
 | [], vs, vs', j, v', _, _, h => by simp [atS] at h
 | _ :: _, _, [], _, _, _, _, h => by simp [atS] at h
 | _ :: _, [], _ :: _, _, _, hl, _, _ => by simp at hl
 | r :: rs, x :: vs, x' :: vs', j, v', hl, hR, h => by
   have h0 := hR 0 x x' rfl rfl
   have ih := atS_two (R := R) rs vs vs' j v' (by simpa using hl) (fun p a b ha hb => hR (p + 1) a b (by simpa using ha) (by simpa using hb))
   simp only [atS] at h ⊢
   cases hb : Nat.blt r 1000000 with
   | true =>
     simp only [hb] at h ⊢
     cases hc : Nat.beq j r with
     | true => simp only [hc, Option.some.injEq] at h ⊢; subst h; exact ⟨x, rfl, h0.1⟩
     | false => simp only [hc] at h ⊢; exact ih h
   | false =>
     simp only [hb] at h ⊢
     cases hc : Nat.beq j (r % 1000000) with
     | true => simp only [hc, Option.some.injEq] at h ⊢; subst h; exact ⟨x, rfl, h0.1⟩
     | false =>
       simp only [hc] at h ⊢
       cases hd : Nat.beq (j + 1) (r / 1000000) with
       | true => simp only [hd, Option.some.injEq] at h ⊢; subst h; exact ⟨_, rfl, h0.2⟩
       | false => simp only [hd] at h ⊢; exact ih h
theorem atS_none : ∀ (rel : List Nat) (vs vs' : List Value) (j : Nat), vs.length = vs'.length → atS rel vs' j = none → atS rel vs j = none
 | [], vs, vs', j, _, _ => by simp [atS]
 | _ :: _, [], _, _, _, _ => by simp [atS]
 | _ :: _, _ :: _, [], _, hl, _ => by simp at hl
 | r :: rs, x :: vs, x' :: vs', j, hl, h => by
   have ih := atS_none rs vs vs' j (by simpa using hl)
   simp only [atS] at h ⊢
   cases hb : Nat.blt r 1000000 with
   | true =>
     simp only [hb] at h ⊢
     cases hc : Nat.beq j r with
     | true => simp [hc] at h
     | false => simp only [hc] at h ⊢; exact ih h
   | false =>
     simp only [hb] at h ⊢
     cases hc : Nat.beq j (r % 1000000) with
     | true => simp [hc] at h
     | false =>
       simp only [hc] at h ⊢
       cases hd : Nat.beq (j + 1) (r / 1000000) with
       | true => simp [hd] at h
       | false => simp only [hd] at h ⊢; exact ih h
structure HkX (ks kw : List Kd) where
 vi : Value
 vn : Value
 l : List (Tup ks)
 ws : List (Tup kw)
 c : Value
section hook
variable {ks kw : List Kd}
def stB (g : FuncId) (x : HkX ks kw) : List D := [.val x.vi, .val x.vn, .ovec ks x.l, .fn g [.obox [.vec kw x.ws, .val x.c]] []]
def stH (g : FuncId) (x : HkX ks kw) (us : List Value) : List D := stB g x ++ us.map fun u => .val (xct u)
def vsB (g : FuncId) (x : HkX ks kw) (b : Nat) (c : Nat) : List Value := [x.vi, x.vn, .slice (some ⟨b, 1, some 0⟩) x.l.length ks.length, .func (.func g) #[.pointer (some ⟨c, 0, none⟩)] #[]]
def hsB (x : HkX ks kw) : Heap := [.vec ks x.l true, .vec kw x.ws false, .row [.slice (some ⟨K0 + 1, 0, some 0⟩) x.ws.length kw.length, x.c] true none]
theorem imps_B (g : FuncId) (x : HkX ks kw) : imps false (stB g x) [] = (vsB g x K0 (K0 + 2), hsB x) := by
 simp [stB, vsB, hsB, imps, imp]
theorem imps_append (own : Bool) : ∀ (ds es : List D) (h : Heap), imps own (ds ++ es) h = ((imps own ds h).1 ++ (imps own es (imps own ds h).2).1, (imps own es (imps own ds h).2).2)
 | [], es, h => by simp [imps]
 | d :: ds, es, h => by
   simp only [List.cons_append, imps, imps_append own ds es]
theorem imps_xct (own : Bool) : ∀ (us : List Value) (h : Heap), imps own (us.map fun u => .val (xct u)) h = (us.map xct, h)
 | [], h => rfl
 | u :: us, h => by
   simp only [List.map_cons, imps, imp, imps_xct own us]
theorem imps_H (g : FuncId) (x : HkX ks kw) (us : List Value) : imps false (stH g x us) [] = (vsB g x K0 (K0 + 2) ++ us.map xct, hsB x) := by
 unfold stH
 rw [imps_append, imps_B]
 simp only [imps_xct]
def relB (ti tn tl al : Nat) (ks : List Kd) : List (Nat × Cv) := [(ti, .id), (tn, .id), (tl, .ov ks), (al, .id)]
def relH (ti tn tl al : Nat) (ks : List Kd) (keep : List Nat) : List (Nat × Cv) := relB ti tn tl al ks ++ keep.map fun j => (j, Cv.id)
def hkF (N ti tn tl al : Nat) (keep fr : List Nat) (g : FuncId) (told : HkX ks kw → FT (HkX ks kw)) : St → FT (X × St) := fun s =>
 match Nat.beq s.tmps.length N && (alOk s.tmps al && keep.all fun j => okc (nthR s.tmps j undef)), rdS1 (relB ti tn tl al ks) s.tmps (shS (fr.map fun j => (j, .sv [])) s.tmps s.heap) with
 | true, some ([.val vi, .val vn, .ovec ks' l, .fn g' [.obox [.vec kw' ws, .val c]] []], h) => match recast ks' ks l, recast kw' kw ws, Nat.beq g' g with
   | some l, some ws, true => (told ⟨vi, vn, l, ws, c⟩).map fun y => (.normal, ⟨(List.range N).map fun j => match atS [ti, tn, tl, al] (vsB g y (K0 + lenR h) (K0 + (lenR h + 1))) j with
         | some v => v
         | none => match keep.contains j with
           | true => nthR s.tmps j undef
           | false => unk, h ++ [.vec ks y.l true, .row [unk, y.c] true none]⟩)
   | _, _, _ => .bad
 | _, _ => .bad
theorem one_of {u : Value} (h : u.oneCell' = true) : one1 u = true := by
 cases u <;> first | rfl | simp [Value.oneCell'] at h
theorem capV_scal {v : Value} (h : scal v = true) : capV v = unk := by
 cases v <;> first | rfl | (simp [Am.scal] at h; done) | skip
 rename_i f xs ys
 cases f with
 | func f =>
   simp only [Am.scal, Bool.and_eq_true, Array.isEmpty_iff] at h
   obtain ⟨rfl, rfl⟩ := h
   rfl
 | _ => rfl
theorem shS_len : ∀ (rs : List (Nat × Cv)) (tmps : List Value) (h : Heap), (shS rs tmps h).length = h.length
 | [], _, _ => rfl
 | (i, c) :: rs, tmps, h => by
   unfold shS
   split
   ·rw [shS_len rs]
    unfold shV
    split
    ·split
     ·exact put_length ..
     ·rfl
    ·rfl
   ·exact shS_len rs tmps h
theorem rdS1_len {ti tn tl al : Nat} {ks : List Kd} {tmps : List Value} {h h' : Heap} {ds : List D} (hd : rdS1 (relB ti tn tl al ks) tmps h = some (ds, h')) : h'.length = h.length := by
 have one : ∀ (c : Cv) (h : Heap) (v : Value) (d : D) (h' : Heap), (c = .id ∨ c = .ov ks) → rdC c h v = some (d, h') → h'.length = h.length := fun c h v d h' hc hd => by
  rcases hc with rfl | rfl
  ·exact rdM_len _ _ _ _ _ hd
  ·unfold rdC at hd
   simp only at hd
   split at hd
   ·split at hd
    ·cases hd; rfl
    ·cases hd
   ·exact rdM_len _ _ _ _ _ hd
 have gen : ∀ (rs : List (Nat × Cv)) (h : Heap) (ds : List D) (h' : Heap), (∀ ic ∈ rs, ic.2 = .id ∨ ic.2 = .ov ks) → rdS1 rs tmps h = some (ds, h') → h'.length = h.length := by
  intro rs
  induction rs with
  | nil => intro h ds h' _ hd; simp only [rdS1, Option.some.injEq, Prod.mk.injEq] at hd; rw [hd.2]
  | cons ic rs ih =>
    obtain ⟨i, c⟩ := ic
    intro h ds h' hc hd
    simp only [rdS1] at hd
    cases h1 : rdC c h (tmps.getD (tmI i) undef) with
    | none => rw [h1] at hd; cases hd
    | some x =>
      obtain ⟨d, hh⟩ := x
      simp only [h1] at hd
      cases h2 : rdS1 rs tmps hh with
      | none => rw [h2] at hd; cases hd
      | some z =>
        obtain ⟨ds', hh'⟩ := z
        simp only [h2, Option.some.injEq, Prod.mk.injEq] at hd
        obtain ⟨_, rfl⟩ := hd
        rw [ih hh ds' hh' (fun ic hic => hc ic (by simp [hic])) h2, one c h _ d hh (hc (i, c) (by simp)) h1]
 exact gen _ _ _ _ (fun ic hic => by
  simp only [relB, List.mem_cons, List.not_mem_nil, or_false] at hic
  rcases hic with rfl | rfl | rfl | rfl <;> simp) hd
theorem VR.move_ptr {r r' : Ren} {b b' : Nat} {t : Tgt} (h1 : r b = some t) (h2 : r' b' = some { t with inn := no }) (k1 : K0 ≤ b) (k2 : K0 ≤ b') {u : Value} (h : VR r (.pointer (some ⟨b, 0, none⟩)) u) : VR r' (.pointer (some ⟨b', 0, none⟩)) u := by
 rcases h.ptr' with ⟨t3, hr, _, rfl⟩ | ⟨hlt, _⟩
 ·rw [h1] at hr; cases hr
  exact .ptr b' 0 { t with inn := no } h2 k2
 ·omega
theorem VR.move_func {r r' : Ren} {g : FuncId} {p p' : Value} (hp : ∀ u, VR r p u → VR r' p' u) {u : Value} (h : VR r (.func (.func g) #[p] #[]) u) : VR r' (.func (.func g) #[p'] #[]) u := by
 cases h with
 | scal _ hs => simp [Am.scal] at hs
 | func _ _ xs' _ ys' hx hy h1 h2 =>
   refine .func g _ _ _ _ (by simpa using hx) (by simpa using hy) (fun j hj hj' => ?_) (fun j hj hj' => by simp at hj)
   have e : j = 0 := by simp at hj; exact hj
   subst e
   exact hp _ (h1 0 (by simp) hj')
theorem xct_inv {r : Ren} {q u : Value} (h : VR r (xct q) u) : u = q := by
 unfold xct at h
 cases h with
 | scal _ hs => simp [Am.scal] at hs
 | xct => rfl
theorem hk_ok {b : Code} {id N ti tn tl al : Nat} {keep fr : List Nat} {g : FuncId} {told : HkX ks kw → FT (HkX ks kw)} (hinr : C.inr = true) (hid : Nat.ble 100000 id = false) (hf : flatK ks = true) (hs : 0 < ks.length)
  (hpl : ((ti :: tn :: tl :: keep).all fun r => Nat.blt r 1000000) = true) (hsc : ∀ x y, (told x).run = some y → (scal y.vi && (scal y.vn && scal y.c)) = true)
  (hT : ∀ x y us, (told x).run = some y → us.length = keep.length → LdT C (ldP id N (relH ti tn tl al ks keep) .normal (stH g y us)) b (stH g x us)) :
  ∀ (s : St) (x : X) (s' : St), (hkF N ti tn tl al keep fr g told s).run = some (x, s') → ∀ (Fc : Fence) (n base : Nat) (r : Ren) (a : Act) (w : World) (Q : Exit → Act → World → Prop), Wide Fc → SR C.G C.GB base r s a w → base ≤ w.heap.size →
   (∀ r' a' w', Step r s.heap w r' s'.heap w' → SR C.G C.GB base r' s' a' w' → Q x.toExit a' w') → (Code.block id b).wpIn Fc n C.P Q a w := by
 intro s x s' hrun Fc n base r a w Q hF H hb hQ
 unfold hkF at hrun
 split at hrun
 case h_2 => cases hrun
 rename_i vi vn ks' l g' kw' ws c h hg hrd
 split at hrun
 case h_2 => cases hrun
 rename_i l1 ws1 hrl hrw hgg
 obtain ⟨y, hy, hrun⟩ := FT.map_run _ _ hrun
 obtain ⟨e1, e2⟩ := recast_eq hrl
 obtain ⟨e3, e4⟩ := recast_eq hrw
 subst e1 e3
 have e2 : l1 = l := e2
 have e4 : ws1 = ws := e4
 subst e2 e4
 have hgg := Nat.eq_of_beq_eq_true hgg
 subst hgg
 obtain ⟨rfl, rfl⟩ := Prod.mk.inj hrun
 simp only [Bool.and_eq_true, Nat.beq_eq] at hg
 obtain ⟨hN, hal, hkeep⟩ := hg
 have hplr : ∀ i, Nat.blt i 1000000 = true → alOk s.tmps i = true := fun i hi => by unfold alOk; rw [hi]
 have hplt : ∀ i, Nat.blt i 1000000 = true → tmI i = i := fun i hi => by unfold tmI; rw [hi]
 have hpl' := hpl
 simp only [List.all_cons, Bool.and_eq_true] at hpl'
 obtain ⟨p1, p2, p3, p4⟩ := hpl'
 have hget : ∀ i, VR r (s.tmps.getD i undef) (a.tmps.getD i undef) := fun i => by
  have := H.ev (.tmp i)
  simp only [St.ev, nthR_eq, Act.eval] at this
  simpa [Array.getD_eq_getD_getElem?] using this
 -- what is read
 obtain ⟨Hsh, hsh⟩ := HR.shS (fr.map fun j => (j, Cv.sv [])) s.tmps H.heap
 have hshl := shS_len (fr.map fun j => (j, Cv.sv [])) s.tmps s.heap
 generalize shS (fr.map fun j => (j, Cv.sv [])) s.tmps s.heap = hp at hrd Hsh hsh hshl
 obtain ⟨Hh, L, ins⟩ := rdS1_ok (relB ti tn tl al ks') s.tmps ((relB ti tn tl al ks').map fun ic => a.tmps.getD (tmI ic.1) undef) hp _ h hrd Hsh (by simp) (fun p ic hp => ⟨_, by simp [hp], hget _⟩)
 have he := H.heap.basis.empty
 obtain ⟨r1, _, K1, v1, A1, _, w1⟩ := ins [] _ he ⟨fun b t hb => (by rw [at_nil] at hb; cases hb), fun b t _ _ => ⟨fun ho => (by obtain ⟨c, tc, _, c2, _⟩ := ho; cases c2), fun _ _ ho => (by obtain ⟨c, tc, _, c2, _⟩ := ho; cases c2)⟩⟩
 generalize hx0 : (⟨vi, vn, l1, ws1, c⟩ : HkX ks' kw') = x0 at hy
 have hst : [D.val vi, .val vn, .ovec ks' l1, .fn g' [.obox [.vec kw' ws1, .val c]] []] = stB g' x0 := by rw [← hx0]; rfl
 rw [hst, imps_B] at K1 v1 A1 w1
 simp only at K1 v1 A1 w1
 have own1 : ∀ k, Owned r1 (hsB x0) k → Owned r s.heap k := fun k hk => by
  rcases w1.1 k hk with ⟨c, tc, _, c2, _⟩ | h3
  ·cases c2
  ·exact hsh.1 k h3
 -- the small state
 generalize hus : keep.map (fun j => a.tmps.getD j undef) = us
 have husl : us.length = keep.length := by rw [← hus]; simp
 have hone : ∀ u ∈ us, one1 u = true := fun u hu => by
  rw [← hus] at hu
  obtain ⟨j, hj, rfl⟩ := List.mem_map.1 hu
  have hk := List.all_eq_true.1 hkeep j hj
  rw [nthR_eq] at hk
  exact one_of ((hget j).okc hk)
 have vx : VRs r1 (us.map xct) us := ⟨by simp, fun j v hj => by
  rw [List.getElem?_map] at hj
  cases hu : us[j]? with
  | none => rw [hu] at hj; cases hj
  | some u => rw [hu] at hj; cases hj; exact ⟨u, rfl, .xct u (hone u (List.mem_of_getElem? hu))⟩⟩
 have hrel : (relH ti tn tl al ks' keep).map (·.1) = [ti, tn, tl, al] ++ keep := by
  simp [relH, relB, Function.comp_def]
 have hall : ((relH ti tn tl al ks' keep).map (·.1)).all (fun i => alOk s.tmps i) = true := by
  rw [hrel]
  simp only [List.cons_append, List.nil_append, List.all_cons, Bool.and_eq_true]
  exact ⟨hplr _ p1, hplr _ p2, hplr _ p3, hal, List.all_eq_true.2 fun j hj => hplr j (List.all_eq_true.1 p4 j hj)⟩
 have hvs : VRs r1 (vsB g' x0 K0 (K0 + 2) ++ us.map xct) (((relH ti tn tl al ks' keep).map (·.1)).map fun i => a.tmps.getD (tmI i) undef) := by
  rw [hrel, List.map_append]
  have e : (keep.map fun i => a.tmps.getD (tmI i) undef) = us := by
   rw [← hus]
   refine List.map_congr_left fun j hj => ?_
   rw [hplt j (List.all_eq_true.1 p4 j hj)]
  rw [e]
  refine VRs.append ?_ vx
  simpa [relB] using v1
 have S1 := SR.lay (rs := (relH ti tn tl al ks' keep).map (·.1)) H hN hall K1 hvs
 have hld : ∀ z : HkX ks' kw', ldS N ((relH ti tn tl al ks' keep).map (·.1)) (stH g' z us) = ⟨mkS N ((relH ti tn tl al ks' keep).map (·.1)) (vsB g' z K0 (K0 + 2) ++ us.map xct), hsB z⟩ := fun z => by
  unfold ldS
  rw [imps_H]
 rw [← hld x0] at S1
 have hwc : wholeC (ldP id N (relH ti tn tl al ks' keep) .normal (stH g' y us)) b = .block id b := by
  unfold wholeC
  rw [show (ldP id N (relH ti tn tl al ks' keep) .normal (stH g' y us)).id = id from rfl, hid]
 rw [← hwc]
 refine hT x0 y us hy husl .normal (stH g' y us) rfl Fc n base r1 a w Q hF (fun h => by rw [hinr] at h; cases h) S1 hb fun r' a' w' S SR' => ?_
 have S : StepF r1 (hsB x0) w r' (hsB y) w' := by
  have e1 := congrArg St.heap (hld x0)
  have e2 := congrArg St.heap (hld y)
  simp only at e1 e2
  rw [← e1, ← e2]
  exact S
 have SR' : SR C.G C.GB base r' ⟨mkS N ((relH ti tn tl al ks' keep).map (·.1)) (vsB g' y K0 (K0 + 2) ++ us.map xct), hsB y⟩ a' w' := by
  rw [← hld y]; exact SR'
 -- the rest of the heap
 obtain ⟨Hr, ap⟩ := Hh.rest A1 S (fun k hk ho => by
  obtain ⟨b, t, hb, hr, rfl⟩ := own1 k ho
  have := H.heap.own b t hb hr
  omega)
 have H2 : HR C.G C.GB r' (hsB y) w' := SR'.heap
 have hlenh := rdS1_len hrd
 have hsy := hsc x0 y hy
 simp only [Bool.and_eq_true] at hsy
 obtain ⟨s1, s2, s3⟩ := hsy
 have at0 : (hsB y).at K0 = .vec ks' y.l true := rfl
 have at2 : (hsB y).at (K0 + 2) = .row [.slice (some ⟨K0 + 1, 0, some 0⟩) y.ws.length kw'.length, y.c] true none := rfl
 -- the list
 obtain ⟨tA, hrA, hltA, hobA⟩ := H2.obj K0 (by rw [at0]; rfl)
 rw [at0] at hobA
 obtain ⟨o0, ⟨o1, o2, o3⟩, o4, o5⟩ := hobA
 have stepA : ∃ t1 h3, HR C.G C.GB (r.put (K0 + h.length) t1) (h ++ [.vec ks' y.l true]) w' ∧ Apart (r.put (K0 + h.length) t1) (h ++ [.vec ks' y.l true]) r' h3 ∧ HR C.G C.GB r' h3 w' ∧ h3.at (K0 + 2) = (hsB y).at (K0 + 2) ∧
   (∀ k, ¬ t1.inn k) ∧ (0 < y.l.length → t1.blk = tA.blk) ∧ (∀ (n : Nat) (u : Value), AsOK tA n ks'.length u → n = y.l.length → AsOK t1 n ks'.length u) := by
  rcases Nat.eq_zero_or_pos y.l.length with h0 | hp
  ·obtain ⟨q1, q2, q3⟩ := Hr.nothing o0 o2 y.l h0 true
   refine ⟨_, hsB y, q1, fun b' t3 hal hr' => ?_, H2, rfl, fun _ h => h, fun h => by omega, fun n u hA hn => ?_⟩
   ·by_cases e : b' = K0 + h.length
    ·subst e
     rw [Ren.put_self] at hr'; cases hr'
     refine ⟨H2.zero.2, fun hw => ?_, fun _ h => h.elim⟩
     rw [at_snoc, if_pos rfl] at hw
     simp [AObj.owned, h0] at hw
    ·rw [at_snoc, if_neg e] at hal ⊢
     rw [Ren.put_other _ _ e] at hr'
     exact ap b' t3 hal hr'
   ·obtain ⟨x1, x2, x3, x4⟩ := hA
    refine ⟨rfl, x2, by rw [hn, h0]; simp, ?_⟩
    rcases x4 with x4 | ⟨x4, _⟩
    ·exact .inl x4
    ·omega
  ·obtain ⟨m1, m2, m3⟩ := o5 hp
   have hown : ((hsB y).at K0).owned = true := by rw [at0]; simp [AObj.owned, Nat.blt_eq]; omega
   obtain ⟨q1, q2, q3⟩ := Hr.give ap H2 (b2 := K0) hown (by rw [at0]; rfl) hrA (.vec ks' y.l true) { tA with inn := no } rfl (fun _ h => h)
    ⟨o0, ⟨o1, o2, o3⟩, fun h => by omega, fun _ => ⟨m1, fun i x hx => RowIn.of_vals hf ((m2 i x hx).vals hf), m3⟩⟩
   exact ⟨_, _, q1, q2, q3, rfl, fun _ h => h, fun _ => rfl, fun n u hA _ => hA⟩
 obtain ⟨t1, h3, HA, apA, H3, at23, ti1, tb1, hAs⟩ := stepA
 -- the box
 rw [at2] at at23
 obtain ⟨tB, hrB, hltB, hobB⟩ := H3.obj (K0 + 2) (by rw [at23]; rfl)
 rw [at23] at hobB
 obtain ⟨b1, b2, b3⟩ := hobB
 have hlen2 : (h ++ [AObj.vec ks' y.l true]).length = h.length + 1 := by simp
 obtain ⟨HB, _, _⟩ := HA.give apA H3 (b2 := K0 + 2) (by rw [at23]; rfl) (by rw [at23]; rfl) hrB (.row [unk, y.c] true none) { tB with inn := no } rfl (fun _ h => h)
  ⟨b1, fun j c hj => by
   match j, hj with
   | 0, hj =>
     cases hj
     obtain ⟨u, e1, _⟩ := b2 0 _ rfl
     exact ⟨u, e1, .top _⟩
   | 1, hj =>
     cases hj
     obtain ⟨u, e1, e2⟩ := b2 1 _ rfl
     have e3 := e2.scal_eq s3
     subst e3
     exact ⟨_, e1, .scal _ s3⟩
   | j + 2, hj => simp at hj, b3⟩
 rw [hlen2] at HB
 generalize hrr : (r.put (K0 + h.length) t1).put (K0 + (h.length + 1)) { tB with inn := no } = rr at HB
 have le1 : Ren.le r (r.put (K0 + h.length) t1) := Ren.le_put Hr t1
 have le2 : Ren.le (r.put (K0 + h.length) t1) rr := by
  rw [← hrr]
  have := Ren.le_put HA { tB with inn := no }
  rwa [hlen2] at this
 have hheap : h ++ [AObj.vec ks' y.l true] ++ [AObj.row [unk, y.c] true none] = h ++ [.vec ks' y.l true, .row [unk, y.c] true none] := by simp
 rw [hheap] at HB
 have newA : rr (K0 + h.length) = some t1 := le2 _ _ (Ren.put_self ..)
 have newB : rr (K0 + (h.length + 1)) = some { tB with inn := no } := by rw [← hrr]; exact Ren.put_self ..
 have backA : y.l.length = 0 ∨ Owned r' (hsB y) tA.blk := by
  rcases Nat.eq_zero_or_pos y.l.length with h0 | hp
  ·exact .inl h0
  ·exact .inr ⟨K0, tA, by rw [at0]; simp [AObj.owned, Nat.blt_eq]; omega, hrA, rfl⟩
 have backB : Owned r' (hsB y) tB.blk := ⟨K0 + 2, tB, by rw [at2]; rfl, hrB, rfl⟩
 have mineR : ∀ k, Mine rr (h ++ [.vec ks' y.l true, .row [unk, y.c] true none]) k → Mine r h k ∨ Owned r' (hsB y) k := fun k hm => by
  rw [← hheap, ← hrr] at hm
  rw [← hlen2] at hm
  rcases mine_snoc hm with hm | ⟨_, hm⟩
  ·rcases mine_snoc hm with hm | ⟨hw, hm⟩
   ·exact .inl hm
   ·rcases hm with e | e
    ·have hp : 0 < y.l.length := by simpa [AObj.owned, Nat.blt_eq] using hw
     rcases backA with h0 | h0
     ·omega
     ·right; rw [← e, tb1 hp]; exact h0
    ·exact absurd e (ti1 k)
  ·rcases hm with e | e
   ·right; rw [← e]; exact backB
   ·exact e.elim
 have ownR : ∀ k, Owned rr (h ++ [.vec ks' y.l true, .row [unk, y.c] true none]) k → Owned r h k ∨ Owned r' (hsB y) k := fun k hm => by
  rw [← hheap, ← hrr] at hm
  rw [← hlen2] at hm
  rcases own_snoc hm with hm | ⟨_, e⟩
  ·rcases own_snoc hm with hm | ⟨hw, e⟩
   ·exact .inl hm
   ·have hp : 0 < y.l.length := by simpa [AObj.owned, Nat.blt_eq] using hw
    rcases backA with h0 | h0
    ·omega
    ·right; rw [← e, tb1 hp]; exact h0
  ·right; rw [← e]; exact backB
 simp only [lenR_eq] at hQ
 refine hQ rr a' w' ⟨le1.trans le2, S.os, S.tape, S.output, S.size, fun k hk ho => S.keep k hk fun h => ho (own1 k h), fun k hk ho => ?_, by simp; omega, fun b t hb => ?_, fun k hk ho => ?_⟩ ⟨?_, fun j v hj => ?_, HB, SR'.marks⟩
 ·exact (ownR k ho).elim (fun h => hsh.1 k (L.owned h)) fun h => own1 k (S.own k hk h)
 ·rw [← hrr] at hb
  by_cases e : b = K0 + (h.length + 1)
  ·right; omega
  ·rw [Ren.put_other _ _ e] at hb
   by_cases e2 : b = K0 + h.length
   ·right; omega
   ·rw [Ren.put_other _ _ e2] at hb; exact .inl hb
 ·exact (mineR k ho).elim (fun h => hsh.2 k (L.mine h)) fun h => (own1 k (S.own k hk h)).mine
 ·rw [SR'.size]; simp [mkS]
 ·simp only [List.getElem?_map] at hj
  cases hr0 : (List.range N)[j]? with
  | none => simp [hr0] at hj
  | some j' =>
    have hjN : j < N := by
     have := (List.getElem?_eq_some_iff.1 hr0).1
     simpa using this
    rw [List.getElem?_range hjN] at hr0
    cases hr0
    rw [List.getElem?_range hjN] at hj
    simp only [Option.map_some, Option.some.injEq] at hj
    have small : ∀ v, atS ([ti, tn, tl, al] ++ keep) (vsB g' y K0 (K0 + 2) ++ us.map xct) j = some v → ∃ u, a'.tmps[j]? = some u ∧ VR r' v u := fun v hv => by
     refine SR'.tmps j v ?_
     simp only [mkS, List.getElem?_map, List.getElem?_range hjN, Option.map_some, hrel, hv]
    have hlv : (vsB g' y K0 (K0 + 2)).length = (vsB g' y (K0 + h.length) (K0 + (h.length + 1))).length := rfl
    cases ha : atS [ti, tn, tl, al] (vsB g' y (K0 + h.length) (K0 + (h.length + 1))) j with
    | some v0 =>
      rw [ha] at hj
      simp only at hj
      subst hj
      obtain ⟨v1, e1, e2⟩ := atS_two (R := fun x x' => ∀ u, VR r' x u → VR rr x' u) [ti, tn, tl, al] _ _ j v0 hlv (fun p x x' hx hx' => by
       have scl : ∀ z, scal z = true → ∀ u, VR r' z u → VR rr z u := fun z hz u hu => by rw [hu.scal_eq hz]; exact .scal _ hz
       have cup : ∀ z, scal z = true → ∀ u, VR r' (capV z) u → VR rr (capV z) u := fun z hz u _ => by rw [capV_scal hz]; exact .top _
       have ptr : ∀ u, VR r' (.pointer (some ⟨K0 + 2, 0, none⟩)) u → VR rr (.pointer (some ⟨K0 + (h.length + 1), 0, none⟩)) u := fun u hu => VR.move_ptr hrB newB (by omega) (by omega) hu
       match p, hx, hx' with
       | 0, hx, hx' => cases hx; cases hx'; exact ⟨scl _ s1, cup _ s1⟩
       | 1, hx, hx' => cases hx; cases hx'; exact ⟨scl _ s2, cup _ s2⟩
       | 2, hx, hx' =>
         cases hx; cases hx'
         refine ⟨fun u hu => ?_, fun u _ => .top _⟩
         obtain ⟨t3, hr3, _, hA⟩ := hu.as'
         rw [hrA] at hr3; cases hr3
         exact .asl _ _ _ t1 _ newA (by omega) (hAs _ u hA rfl)
       | 3, hx, hx' => cases hx; cases hx'; exact ⟨fun u hu => VR.move_func ptr hu, ptr⟩
       | p + 4, hx, hx' => simp [vsB] at hx) ha
      obtain ⟨u, f1, f2⟩ := small v1 (by rw [atS_append _ _ _ _ _ rfl, e1])
      exact ⟨u, f1, e2 u f2⟩
    | none =>
      rw [ha] at hj
      have hn := atS_none [ti, tn, tl, al] (vsB g' y K0 (K0 + 2)) _ j hlv ha
      cases hc : keep.contains j with
      | true =>
        rw [hc] at hj
        simp only at hj
        subst hj
        obtain ⟨u, f1, f2⟩ := small (xct (a.tmps.getD j undef)) (by
         rw [atS_append _ _ _ _ _ rfl, hn, ← hus, List.map_map]
         exact atS_keep (fun j => xct (a.tmps.getD j undef)) keep j p4 hc)
        have e := xct_inv f2
        subst e
        refine ⟨_, f1, ?_⟩
        rw [nthR_eq]
        exact (hget j).mono (le1.trans le2)
      | false =>
        rw [hc] at hj
        simp only at hj
        subst hj
        have hja : j < a'.tmps.size := by rw [SR'.size]; simp [mkS]; exact hjN
        exact ⟨a'.tmps[j], by simp [hja], .top _⟩
def hookOf {b : Code} (id N ti tn tl al : Nat) (keep fr : List Nat) (g : FuncId) (told : HkX ks kw → FT (HkX ks kw)) (hinr : C.inr = true) (hid : Nat.ble 100000 id = false) (hf : flatK ks = true) (hs : 0 < ks.length)
  (hpl : ((ti :: tn :: tl :: keep).all fun r => Nat.blt r 1000000) = true) (hsc : ∀ x y, (told x).run = some y → (scal y.vi && (scal y.vn && scal y.c)) = true)
  (hT : ∀ x y us, (told x).run = some y → us.length = keep.length → LdT C (ldP id N (relH ti tn tl al ks keep) .normal (stH g y us)) b (stH g x us)) : Hook C.P C.G C.GB :=
 ⟨id, b, hkF N ti tn tl al keep fr g told, hk_ok hinr hid hf hs hpl hsc hT⟩
end hook
end
end Go.Am
