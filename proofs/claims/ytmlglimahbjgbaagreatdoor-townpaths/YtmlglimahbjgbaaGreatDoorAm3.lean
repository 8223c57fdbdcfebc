/-
  A part of the proof of the statement that the claim names: see the last file.
-/
import Derived.Test.YtmlglimahbjgbaaGreatDoorAm2
import Derived.LaidMore
import Derived.Carry
namespace Go.Am
open Go Go.RowKit

/-! # The same evaluator, handing on: what is decided of unknown numbers stands outermost -/

section K
variable (C : Cfg) {α : Type} (z : α)

def andThenO {β γ : Type} (z : γ) (o : Option β) (k : β → γ) : γ :=
  match o with
  | some b => k b
  | none => z

abbrev CallK (α : Type) := Value → List Value → Heap → (Value × Heap → α) → α

def quoOf (op : BinOp) (k : IntKind) (a b : Int) : Option Int :=
  match op with
  | .quo => some (k.wrap (a.tdiv b))
  | .rem => some (a.tmod b)
  | _ => none

def sameKind (k k' : IntKind) : Bool := decide (k = k')

def opK (call : CallV) (callk : CallK α) (o : Oper) (ρ : Operand → Value) (h : Heap) (k : Value × Heap → α) : α :=
  match o.op with
  | .pick c a b => match ρ c with
    | .bool t => cond t (k (ρ a, h)) (k (ρ b, h))
    | _ => z
  | .call { callee := .value f, args, .. } => callk (ρ f) (args.toList.map ρ) h k
  | .binOp op _ x y _ => match ρ x, ρ y with
    | .int ki a, .int kj b => match sameKind ki kj, quoOf op ki a b with
      | true, some c => cond (decide (b = 0)) z (k (.int ki c, h))
      | _, _ => andThenO z (opC C call o ρ h) k
    | _, _ => andThenO z (opC C call o ρ h) k
  | .indexAddr t x i => match ρ x, ρ i, C.ty t with
    | .slice (some ⟨b, off, none⟩) n sz, .int _ j, some y => match y.desc with
      | .slice e => match C.ty e with
        | some u => cond (Nat.beq sz u.info.size && decide (0 ≤ j) && decide (j < n)) (k (.pointer (some ⟨b, off + j.toNat * sz, none⟩), h)) z
        | none => z
      | _ => z
    | _, _, _ => andThenO z (opC C call o ρ h) k
  | .next it true => match ρ it with
    | .pointer (some ⟨b, 0, none⟩) => match h.at b with
      | .iter s pos => cond (Nat.blt pos s.size) (k (.tuple #[.bool true, goInt pos, .int .i32 (Utf8.decode s pos).1], h.put b (.iter s (pos + (Utf8.decode s pos).2)))) (k (.tuple #[.bool false], h))
      | _ => z
    | _ => z
  | .index t x i => match ρ x, ρ i, C.P.underlying t with
    | .string s, .int _ j, some .string => cond (decide (0 ≤ j) && decide (j < s.size)) (k (.int .u8 (s.get! j.toNat).toNat, h)) z
    | _, _, _ => andThenO z (opC C call o ρ h) k
  | _ => andThenO z (opC C call o ρ h) k

/-- The temporary d, known to be b. -/
def know (s : St) (d : Tmp) (b : Bool) : St := ⟨s.tmps.set d (.bool b), s.heap⟩

def knowG (ops : Array Oper) (j : Nat) (b : Bool) (s : St) : St :=
  match ops[j]? with
  | some q => match q.dst with
    | some d => know s d b
    | none => s
  | none => s

def knowO (x : Operand) (b : Bool) (s : St) : St :=
  match x with
  | .tmp d => know s d b
  | _ => s

def stepG (call : CallV) (callk : CallK α) (o : Oper) (k : St → α) (s : St) : α := opK C z call callk o s.ev s.heap fun vh => k ⟨putT s.tmps o.dst vh.1, vh.2⟩

def skipG (o : Oper) (k : St → α) (s : St) : α := k ⟨putT s.tmps o.dst undef, s.heap⟩

def stepK (call : CallV) (callk : CallK α) (ops : Array Oper) (o : Oper) (s : St) (k : St → α) : α :=
  match o.guard with
  | none => stepG C z call callk o k s
  | some (j, want) => match yieldedA ops s.tmps j with
    | some (some b) => match want with
      | true => cond b (stepG C z call callk o k (knowG ops j true s)) (skipG o k (knowG ops j false s))
      | false => cond b (skipG o k (knowG ops j true s)) (stepG C z call callk o k (knowG ops j false s))
    | some none => skipG o k s
    | none => z

def runOpsK (call : CallV) (callk : CallK α) (ops : Array Oper) : List Oper → St → (St → α) → α
  | [], s, k => k s
  | o :: os, s, k => stepK C z call callk ops o s fun s' => runOpsK call callk ops os s' k

def quietStepK (call : CallV) (callk : CallK α) (ops : Array Oper) (o : Oper) (w : Option Nat) (n : Nat) (s : St) (k : St → α) : α :=
  match holds s.heap w with
  | false => z
  | true => stepK C z call callk ops o s fun s' => match segOk (s'.heap.drop n) with
    | true => k s'
    | false => z

def runQuietK (call : CallV) (callk : CallK α) (ops : Array Oper) (qs : List (Oper × Nat)) (ws : List (Nat × Option Nat)) (n0 : Nat) : List (Oper × Nat × Option Nat) → (tmps : List Value) → (cur : Heap) → (lens : List Nat) → (List Value × Heap → α) → α
  | [], tmps, cur, _, k => k (tmps, cur)
  | (o, b, w) :: os, tmps, cur, lens, k =>
    match looksOk qs o b lens.length && Nat.blt b (2 ^ lens.length) with
    | false => z
    | true =>
      quietStepK C z call callk ops o w cur.length ⟨tmps, maskGo ws w b lens.length (List.replicate n0 true ++ visOf b lens 0) cur K0⟩ fun s' =>
        runQuietK call callk ops qs ws n0 os s'.tmps (putW cur s'.heap w ++ s'.heap.drop cur.length) (lens ++ [(s'.heap.drop cur.length).length]) k

def runDrawK (call : CallV) (callk : CallK α) (ops : Array Oper) (s : St) (k : St → α) : α :=
  let bs := CheckFast.beforeL ops.toList 0 []
  let m := quietLen bs 0 0
  let qs := ops.toList.take m
  let ws := hintsFor C call ops qs s
  match dstsApart qs && Nat.beq ws.length qs.length with
  | false => z
  | true => runQuietK C z call callk ops (qs.zip bs) (bs.zip ws) s.heap.length (qs.zip (bs.zip ws)) s.tmps s.heap [] fun tc =>
      runOpsK C z call callk ops (ops.toList.drop m) ⟨tc.1, tc.2⟩ k

abbrev EvK (α : Type) := Bool → Code → St → (X → St → α) → α

/-- A body, run over a heap; what it hands back is handed on. -/
def bodyGo (EK : EvK α) (fd : AFn) (argv : List Value) (h : Heap) (k : Value → Heap → α) : α :=
  EK false fd.body ⟨argv ++ List.replicate (fd.ntmps - argv.length) undef, h⟩ fun x s => match x with
    | .exit _ => z
    | _ => match resVs C s.heap s.tmps fd.results with
      | some vs => k (tupV vs) s.heap
      | none => z

def deepGo (EK : EvK α) (fd : AFn) (ds : List D) (k : D → α) : α :=
  match imps false ds [] with
  | (vs, h) => bodyGo C z EK fd vs h fun v h' => match rdO rdFuel h' v with
    | some (d, _) => k d
    | none => z

def callFK (EK : EvK α) (g : FuncId) (argv : List Value) (h : Heap) (k : Value × Heap → α) : α :=
  match C.fn g with
  | none => z
  | some fd => match C.mode g with
    | .inl => bodyGo C z EK fd argv h fun v h' => k (v, h')
    | .pure => match mp (rd rdFuel h) argv with
      | some ds => deepGo C z EK fd ds fun d => k (imp true d h)
      | none => z
    | .spec F => match mp (rd rdFuel h) argv with
      | some ds => match F ds with
        | some d => k (imp true d h)
        | none => z
      | none => z
    | .specG F => match mp (rd rdFuel h) argv with
      | some ds => match F ds with
        | some (b, d) => cond b (k (imp true d h)) z
        | none => z
      | none => z

def callK (E : EvC) (EK : EvK α) : CallK α := fun f args h k =>
  match f with
  | .func (.func g) xs ys => callFK C z EK g (xs.toList ++ args ++ ys.toList) h k
  | f => andThenO z (callV C E f args h) k

def evStepK (E : EvC) (EK : EvK α) : EvK α := fun inr c s k =>
  match c with
  | .skip | .label _ => k .normal s
  | .scope b => EK inr b s k
  | .seq a b => EK inr a s fun x s' => match x with
    | .normal => EK inr b s' k
    | x => k x s'
  | .cond c a b => match s.ev c with
    | .bool t => cond t (EK inr a (knowO c true s) k) (EK inr b (knowO c false s) k)
    | _ => z
  | .block id b => EK inr b s fun x s' => match x with
    | .exit id' => match Nat.beq id' id with
      | true => k .normal s'
      | false => k (.exit id') s'
    | x => k x s'
  | .loop b => EK inr b s fun x s' => match x with
    | .normal => EK inr (.loop b) s' k
    | x => k x s'
  | .exit id => k (.exit id) s
  | .ret => k .ret s
  | .region _ ops false => runOpsK C z (callV C E) (callK C z E EK) ops ops.toList s fun s' => k .normal s'
  | .region _ ops true => runDrawK C z (callV C E) (callK C z E EK) ops s fun s' => k .normal s'
  | c => andThenO z (evStep C E inr c s) fun p => k p.1 p.2

def evK (n : Nat) : EvK α := Nat.rec (fun _ _ _ _ => z) (fun m EK => evStepK C z (ev C m) EK) n
end K

section eq
variable {C : Cfg} {α : Type} {z : α}

def OkK (call : CallV) (callk : CallK α) : Prop := ∀ f args h (k : Value × Heap → α), callk f args h k = andThenO z (call f args h) k

theorem pureRun_bind {P : Program} {α β : Type} (s : Sem α) (f : α → Sem β) : pureRun P (s >>= f) = (pureRun P s).bind fun a => pureRun P (f a) := by
  show pureRun P (s.bind f) = _
  induction s with
  | pure a => rfl
  | program k ih => exact ih P
  | mark m k ih => exact ih
  | _ => rfl

theorem pureRun_pure {P : Program} {α : Type} (a : α) : pureRun P (pure a) = some a := rfl

theorem pureRun_map {P : Program} {α β : Type} (f : α → β) (s : Sem α) : pureRun P (f <$> s) = (pureRun P s).map f := by
  show pureRun P (s.bind fun a => .pure (f a)) = _
  have := pureRun_bind (P := P) s (fun a => (.pure (f a) : Sem β))
  rw [show (s >>= fun a => (.pure (f a) : Sem β)) = s.bind fun a => .pure (f a) from rfl] at this
  rw [this]
  cases pureRun P s <;> rfl

theorem pureRun_bounds {P : Program} {α : Type} (k : IntKind) (i : Int) (n : Nat) (c : BoundsCode) : pureRun P (boundsPanic k i n c : Sem α) = none := by
  unfold boundsPanic
  first | rfl | (split <;> rfl)

theorem plainOp_quo {P : Program} {o : Oper} {op : BinOp} {t : TypeId} {x y : Operand} {i : TypeId} {ρ : Operand → Value} {h : Heap} (ho : o.op = .binOp op t x y i) {ki : IntKind} {a b c : Int} (hx : ρ x = .int ki a) (hy : ρ y = .int ki b)
    (hq : quoOf op ki a b = some c) : plainOp P o ρ h = cond (decide (b = 0)) none (some (.int ki c, h)) := by
  have hp : o.op.operands.toList.all (fun x => plain (ρ x)) = true := by
    simp [ho, Op.operands, hx, hy, plain, scal]
  unfold plainOp
  simp only [hp]
  have hr : pureRun P (execOp ρ o) = if b = 0 then none else some (.value (.int ki c)) := by
    unfold quoOf at hq
    split at hq
    · cases hq
      simp only [execOp, ho, hx, hy, eqGuard]
      simp only [binOp, Op.intDiv]
      by_cases hb : b = 0
      · simp [hb]; rfl
      · simp [hb]; rfl
    · cases hq
      simp only [execOp, ho, hx, hy, eqGuard]
      simp only [binOp, Op.intDiv]
      by_cases hb : b = 0
      · simp [hb]; rfl
      · simp [hb]; rfl
    · cases hq
  rw [hr]
  by_cases hb : b = 0
  · simp [hb]
  · simp [hb, plain, scal]

theorem plainOp_index {P : Program} {o : Oper} {t : TypeId} {x i : Operand} {ρ : Operand → Value} {h : Heap} (ho : o.op = .index t x i) {s : ByteArray} {ki : IntKind} {j : Int} (hx : ρ x = .string s) (hi : ρ i = .int ki j)
    (ht : P.underlying t = some .string) : plainOp P o ρ h = cond (decide (0 ≤ j) && decide (j < s.size)) (some (.int .u8 (s.get! j.toNat).toNat, h)) none := by
  have hp : o.op.operands.toList.all (fun x => plain (ρ x)) = true := by
    simp [ho, Op.operands, hx, hi, plain, scal]
  have hu : pureRun P (underlying t) = some .string := by
    simp only [underlying, program]
    simp [pureRun, pureRun_bind, ht, pureRun_pure]
  unfold plainOp
  simp only [hp]
  by_cases hb : 0 ≤ j ∧ j < s.size
  · have hlt : j.toNat < s.size := by omega
    have hg : s[j.toNat]? = some (s.get! j.toNat) := by
      rw [getElem?_pos s j.toNat hlt]
      simp [ByteArray.get!, ByteArray.getElem_eq_getElem_data]
      rw [getElem!_pos]
    have hr : pureRun P (execOp ρ o) = some (.value (.int .u8 (s.get! j.toNat).toNat)) := by
      simp [execOp, ho, hx, hi, Instr.index, asIntOf, pureRun_bind, hu, pureRun_pure, hb.1, hg]
    rw [hr]
    simp [hb, plain, scal]
  · have hr : pureRun P (execOp ρ o) = none := by
      have hn : (if 0 ≤ j then s[j.toNat]? else none) = none := by
        split
        · rename_i h0
          apply getElem?_neg
          intro h1
          exact hb ⟨h0, by have : j.toNat < s.size := h1; omega⟩
        · rfl
      simp [execOp, ho, hx, hi, Instr.index, asIntOf, pureRun_bind, hu, pureRun_map, hn, pureRun_bounds]
    rw [hr]
    by_cases h0 : 0 ≤ j
    · have h1 : ¬ j < s.size := fun h1 => hb ⟨h0, h1⟩
      simp [h0, h1]
    · simp [h0]

theorem opK_eq (call : CallV) (callk : CallK α) (hc : OkK (z := z) call callk) (o : Oper) (ρ : Operand → Value) (h : Heap) (k : Value × Heap → α) : opK C z call callk o ρ h k = andThenO z (opC C call o ρ h) k := by
  unfold opK
  split
  · rename_i c a b ho
    simp only [opC, ho, opV]
    split
    · rename_i t hc
      rw [hc]
      cases t <;> rfl
    · rename_i hne
      split
      · rename_i hc; exact absurd hc (hne _)
      · rename_i hc; exact absurd hc (hne _)
      · rfl
  · rename_i f args _ ho
    simp only [opC, ho]
    exact hc _ _ _ _
  · rename_i op t x y i ho
    split
    · rename_i ki a kj b hx hy
      split
      · rename_i c hk hq
        have hk : ki = kj := by simpa [sameKind] using hk
        subst hk
        have := plainOp_quo (P := C.P) (h := h) ho hx hy hq
        simp only [opC, ho, opV, binV, hx, hy, this]
        cases decide (b = 0) <;> rfl
      · rfl
    · rfl
  · rename_i t x i ho
    split
    · rename_i b off n sz kk j y hx hi hy
      simp only [opC, ho, opV, hx, hi, hy]
      split
      · rename_i e hd
        simp only [hd]
        cases hu : C.ty e with
        | some u => simp only; cases (Nat.beq sz u.info.size && decide (0 ≤ j) && decide (j < n)) <;> rfl
        | none => rfl
      · rename_i hne
        split
        · rename_i e hd; exact absurd hd (hne e)
        · rfl
    · rfl
  · rename_i it ho
    simp only [opC, ho, opV]
    split
    · rename_i b hi
      simp only [hi]
      split
      · rename_i s pos hs
        simp only [hs]
        cases Nat.blt pos s.size <;> rfl
      · rename_i hne
        split
        · rename_i s pos hs; exact absurd hs (hne _ _)
        · rfl
    · rename_i hne
      split
      · rename_i b hi; exact absurd hi (hne _)
      · rfl
  · rename_i t x i ho
    split
    · rename_i s ki j hx hi ht
      have := plainOp_index (P := C.P) (h := h) ho hx hi ht
      simp only [opC, ho, opV, this]
      cases (decide (0 ≤ j) && decide (j < s.size)) <;> rfl
    · rfl
  · rfl

theorem know_eq {s : St} {d : Tmp} {b : Bool} (h : s.tmps[d]? = some (.bool b)) : know s d b = s := by
  obtain ⟨tmps, heap⟩ := s
  simp only [know, St.mk.injEq, and_true]
  apply List.ext_getElem?
  intro j
  rw [List.getElem?_set]
  split
  · rename_i e; subst e
    simp only at h
    have hl := (List.getElem?_eq_some_iff.1 h).1
    have h2 := (List.getElem?_eq_some_iff.1 h).2
    simp [hl, h2]
  · rfl

theorem knowG_eq {ops : Array Oper} {j : Nat} {b : Bool} {s : St} (h : yieldedA ops s.tmps j = some (some b)) : knowG ops j b s = s := by
  unfold yieldedA at h
  unfold knowG
  cases ho : ops[j]? with
  | none => rfl
  | some q =>
    simp only [ho] at h ⊢
    cases hd : q.dst with
    | none => rfl
    | some d =>
      simp only [hd] at h ⊢
      apply know_eq
      cases ht : s.tmps[d]? with
      | none => simp [ht] at h
      | some v =>
        simp only [ht] at h
        split at h
        · cases h
        · rename_i he; rw [he]; simpa using h
        · split at h <;> cases h
        · cases h

theorem knowO_eq {x : Operand} {b : Bool} {s : St} (h : s.ev x = .bool b) : knowO x b s = s := by
  cases x with
  | tmp d =>
    apply know_eq
    simp only [St.ev, List.getD_eq_getElem?_getD] at h
    cases ht : s.tmps[d]? with
    | none => simp [ht, undef] at h
    | some v => simp [ht] at h; rw [h]
  | _ => rfl

theorem stepK_eq (call : CallV) (callk : CallK α) (hc : OkK (z := z) call callk) (ops : Array Oper) (o : Oper) (s : St) (k : St → α) : stepK C z call callk ops o s k = andThenO z (stepOp C call ops o s) k := by
  have fin : (andThenO z (opC C call o s.ev s.heap) fun vh => k ⟨putT s.tmps o.dst vh.1, vh.2⟩) =
      andThenO z (match opC C call o s.ev s.heap with | some (v, h) => some (⟨putT s.tmps o.dst v, h⟩ : St) | none => none) k := by
    cases opC C call o s.ev s.heap <;> rfl
  unfold stepK stepOp wantedA
  simp only [stepG, skipG, opK_eq call callk hc]
  cases hg : o.guard with
  | none => exact fin
  | some jw =>
    obtain ⟨j, want⟩ := jw
    simp only
    cases hy : yieldedA ops s.tmps j with
    | none => rfl
    | some y =>
      cases y with
      | none => rfl
      | some b => cases b <;> cases want <;> simp only [knowG_eq hy, cond_true, cond_false] <;> first | exact fin | rfl

theorem runOpsK_eq (call : CallV) (callk : CallK α) (hc : OkK (z := z) call callk) (ops : Array Oper) : ∀ (os : List Oper) (s : St) (k : St → α), runOpsK C z call callk ops os s k = andThenO z (runOps C call ops os s) k
  | [], s, k => rfl
  | o :: os, s, k => by
    simp only [runOpsK, stepK_eq call callk hc, runOps]
    cases h : stepOp C call ops o s with
    | none => rfl
    | some s' => exact runOpsK_eq call callk hc ops os s' k

theorem quietStepK_eq (call : CallV) (callk : CallK α) (hc : OkK (z := z) call callk) (ops : Array Oper) (o : Oper) (w : Option Nat) (n : Nat) (s : St) (k : St → α) :
    quietStepK C z call callk ops o w n s k = andThenO z (quietStep C call ops o w n s) k := by
  unfold quietStepK quietStep
  cases holds s.heap w with
  | false => rfl
  | true =>
    simp only [stepK_eq call callk hc]
    cases stepOp C call ops o s with
    | none => rfl
    | some s' =>
      simp only [andThenO]
      cases segOk (s'.heap.drop n) <;> rfl

theorem runQuietK_eq (call : CallV) (callk : CallK α) (hc : OkK (z := z) call callk) (ops : Array Oper) (qs : List (Oper × Nat)) (ws : List (Nat × Option Nat)) (n0 : Nat) : ∀ (os : List (Oper × Nat × Option Nat)) (tmps : List Value) (cur : Heap) (lens : List Nat) (k : List Value × Heap → α),
    runQuietK C z call callk ops qs ws n0 os tmps cur lens k = andThenO z (runQuiet C call ops qs ws n0 os tmps cur lens) k
  | [], tmps, cur, lens, k => rfl
  | (o, b, w) :: os, tmps, cur, lens, k => by
    simp only [runQuietK, runQuiet, quietStepK_eq call callk hc]
    cases looksOk qs o b lens.length && Nat.blt b (2 ^ lens.length) with
    | false => rfl
    | true =>
      simp only
      cases quietStep C call ops o w cur.length ⟨tmps, maskGo ws w b lens.length (List.replicate n0 true ++ visOf b lens 0) cur K0⟩ with
      | none => rfl
      | some s' => exact runQuietK_eq call callk hc ops qs ws n0 os _ _ _ _

theorem runDrawK_eq (call : CallV) (callk : CallK α) (hc : OkK (z := z) call callk) (ops : Array Oper) (s : St) (k : St → α) : runDrawK C z call callk ops s k = andThenO z (runDraw C call ops s) k := by
  unfold runDrawK runDraw
  simp only
  generalize (dstsApart _ && Nat.beq _ _) = g
  cases g with
  | false => rfl
  | true =>
    simp only [runQuietK_eq call callk hc]
    generalize runQuiet C call ops _ _ _ _ _ _ _ = q
    cases q with
    | none => rfl
    | some tc =>
      obtain ⟨tmps, cur⟩ := tc
      simp only [andThenO]
      exact runOpsK_eq call callk hc ops _ _ _

def OkE (E : EvC) (EK : EvK α) : Prop := ∀ inr c s (k : X → St → α), EK inr c s k = andThenO z (E inr c s) fun p => k p.1 p.2

theorem bodyGo_eq {E : EvC} {EK : EvK α} (hE : OkE (z := z) E EK) (fd : AFn) (argv : List Value) (h : Heap) (k : Value → Heap → α) : bodyGo C z EK fd argv h k = andThenO z (callBody C E fd argv h) fun p => k p.1 p.2 := by
  unfold bodyGo callBody
  rw [hE]
  cases E false fd.body ⟨argv ++ List.replicate (fd.ntmps - argv.length) undef, h⟩ with
  | none => rfl
  | some p =>
    obtain ⟨x, s⟩ := p
    cases x with
    | exit id => rfl
    | normal => simp only [andThenO]; cases resVs C s.heap s.tmps fd.results <;> rfl
    | ret => simp only [andThenO]; cases resVs C s.heap s.tmps fd.results <;> rfl

theorem deepGo_eq {E : EvC} {EK : EvK α} (hE : OkE (z := z) E EK) (fd : AFn) (ds : List D) (k : D → α) : deepGo C z EK fd ds k = andThenO z (bodyD C E fd ds) k := by
  unfold deepGo bodyD
  generalize imps false ds [] = vh
  obtain ⟨vs, h⟩ := vh
  simp only [bodyGo_eq hE]
  cases callBody C E fd vs h with
  | none => rfl
  | some p =>
    obtain ⟨v, h'⟩ := p
    simp only [andThenO]
    cases rdO rdFuel h' v with
    | none => rfl
    | some q => rfl

theorem callFK_eq {E : EvC} {EK : EvK α} (hE : OkE (z := z) E EK) (g : FuncId) (argv : List Value) (h : Heap) (k : Value × Heap → α) : callFK C z EK g argv h k = andThenO z (callF C E g argv h) k := by
  unfold callFK callF
  cases C.fn g with
  | none => rfl
  | some fd =>
    simp only
    cases C.mode g with
    | inl => simp only [bodyGo_eq hE]
    | pure =>
      simp only [callD]
      cases mp (rd rdFuel h) argv with
      | none => rfl
      | some ds =>
        simp only [deepGo_eq hE]
        cases bodyD C E fd ds <;> rfl
    | spec F =>
      simp only [callD]
      cases mp (rd rdFuel h) argv with
      | none => rfl
      | some ds => simp only; cases F ds <;> rfl
    | specG F =>
      simp only [callD]
      cases mp (rd rdFuel h) argv with
      | none => rfl
      | some ds =>
        simp only [condF]
        cases F ds with
        | none => rfl
        | some p => obtain ⟨b, d⟩ := p; cases b <;> rfl

theorem callK_eq {E : EvC} {EK : EvK α} (hE : OkE (z := z) E EK) : OkK (z := z) (callV C E) (callK C z E EK) := fun f args h k => by
  unfold callK
  split
  · rename_i g xs ys
    rw [callFK_eq hE]; rfl
  · rfl

theorem evK_eq : ∀ (n : Nat) (inr : Bool) (c : Code) (s : St) (k : X → St → α), evK C z n inr c s k = andThenO z (ev C n inr c s) fun p => k p.1 p.2
  | 0, _, _, _, _ => rfl
  | n + 1, inr, c, s, k => by
    have ih := evK_eq n
    show evStepK C z (ev C n) (evK C z n) inr c s k = andThenO z (evStep C (ev C n) inr c s) _
    unfold evStepK
    split
    · rfl
    · rfl
    · exact ih _ _ _ _
    · rename_i a b
      rw [ih]
      simp only [evStep]
      cases h : ev C n inr a s with
      | none => rfl
      | some p =>
        obtain ⟨x, s1⟩ := p
        cases x <;> first | exact ih _ _ _ _ | rfl
    · rename_i c a b
      simp only [evStep]
      split
      · rename_i t hc
        rw [hc]
        cases t
        · rw [knowO_eq hc]; exact ih _ _ _ _
        · rw [knowO_eq hc]; exact ih _ _ _ _
      · rename_i hne
        split
        · rename_i hc; exact absurd hc (hne _)
        · rename_i hc; exact absurd hc (hne _)
        · rfl
    · rename_i id b
      rw [ih]
      simp only [evStep]
      cases h : ev C n inr b s with
      | none => rfl
      | some p =>
        obtain ⟨x, s1⟩ := p
        cases x with
        | normal => rfl
        | ret => rfl
        | exit id' => simp only [andThenO]; cases Nat.beq id' id <;> rfl
    · rename_i b
      rw [ih]
      simp only [evStep]
      cases h : ev C n inr b s with
      | none => rfl
      | some p =>
        obtain ⟨x, s1⟩ := p
        cases x <;> first | exact ih _ _ _ _ | rfl
    · rfl
    · rfl
    · rename_i id ops
      rw [runOpsK_eq _ _ (callK_eq ih)]
      simp only [evStep]
      cases runOps C (callV C (ev C n)) ops ops.toList s <;> rfl
    · rename_i id ops
      rw [runDrawK_eq _ _ (callK_eq ih)]
      simp only [evStep]
      cases runDraw C (callV C (ev C n)) ops s <;> rfl
    · rfl
end eq

def bodyK (C : Cfg) (n : Nat) (fd : AFn) (ds : List D) : Option D := deepGo C none (evK C none n) fd ds some

theorem bodyK_eq (C : Cfg) (n : Nat) (fd : AFn) (ds : List D) : bodyK C n fd ds = bodyD C (ev C n) fd ds := by
  unfold bodyK
  rw [deepGo_eq (evK_eq n)]
  cases bodyD C (ev C n) fd ds <;> rfl
end Go.Am

namespace Go.Am
open Go

/-! # Tables -/

inductive Tr (α : Type) where
  | lf
  | nd (l : Tr α) (k : Nat) (v : α) (r : Tr α)

def Tr.get {α : Type} : Tr α → Nat → Option α
  | .lf, _ => none
  | .nd l k v r, x => match Nat.beq x k with
    | true => some v
    | false => match Nat.blt x k with
      | true => l.get x
      | false => r.get x

def Tr.All {α : Type} (p : Nat → α → Prop) : Tr α → Prop
  | .lf => True
  | .nd l k v r => l.All p ∧ p k v ∧ r.All p

theorem Tr.get_all {α : Type} {p : Nat → α → Prop} : ∀ {t : Tr α} {x : Nat} {v : α}, t.All p → t.get x = some v → p x v
  | .lf, _, _, _, h => by simp [Tr.get] at h
  | .nd l k w r, x, v, ⟨hl, hk, hr⟩, h => by
    unfold Tr.get at h
    split at h
    · rename_i e
      rw [Nat.beq_eq] at e
      cases h; rw [e]; exact hk
    · split at h
      · exact Tr.get_all hl h
      · exact Tr.get_all hr h

def codeOf (f : Func) : Code :=
  match f.body with
  | some c => c
  | none => .skip

def fnOf (f : Func) : AFn := ⟨f.ntmps, f.results.toList, codeOf f⟩
end Go.Am

namespace Go.Am
open Go Go.RowKit

/-! # Contracts of the library, handed in -/

variable {G : Gl} {GB : Nat}

/-- A call that leaves all old blocks as they were and hands back a value of one cell. -/
theorem give_below {w w' : World} (B : Below w.heap.size w w') {v : Value} (hv : scal v = true) : GiveOK G GB w w' (.val v) v := fun r0 h0 H0 =>
  ⟨r0, ⟨.refl _, B.os, B.tape, B.output, B.size, fun k hk _ => B.block k hk, fun _ _ h => h, by simp [imp], fun _ _ h => .inl h⟩, by simpa [imp] using H0.grow B.size B.block, by simpa [imp] using .scal v hv⟩

/-- Scalars come in as they are. -/
theorem imps_scal {w : World} (b : Base G GB w) : ∀ {vs : List Value} {us : List Value}, (∀ v ∈ vs, scal v = true) → ImpsOK G GB w (vs.map .val) us → us = vs := by
  intro vs us hs h
  obtain ⟨r1, _, _, hv, _⟩ := h [] _ b.empty (fun k ⟨_, _, _, h2, _⟩ => by cases h2)
  have himp : ∀ (vs : List Value) (h : Heap), imps false (vs.map .val) h = (vs, h) := fun vs => by
    induction vs with
    | nil => intro h; rfl
    | cons v vs ih => intro h; simp [imps, imp, ih]
  rw [himp] at hv
  simp only at hv
  apply List.ext_getElem?
  intro j
  cases hj : vs[j]? with
  | none => exact List.getElem?_eq_none (by rw [← hv.1]; exact List.getElem?_eq_none_iff.1 hj)
  | some v =>
    obtain ⟨u, hu, hvu⟩ := hv.2 j v hj
    rw [hu, hvu.scal_eq (hs v (List.mem_of_getElem? hj))]

/-- A function of scalars that hands back a scalar. -/
theorem FnD.scal {C : Cfg} {g : FuncId} {vs : List Value} {v : Value} (hs : ∀ v ∈ vs, Am.scal v = true) (hv : Am.scal v = true)
    (H : ∀ w, Base C.G C.GB w → Calls C.P g vs.toArray w fun e w' => e = .returned v ∧ Below w.heap.size w w') : FnD C g (vs.map .val) (.val v) := by
  intro w args hb himp
  have he := imps_scal hb hs himp
  have ha : args = vs.toArray := by rw [← he]
  rw [ha]
  exact (H w hb).mono fun e w' ⟨h1, h2⟩ => ⟨v, h1, give_below h2 hv⟩

/-- A list of strings comes in as a row that can be read. -/
theorem imps_strs {w : World} (b : Base G GB w) {n sz : Nat} {xs : List ByteArray} {sep : Value} (hsep : Am.scal sep = true) {us : List Value}
    (h : ImpsOK G GB w [.sl n sz (xs.map fun x => .val (.string x)), .val sep] us) :
    ∃ bk o cap, us = [.slice (some ⟨bk, o, none⟩) n cap, sep] ∧ bk < w.heap.size ∧ n ≤ cap ∧ ∀ (j : Nat) x, xs[j]? = some x → w.cell? ⟨bk, o + j, none⟩ = some (.string x) := by
  obtain ⟨r1, _, H1, hv, _⟩ := h [] _ b.empty (fun k ⟨_, _, _, h2, _⟩ => by cases h2)
  have himp : ∀ (xs : List ByteArray) (h : Heap), imps false (xs.map fun x => D.val (.string x)) h = (xs.map .string, h) := fun xs => by
    induction xs with
    | nil => intro h; rfl
    | cons v vs ih => intro h; simp [imps, imp, ih]
  simp only [imps, imp, himp] at hv H1
  have hl : us.length = 2 := by rw [← hv.1]; rfl
  match us, hl with
  | [u1, u2], _ =>
    obtain ⟨x1, e1, v1⟩ := hv.2 0 _ rfl
    obtain ⟨x2, e2, v2⟩ := hv.2 1 _ rfl
    simp at e1 e2
    subst e1 e2
    have hsep2 := v2.scal_eq hsep
    subst hsep2
    rcases v1.slice' with ⟨t, cap, hr, hk, hz, hn, hlim, rfl⟩ | ⟨hz, _⟩
    · have hat : (Heap.at ([] ++ [AObj.row (xs.map .string) false none]) (K0 + 0)) = .row (xs.map .string) false none := by
        have := at_snoc [] (AObj.row (xs.map .string) false none) (K0 + 0)
        simpa using this
      obtain ⟨t', hr', hlt, hob⟩ := H1.obj (K0 + 0) (by simp only [List.length_nil] at *; rw [hat]; rfl)
      rw [show (K0 + 0 : Nat) = K0 + ([] : Heap).length from rfl] at hr'
      rw [hr] at hr'; cases hr'
      rw [hat] at hob
      refine ⟨t.blk, t.off + 0, cap, rfl, hlt, hn, fun j x hx => ?_⟩
      obtain ⟨u, hu, hvu⟩ := hob.2.1 j (.string x) (by simp [hx])
      rw [hvu.string] at hu
      exact hu
    · exact absurd hz (by simp)
end Go.Am

namespace Go.Am
open Go Go.RowKit

/-! # Loops: what one round does, told once; then the loop as a whole -/

/-! ## States: some temporaries known, the others whatever they be -/

def atR : List Nat → List Value → Nat → Option Value
  | r :: rs, v :: vs, i => match Nat.beq i r with
    | true => some v
    | false => atR rs vs i
  | _, _, _ => none

def mkT (N : Nat) (rel : List Nat) (vals : List Value) (j : Nat → Value) : List Value :=
  (List.range N).map fun i => match atR rel vals i with
    | some v => v
    | none => j i

def relV (rel : List Nat) (tmps : List Value) : List Value := rel.map fun i => tmps.getD i undef

theorem atR_self (tmps : List Value) : ∀ (rel : List Nat) (i : Nat) (v : Value), atR rel (relV rel tmps) i = some v → v = tmps.getD i undef
  | [], i, v, h => by simp [atR] at h
  | r :: rs, i, v, h => by
    simp only [relV, List.map_cons, atR] at h
    split at h
    · rename_i e
      rw [Nat.beq_eq] at e
      cases h; rw [e]
    · exact atR_self tmps rs i v h

theorem mkT_self {N : Nat} {tmps : List Value} (rel : List Nat) (hl : tmps.length = N) : tmps = mkT N rel (relV rel tmps) (fun i => tmps.getD i undef) := by
  apply List.ext_getElem?
  intro i
  unfold mkT
  rw [List.getElem?_map]
  by_cases hi : i < N
  · rw [List.getElem?_range hi]
    simp only [Option.map_some]
    have e : tmps[i]? = some (tmps.getD i undef) := by
      rw [List.getD_eq_getElem?_getD, List.getElem?_eq_getElem (by omega)]; rfl
    rw [e]
    cases h : atR rel (relV rel tmps) i with
    | none => rfl
    | some v => rw [atR_self tmps rel i v h]
  · rw [List.getElem?_eq_none (by omega), List.getElem?_eq_none (by simpa using hi)]
    rfl

theorem mkT_junk (N : Nat) (rel : List Nat) (vs : List Value) (j : Nat → Value) : mkT N rel vs (fun i => (mkT N rel vs j).getD i undef) = mkT N rel vs j := by
  unfold mkT
  apply List.map_congr_left
  intro i hi
  have hi : i < N := by simpa using hi
  cases h : atR rel vs i with
  | some v => rfl
  | none => simp [List.getD_eq_getElem?_getD, List.getElem?_map, List.getElem?_range hi, h]

def prj (rel : List Nat) (x : X) (s : St) : Option (X × List Value × Nat × Heap) := some (x, relV rel s.tmps, s.tmps.length, s.heap)

/-- So many rounds at most. -/
def iterN {σ : Type} (next : σ → X × σ) : Nat → σ → Option (X × σ)
  | 0, _ => none
  | f + 1, a => match next a with
    | (.normal, b) => iterN next f b
    | (x, b) => some (x, b)

variable {C : Cfg}

theorem of_prj {rel : List Nat} {n : Nat} {inr : Bool} {c : Code} {s : St} {x : X} {vs : List Value} {N : Nat} {h : Heap}
    (H : evK C none n inr c s (prj rel) = some (x, vs, N, h)) : ∃ j, ev C n inr c s = some (x, ⟨mkT N rel vs j, h⟩) := by
  rw [evK_eq] at H
  cases he : ev C n inr c s with
  | none => simp [he, andThenO] at H
  | some p =>
    obtain ⟨x', s'⟩ := p
    simp only [he, andThenO, prj, Option.some.injEq, Prod.mk.injEq] at H
    obtain ⟨rfl, rfl, hl, rfl⟩ := H
    refine ⟨fun i => s'.tmps.getD i undef, ?_⟩
    rw [← mkT_self rel hl]

theorem loop_ok {σ : Type} {B : Code} {N c : Nat} {rel : List Nat} {vals : σ → List Value} {hp : σ → Heap} {next : σ → X × σ} {inv : σ → Prop}
    (hinv : ∀ a b, inv a → next a = (.normal, b) → inv b)
    (hstep : ∀ m a j, inv a → evK C none (m + c) false B ⟨mkT N rel (vals a) j, hp a⟩ (prj rel) = some ((next a).1, vals (next a).2, N, hp (next a).2)) :
    ∀ (f : Nat) (a : σ) (x : X) (b : σ), inv a → iterN next f a = some (x, b) → ∀ (m : Nat) (j : Nat → Value), ∃ j', ev C (m + c + f) false (.loop B) ⟨mkT N rel (vals a) j, hp a⟩ = some (x, ⟨mkT N rel (vals b) j', hp b⟩)
  | 0, a, x, b, _, h, m, j => by simp [iterN] at h
  | f + 1, a, x, b, ha, h, m, j => by
    obtain ⟨j1, h1⟩ := of_prj (hstep (m + f) a j ha)
    have e : m + f + c = m + c + f := by omega
    rw [e] at h1
    have hl : ∀ n s, ev C (n + 1) false (.loop B) s = match ev C n false B s with
      | some (.normal, s') => ev C n false (.loop B) s'
      | r => r := fun _ _ => rfl
    rw [show m + c + (f + 1) = (m + c + f) + 1 from rfl, hl, h1]
    unfold iterN at h
    cases hn : next a with
    | mk y b' =>
      rw [hn] at h
      cases y with
      | normal =>
        simp only at h ⊢
        exact loop_ok hinv hstep f b' x b (hinv a b' ha hn) h m j1
      | exit id =>
        simp only [Option.some.injEq, Prod.mk.injEq] at h
        obtain ⟨rfl, rfl⟩ := h
        exact ⟨j1, rfl⟩
      | ret =>
        simp only [Option.some.injEq, Prod.mk.injEq] at h
        obtain ⟨rfl, rfl⟩ := h
        exact ⟨j1, rfl⟩

/-! ## Bodies with loops that are told -/

abbrev Ora := (Nat → Value) → St → (X → St → Option D) → Option D

/-- What the temporaries hold that nobody asks for. -/
def junk (C : Cfg) (n : Nat) (id : Nat) (b : Code) (s : St) : Nat → Value := fun i =>
  match ev C n false (.block id b) s with
  | some (_, t) => t.tmps.getD i undef
  | none => undef

def OraOK (C : Cfg) (F c : Nat) (o : Ora) (id : Nat) (b : Code) : Prop :=
  ∀ m, c ≤ m → ∀ s k d, o (junk C (F + m) id b s) s k = some d → ∃ x s', ev C (F + m) false (.block id b) s = some (x, s') ∧ k x s' = some d

structure Lp where
  id : Nat
  c : Nat
  o : Ora

def findLp : List Lp → Nat → Option Lp
  | [], _ => none
  | l :: ls, id => match Nat.beq id l.id with
    | true => some l
    | false => findLp ls id

def LpOK (C : Cfg) (F : Nat) (L : List Lp) : Code → Prop
  | .scope b => LpOK C F L b
  | .seq a b => LpOK C F L a ∧ LpOK C F L b
  | .cond _ a b => LpOK C F L a ∧ LpOK C F L b
  | .block id b => match findLp L id with
    | some l => OraOK C F l.c l.o id b
    | none => LpOK C F L b
  | .loop b => LpOK C F L b
  | _ => True

section
variable (C) (F : Nat) (L : List Lp)

def evStepL (m : Nat) (E : EvC) (EK : EvK (Option D)) (EL : EvK (Option D)) : EvK (Option D) := fun inr c s k =>
  match c with
  | .skip | .label _ => k .normal s
  | .scope b => EL inr b s k
  | .seq a b => EL inr a s fun x s' => match x with
    | .normal => EL inr b s' k
    | x => k x s'
  | .cond c a b => match s.ev c with
    | .bool t => cond t (EL inr a (knowO c true s) k) (EL inr b (knowO c false s) k)
    | _ => none
  | .block id b => match findLp L id with
    | some l => match inr, Nat.ble l.c m with
      | false, true => l.o (junk C (F + (m + 1)) id b s) s k
      | _, _ => none
    | none => EL inr b s fun x s' => match x with
      | .exit id' => match Nat.beq id' id with
        | true => k .normal s'
        | false => k (.exit id') s'
      | x => k x s'
  | .loop b => EL inr b s fun x s' => match x with
    | .normal => EL inr (.loop b) s' k
    | x => k x s'
  | .exit id => k (.exit id) s
  | .ret => k .ret s
  | .region _ ops false => runOpsK C none (callV C E) (callK C none E EK) ops ops.toList s fun s' => k .normal s'
  | .region _ ops true => runDrawK C none (callV C E) (callK C none E EK) ops s fun s' => k .normal s'
  | c => andThenO none (evStep C E inr c s) fun p => k p.1 p.2

def evL (m : Nat) : EvK (Option D) := Nat.rec (fun _ _ _ _ => none) (fun m EL => evStepL C F L m (ev C (F + m)) (evK C none (F + m)) EL) m
end

def obs (L : List Lp) : Code → List (Lp × Nat × Code)
  | .scope b => obs L b
  | .seq a b => obs L a ++ obs L b
  | .cond _ a b => obs L a ++ obs L b
  | .block id b => match findLp L id with
    | some l => [(l, id, b)]
    | none => obs L b
  | .loop b => obs L b
  | _ => []

theorem lpOK_of {F : Nat} {L : List Lp} : ∀ (c : Code), (∀ p ∈ obs L c, OraOK C F p.1.c p.1.o p.2.1 p.2.2) → LpOK C F L c
  | .scope b, h => lpOK_of b h
  | .seq a b, h => ⟨lpOK_of a fun p hp => h p (by simp [obs, hp]), lpOK_of b fun p hp => h p (by simp [obs, hp])⟩
  | .cond _ a b, h => ⟨lpOK_of a fun p hp => h p (by simp [obs, hp]), lpOK_of b fun p hp => h p (by simp [obs, hp])⟩
  | .block id b, h => by
    unfold LpOK
    unfold obs at h
    split
    · rename_i l hl
      rw [hl] at h
      exact h (l, id, b) (by simp)
    · rename_i hl
      rw [hl] at h
      exact lpOK_of b h
  | .loop b, h => lpOK_of b h
  | .skip, _ => trivial
  | .label _, _ => trivial
  | .exit _, _ => trivial
  | .ret, _ => trivial
  | .region _ _ _, _ => trivial
  | .rangeFunc _ _ _ _, _ => trivial
  | .goto _, _ => trivial
  | .refuse _, _ => trivial

theorem andThen_some {β : Type} {o : Option (X × St)} {k : X → St → Option β} {d : β} (h : andThenO none o (fun p => k p.1 p.2) = some d) : ∃ x s, o = some (x, s) ∧ k x s = some d := by
  cases o with
  | none => simp [andThenO] at h
  | some p => exact ⟨p.1, p.2, rfl, h⟩

theorem evL_ok {F : Nat} {L : List Lp} : ∀ (m : Nat) (inr : Bool) (c : Code) (s : St) (k : X → St → Option D) (d : D), LpOK C F L c → evL C F L m inr c s k = some d →
    ∃ x s', ev C (F + m) inr c s = some (x, s') ∧ k x s' = some d
  | 0, inr, c, s, k, d, _, h => by cases h
  | m + 1, inr, c, s, k, d, hc, h => by
    have ih := evL_ok (F := F) (L := L) m
    have hK : OkE (z := (none : Option D)) (ev C (F + m)) (evK C none (F + m)) := evK_eq (F + m)
    show ∃ x s', evStep C (ev C (F + m)) inr c s = some (x, s') ∧ k x s' = some d
    replace h : evStepL C F L m (ev C (F + m)) (evK C none (F + m)) (evL C F L m) inr c s k = some d := h
    unfold evStepL at h
    split at h
    · exact ⟨_, _, rfl, h⟩
    · exact ⟨_, _, rfl, h⟩
    · exact ih _ _ _ _ _ hc h
    · rename_i a b
      obtain ⟨x, s1, h1, h2⟩ := ih _ _ _ _ _ hc.1 h
      simp only [evStep, h1]
      cases x with
      | normal => exact ih _ _ _ _ _ hc.2 h2
      | exit id => exact ⟨_, _, rfl, h2⟩
      | ret => exact ⟨_, _, rfl, h2⟩
    · rename_i c a b
      simp only [evStep]
      split at h
      · rename_i t ht
        rw [ht]
        cases t with
        | false => rw [knowO_eq ht] at h; exact ih _ _ _ _ _ hc.2 h
        | true => rw [knowO_eq ht] at h; exact ih _ _ _ _ _ hc.1 h
      · cases h
    · rename_i id b
      cases hf : findLp L id with
      | some l =>
        simp only [hf] at h
        have ho : OraOK C F l.c l.o id b := by
          have := hc; unfold LpOK at this; rw [hf] at this; exact this
        cases inr with
        | true => cases Nat.ble l.c m <;> cases h
        | false =>
          cases hb : Nat.ble l.c m with
          | false => rw [hb] at h; cases h
          | true =>
            rw [hb] at h
            rw [Nat.ble_eq] at hb
            exact ho (m + 1) (by omega) s k d h
      | none =>
        simp only [hf] at h
        have hb : LpOK C F L b := by
          have := hc; unfold LpOK at this; rw [hf] at this; exact this
        obtain ⟨x, s1, h1, h2⟩ := ih _ _ _ _ _ hb h
        simp only [evStep, h1]
        cases x with
        | normal => exact ⟨_, _, rfl, h2⟩
        | ret => exact ⟨_, _, rfl, h2⟩
        | exit id' =>
          simp only at h2 ⊢
          cases hx : Nat.beq id' id with
          | true => rw [hx] at h2; exact ⟨_, _, rfl, h2⟩
          | false => rw [hx] at h2; exact ⟨_, _, rfl, h2⟩
    · rename_i b
      obtain ⟨x, s1, h1, h2⟩ := ih _ _ _ _ _ (show LpOK C F L b from hc) h
      simp only [evStep, h1]
      cases x with
      | normal => exact ih inr (.loop b) _ _ _ hc h2
      | exit id => exact ⟨_, _, rfl, h2⟩
      | ret => exact ⟨_, _, rfl, h2⟩
    · exact ⟨_, _, rfl, h⟩
    · exact ⟨_, _, rfl, h⟩
    · rename_i id ops
      rw [runOpsK_eq _ _ (callK_eq hK)] at h
      simp only [evStep]
      cases hr : runOps C (callV C (ev C (F + m))) ops ops.toList s with
      | none => simp [hr, andThenO] at h
      | some s' => simp only [hr, andThenO] at h; exact ⟨_, _, rfl, h⟩
    · rename_i id ops
      rw [runDrawK_eq _ _ (callK_eq hK)] at h
      simp only [evStep]
      cases hr : runDraw C (callV C (ev C (F + m))) ops s with
      | none => simp [hr, andThenO] at h
      | some s' => simp only [hr, andThenO] at h; exact ⟨_, _, rfl, h⟩
    · exact andThen_some h

def bodyL (C : Cfg) (F : Nat) (L : List Lp) (m : Nat) (fd : AFn) (ds : List D) : Option D := deepGo C none (evL C F L m) fd ds some

theorem bodyL_ok {F : Nat} {L : List Lp} {m : Nat} {fd : AFn} {ds : List D} {d : D} (hc : LpOK C F L fd.body) (h : bodyL C F L m fd ds = some d) : bodyK C (F + m) fd ds = some d := by
  rw [bodyK_eq]
  unfold bodyL deepGo at h
  unfold bodyD
  generalize imps false ds [] = vh at h
  obtain ⟨vs, h0⟩ := vh
  simp only at h ⊢
  unfold bodyGo at h
  unfold callBody
  obtain ⟨x, s, h1, h2⟩ := evL_ok m _ _ _ _ _ hc h
  rw [h1]
  cases x with
  | exit id => cases h2
  | normal =>
    simp only at h2 ⊢
    cases hv : resVs C s.heap s.tmps fd.results with
    | none => rw [hv] at h2; cases h2
    | some vs =>
      rw [hv] at h2
      simp only at h2 ⊢
      cases hr : rdO rdFuel s.heap (tupV vs) with
      | none => rw [hr] at h2; cases h2
      | some q => obtain ⟨d', h'⟩ := q; rw [hr] at h2; simpa using h2
  | ret =>
    simp only at h2 ⊢
    cases hv : resVs C s.heap s.tmps fd.results with
    | none => rw [hv] at h2; cases h2
    | some vs =>
      rw [hv] at h2
      simp only at h2 ⊢
      cases hr : rdO rdFuel s.heap (tupV vs) with
      | none => rw [hr] at h2; cases h2
      | some q => obtain ⟨d', h'⟩ := q; rw [hr] at h2; simpa using h2

def outX (id : Nat) : X → X
  | .exit i => match Nat.beq i id with
    | true => .normal
    | false => .exit i
  | .normal => .normal
  | .ret => .ret

theorem ev_block {n id : Nat} {b : Code} {s s' : St} {x : X} (h : ev C n false b s = some (x, s')) : ev C (n + 1) false (.block id b) s = some (outX id x, s') := by
  have hb : ev C (n + 1) false (.block id b) s = match ev C n false b s with
      | some (.exit id', s') => match Nat.beq id' id with
        | true => some (.normal, s')
        | false => some (.exit id', s')
      | r => r := rfl
  rw [hb, h]
  cases x with
  | normal => rfl
  | ret => rfl
  | exit i => simp only [outX]; cases Nat.beq i id <;> rfl

/-- A loop in its block, told by its states. -/
theorem ora_loop {σ : Type} {B : Code} {N c id : Nat} {rel : List Nat} {vals : σ → List Value} {hp : σ → Heap} {next : σ → X × σ} {inv : σ → Prop} {F : Nat} {o : Ora}
    (hinv : ∀ a b, inv a → next a = (.normal, b) → inv b)
    (hstep : ∀ m a j, inv a → evK C none (m + c) false B ⟨mkT N rel (vals a) j, hp a⟩ (prj rel) = some ((next a).1, vals (next a).2, N, hp (next a).2))
    (ho : ∀ j s k d, o j s k = some d → ∃ a f x b, s.tmps.length = N ∧ relV rel s.tmps = vals a ∧ s.heap = hp a ∧ inv a ∧ f ≤ F ∧ iterN next f a = some (x, b) ∧
      k (outX id x) ⟨mkT N rel (vals b) j, hp b⟩ = some d) : OraOK C F (c + 1) o id (.loop B) := by
  intro m hm s k d hd
  obtain ⟨a, f, x, b, hl, hv, hh, hi, hf, hit, hk⟩ := ho _ s k d hd
  have es : s = ⟨mkT N rel (vals a) (fun i => s.tmps.getD i undef), hp a⟩ := by
    have h1 := mkT_self rel hl
    rw [hv] at h1
    obtain ⟨t, h⟩ := s
    simp only at h1 hh ⊢
    rw [← h1, hh]
  obtain ⟨j', hj⟩ := loop_ok hinv hstep f a x b hi hit ((F - f) + (m - 1 - c)) (fun i => s.tmps.getD i undef)
  rw [← es, show (F - f) + (m - 1 - c) + c + f = F + (m - 1) by omega] at hj
  have hrun : ev C (F + m) false (.block id (.loop B)) s = some (outX id x, ⟨mkT N rel (vals b) j', hp b⟩) := by
    have := ev_block (id := id) hj
    rwa [show (F + (m - 1)) + 1 = F + m by omega] at this
  have hjk : junk C (F + m) id (.loop B) s = fun i => (mkT N rel (vals b) j').getD i undef := by
    funext i
    unfold junk
    rw [hrun]
  rw [hjk, mkT_junk] at hk
  exact ⟨_, _, hrun, hk⟩

/-! ## Finding a loop in a body -/

def blk (id : Nat) : Code → Option Code
  | .seq a b => match blk id a with
    | some c => some c
    | none => blk id b
  | .cond _ a b => match blk id a with
    | some c => some c
    | none => blk id b
  | .scope b => blk id b
  | .loop b => blk id b
  | .block i b => match Nat.beq i id with
    | true => some b
    | false => blk id b
  | _ => none

def lpB (id : Nat) (c : Code) : Code :=
  match blk id c with
  | some (.loop b) => b
  | _ => .skip
end Go.Am

namespace Go.Am
open Go Go.RowKit

/-! # From a card's reading of the arguments to deep data -/

inductive Kd where
  | int
  | str
  deriving DecidableEq

def Fit : List Kd → List Value → Prop
  | [], [] => True
  | .int :: ks, .int .i64 _ :: vs => Fit ks vs
  | .str :: ks, .string _ :: vs => Fit ks vs
  | _, _ => False

theorem Fit.len : ∀ {ks : List Kd} {vs : List Value}, Fit ks vs → vs.length = ks.length
  | [], [], _ => rfl
  | [], _ :: _, h => h.elim
  | .int :: ks, .int .i64 _ :: vs, h => by simp [Fit.len (ks := ks) (vs := vs) h]
  | .str :: ks, .string _ :: vs, h => by simp [Fit.len (ks := ks) (vs := vs) h]
  | k :: ks, [], h => by cases k <;> exact h.elim
  | .int :: ks, v :: vs, h => by
    unfold Fit at h
    split at h
    · rename_i e _; cases e
    · rename_i e1 e2; cases e1; cases e2; simp [Fit.len h]
    · rename_i e1 e2; cases e1
    · exact h.elim
  | .str :: ks, v :: vs, h => by
    unfold Fit at h
    split at h
    · rename_i e _; cases e
    · rename_i e1 e2; cases e1
    · rename_i e1 e2; cases e1; cases e2; simp [Fit.len h]
    · exact h.elim

theorem Fit.append : ∀ {ks : List Kd} {vs : List Value} {ks' : List Kd} {vs' : List Value}, Fit ks vs → Fit ks' vs' → Fit (ks ++ ks') (vs ++ vs')
  | [], [], _, _, _, h' => h'
  | [], _ :: _, _, _, h, _ => h.elim
  | k :: ks, [], _, _, h, _ => by cases k <;> exact h.elim
  | .int :: ks, v :: vs, _, _, h, h' => by
    unfold Fit at h
    split at h
    · rename_i e _; cases e
    · rename_i e1 e2; cases e1; cases e2; exact Fit.append (ks := ks) h h'
    · rename_i e1 e2; cases e1
    · exact h.elim
  | .str :: ks, v :: vs, _, _, h, h' => by
    unfold Fit at h
    split at h
    · rename_i e _; cases e
    · rename_i e1 e2; cases e1
    · rename_i e1 e2; cases e1; cases e2; exact Fit.append (ks := ks) h h'
    · exact h.elim

def fieldsK (L : TypeId → Option (List Kd)) (P : Program) : List Field → Nat → Option (List Kd)
  | [], _ => some []
  | f :: fs, off => match Nat.beq f.offset off, L f.type with
    | true, some ks => match Nat.beq (P.cellsOf f.type) ks.length, fieldsK L P fs (off + ks.length) with
      | true, some r => some (ks ++ r)
      | _, _ => none
    | _, _ => none

/-- The cells of a plain type. -/
def leaves (P : Program) : Nat → TypeId → Option (List Kd)
  | 0, _ => none
  | m + 1, t => match P.underlying t with
    | some (.int .i64) => some [.int]
    | some .string => some [.str]
    | some (.struct fs) => match fieldsK (leaves P m) P fs.toList 0 with
      | some ks => match Nat.beq (P.cellsOf t) ks.length with
        | true => some ks
        | false => none
      | none => none
    | some (.array n e) => match leaves P m e with
      | some ks => match Nat.beq (P.cellsOf e) ks.length && Nat.beq (P.cellsOf t) (n * ks.length) with
        | true => some (List.replicate n ks).flatten
        | false => none
      | none => none
    | _ => none

variable {H : Type} {enc : TypeId × Value → H} {P : Program} {w : World} {base : Nat} {sp : Nat → Bool} {held : Bool}

theorem mapM_all {α β : Type} {f : α → Option β} : ∀ {l : List α} {r : List β}, l.mapM f = some r → ∀ a ∈ l, ∃ b, f a = some b
  | [], _, _, a, ha => by cases ha
  | x :: l, r, h, a, ha => by
    simp only [List.mapM_cons, Option.bind_eq_bind, Option.bind_eq_some_iff, Option.pure_def, Option.some.injEq] at h
    obtain ⟨y, hy, ys, hys, _⟩ := h
    rcases List.mem_cons.1 ha with rfl | ha
    · exact ⟨y, hy⟩
    · exact mapM_all hys a ha

theorem fields_fit {L : TypeId → Option (List Kd)} {cs : List Value} {T : TypeId → List Value → Option (DataW H × List MemPlace)} (hL : ∀ t ks us x, L t = some ks → T t us = some x → Fit ks us) :
    ∀ (fs : List Field) (off : Nat) (ks : List Kd), fieldsK L P fs off = some ks → (∀ f ∈ fs, ∃ x, T f.type ((cs.drop f.offset).take (P.cellsOf f.type)) = some x) → Fit ks ((cs.drop off).take ks.length)
  | [], off, ks, h, _ => by simp [fieldsK] at h; subst h; simp [Fit]
  | f :: fs, off, ks, h, hall => by
    unfold fieldsK at h
    split at h
    · rename_i ks1 ho hl
      rw [Nat.beq_eq] at ho
      split at h
      · rename_i r hb hr
        rw [Nat.beq_eq] at hb
        cases h
        obtain ⟨x, hx⟩ := hall f (by simp)
        have h1 := hL _ _ _ x hl hx
        have h2 := fields_fit hL fs _ r hr fun g hg => hall g (by simp [hg])
        rw [ho, hb] at h1
        have := h1.append h2
        rwa [← List.drop_drop, ← List.take_add, ← List.length_append] at this
      · cases h
    · cases h

theorem rep_fit {ks : List Kd} {cs : List Value} {c : Nat} (hc : c = ks.length) : ∀ (n : Nat), (∀ i, i < n → Fit ks ((cs.drop (i * c)).take c)) → Fit (List.replicate n ks).flatten (cs.take (n * c))
  | 0, _ => by simp [Fit]
  | n + 1, h => by
    have h1 := rep_fit hc n fun i hi => h i (by omega)
    have h2 := h n (by omega)
    have e : (List.replicate (n + 1) ks).flatten = (List.replicate n ks).flatten ++ ks := by
      rw [List.replicate_succ', List.flatten_append]; simp
    rw [e]
    have := h1.append h2
    rwa [← List.take_add, show n * c + c = (n + 1) * c by rw [Nat.succ_mul]] at this

theorem int_fit {t : TypeId} {fuel : Nat} {cs : List Value} {x : DataW H × List MemPlace} (hu : P.underlying t = some (.int .i64)) (hx : DataW.trod enc P w base sp held (fuel + 1) t cs = some x) : Fit [.int] cs := by
  unfold DataW.trod at hx
  rw [hu] at hx
  match cs, hx with
  | [.int .i64 _], _ => exact trivial
  | [], hx => simp at hx
  | _ :: _ :: _, hx => simp at hx
  | [.int .i8 _], hx => simp at hx
  | [.int .i16 _], hx => simp at hx
  | [.int .i32 _], hx => simp at hx
  | [.int .u8 _], hx => simp at hx
  | [.int .u16 _], hx => simp at hx
  | [.int .u32 _], hx => simp at hx
  | [.int .u64 _], hx => simp at hx
  | [.bool _], hx => simp at hx
  | [.float _ _], hx => simp at hx
  | [.complex _ _ _], hx => simp at hx
  | [.string _], hx => simp at hx
  | [.pointer _], hx => simp at hx
  | [.slice _ _ _], hx => simp at hx
  | [.map _], hx => simp at hx
  | [.chan _], hx => simp at hx
  | [.func _ _ _], hx => simp at hx
  | [.nilFunc], hx => simp at hx
  | [.iface _ _], hx => simp at hx
  | [.nilIface], hx => simp at hx
  | [.agg _], hx => simp at hx
  | [.tuple _], hx => simp at hx

theorem str_fit {t : TypeId} {fuel : Nat} {cs : List Value} {x : DataW H × List MemPlace} (hu : P.underlying t = some .string) (hx : DataW.trod enc P w base sp held (fuel + 1) t cs = some x) : Fit [.str] cs := by
  unfold DataW.trod at hx
  rw [hu] at hx
  match cs, hx with
  | [.string _], _ => exact trivial
  | [], hx => simp at hx
  | _ :: _ :: _, hx => simp at hx
  | [.int _ _], hx => simp at hx
  | [.bool _], hx => simp at hx
  | [.float _ _], hx => simp at hx
  | [.complex _ _ _], hx => simp at hx
  | [.pointer _], hx => simp at hx
  | [.slice _ _ _], hx => simp at hx
  | [.map _], hx => simp at hx
  | [.chan _], hx => simp at hx
  | [.func _ _ _], hx => simp at hx
  | [.nilFunc], hx => simp at hx
  | [.iface _ _], hx => simp at hx
  | [.nilIface], hx => simp at hx
  | [.agg _], hx => simp at hx
  | [.tuple _], hx => simp at hx

theorem trod_fit : ∀ (m : Nat) (t : TypeId) (ks : List Kd) (fuel : Nat) (cs : List Value) (x : DataW H × List MemPlace), leaves P m t = some ks → DataW.trod enc P w base sp held fuel t cs = some x → Fit ks cs
  | 0, t, ks, fuel, cs, x, h, _ => by simp [leaves] at h
  | m + 1, t, ks, fuel, cs, x, h, hx => by
    cases fuel with
    | zero => simp [DataW.trod] at hx
    | succ fuel =>
      unfold leaves at h
      unfold DataW.trod at hx
      split at h
      · rename_i hu
        cases h
        exact int_fit hu hx
      · rename_i hu
        cases h
        exact str_fit hu hx
      · rename_i fs hu
        rw [hu] at hx
        split at h
        · rename_i ks' hk
          split at h
          · rename_i hb
            rw [Nat.beq_eq] at hb
            cases h
            simp only at hx
            split at hx
            · rename_i hlen
              rw [Option.map_eq_some_iff] at hx
              obtain ⟨xs, hxs, _⟩ := hx
              have := fields_fit (P := P) (T := DataW.trod enc P w base sp held fuel) (cs := cs) (fun t ks us x h1 h2 => trod_fit m t ks fuel us x h1 h2) fs.toList 0 ks hk fun f hf => mapM_all hxs f hf
              rw [← hb, ← hlen] at this
              simpa using this
            · cases hx
          · cases h
        · cases h
      · rename_i n e hu
        rw [hu] at hx
        split at h
        · rename_i ks' hk
          split at h
          · rename_i hb
            simp only [Bool.and_eq_true, Nat.beq_eq] at hb
            cases h
            simp only at hx
            split at hx
            · rename_i hlen
              rw [Option.map_eq_some_iff] at hx
              obtain ⟨xs, hxs, _⟩ := hx
              have := rep_fit (ks := ks') (cs := cs) (c := P.cellsOf e) hb.1 n fun i hi => by
                obtain ⟨y, hy⟩ := mapM_all hxs i (by simpa using hi)
                exact trod_fit m e ks' fuel _ y hk hy
              rw [hb.1, ← hb.2, ← hlen] at this
              simpa using this
            · cases hx
          · cases h
        · cases h
      · cases h

theorem mapM_get {α β : Type} {f : α → Option β} : ∀ {l : List α} {r : List β}, l.mapM f = some r → ∀ (i : Nat) (a : α), l[i]? = some a → ∃ b, r[i]? = some b ∧ f a = some b
  | [], r, h, i, a, ha => by simp at ha
  | x :: l, r, h, i, a, ha => by
    simp only [List.mapM_cons, Option.bind_eq_bind, Option.bind_eq_some_iff, Option.pure_def, Option.some.injEq] at h
    obtain ⟨y, hy, ys, hys, rfl⟩ := h
    cases i with
    | zero => simp at ha; subst ha; exact ⟨y, rfl, hy⟩
    | succ i => exact mapM_get hys i a (by simpa using ha)

theorem trod_array_get {t e : TypeId} {n fuel : Nat} {cs : List Value} {ds : List (DataW H)} {ps : List MemPlace} (hu : P.underlying t = some (.array n e)) (h : DataW.trod enc P w base sp held fuel t cs = some (.agg ds, ps)) :
    cs.length = P.cellsOf t ∧ ∃ f, ∀ i, i < n → ∃ d q, ds[i]? = some d ∧ DataW.trod enc P w base sp held f e ((cs.drop (i * P.cellsOf e)).take (P.cellsOf e)) = some (d, q) := by
  cases fuel with
  | zero => simp [DataW.trod] at h
  | succ fuel =>
    simp only [DataW.trod, hu] at h
    split at h
    · rename_i hl
      obtain ⟨xs, hm, hx⟩ := Option.map_eq_some_iff.1 h
      refine ⟨hl, fuel, fun i hi => ?_⟩
      obtain ⟨b, hb, hf⟩ := mapM_get hm i i (by simp [hi])
      simp only [Prod.mk.injEq, DataW.agg.injEq] at hx
      refine ⟨b.1, b.2, ?_, hf⟩
      rw [← hx.1]; simp [hb]
    · cases h

theorem trod_struct_get {t : TypeId} {fs : Array Field} {fuel : Nat} {cs : List Value} {ds : List (DataW H)} {ps : List MemPlace} (hu : P.underlying t = some (.struct fs)) (h : DataW.trod enc P w base sp held fuel t cs = some (.agg ds, ps)) :
    ∃ f, ∀ (j : Nat) (fd : Field), fs.toList[j]? = some fd → ∃ d q, ds[j]? = some d ∧ DataW.trod enc P w base sp held f fd.type ((cs.drop fd.offset).take (P.cellsOf fd.type)) = some (d, q) := by
  cases fuel with
  | zero => simp [DataW.trod] at h
  | succ fuel =>
    simp only [DataW.trod, hu] at h
    split at h
    · obtain ⟨xs, hm, hx⟩ := Option.map_eq_some_iff.1 h
      refine ⟨fuel, fun j fd hj => ?_⟩
      obtain ⟨b, hb, hf⟩ := mapM_get hm j fd hj
      simp only [Prod.mk.injEq, DataW.agg.injEq] at hx
      refine ⟨b.1, b.2, ?_, hf⟩
      rw [← hx.1]; simp [hb]
    · cases h

/-- What comes back as a scalar: the world is as it was below. -/
theorem fnD_below {C : Cfg} {g : FuncId} {ds : List D} {v : Value} (hv : Am.scal v = true) (h : FnD C g ds (.val v)) {w : World} {args : Array Value} (hb : Base C.G C.GB w) (himp : ImpsOK C.G C.GB w ds args.toList) :
    Calls C.P g args w fun e w' => e = .returned v ∧ Below w.heap.size w w' :=
  (h w args hb himp).mono fun e w' ⟨u, he, G⟩ => by
    obtain ⟨r1, S, H', hvr⟩ := G _ [] hb.empty
    simp only [imp] at hvr S
    rw [hvr.scal_eq hv] at he
    refine ⟨he, S.os, S.tape, S.output, S.size, fun k hk => S.keep k hk fun ⟨b, t, h1, h2, _⟩ => by cases h2⟩

/-- Plain cells are what they are. -/
theorem imp_vals (own : Bool) : ∀ (vs : List Value) (h : Heap), imps own (vs.map .val) h = (vs, h)
  | [], h => rfl
  | v :: vs, h => by simp [imps, imp, imp_vals own vs]

theorem imp_plain {G : Gl} {GB : Nat} {vs : List Value} (hs : ∀ v ∈ vs, scal v = true) : ImpOK G GB w (.agg (vs.map .val)) (.agg vs.toArray) := fun h0 r0 H hno => by
  refine ⟨r0, .refl _, ?_, ?_, ?_⟩
  · simpa [imp, imp_vals] using H
  · simp only [imp, imp_vals]
    refine .agg _ _ rfl fun j hj hj' => ?_
    exact .scal _ (hs _ (by simp))
  · simpa [imp, imp_vals] using hno
end Go.Am
