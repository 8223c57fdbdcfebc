/-
 A part of the proof of the statement that the claim names: see the last file.
-/
import Derived.Test.YtifnpljmjhnbaaaGreatDoorAm2
import Derived.CheckFast
import Derived.RangeFuncRecord
namespace Go.Am
noncomputable section
open Go Go.RowKit
structure St where
 tmps:List Value
 heap:Heap
structure AFn where
 ntmps:Nat
 results:List ResultVar
 body:Code
inductive FT (β:Type) where
 | bad
 | leaf (d:β)
 | br (b:Bool) (x y:FT β)
def FT.run {β:Type}:FT β→Option β
 | .bad=>none
 | .leaf d=>some d
 | .br b x y=>cond b x.run y.run
inductive Mode where
 | inl
 | pure
 | spec (F:List D→Option D)
 | specG (F:List D→Option (Bool × D))
 | specT (F:List D→FT D)
 | specH (F:List Value→Heap→FT (Value × Heap))
inductive X where
 | normal
 | exit (id:Nat)
 | ret
def X.toExit:X→Exit
 | .normal=>.normal
 | .exit id=>.exit id
 | .ret=>.ret
def Wide (F:Fence):Prop:=(∀ f,F.fn f)∧F.depth = none∧F.alive = false
theorem Wide.inRound {F:Fence} (h:Wide F) (l:Nat):Wide (F.inRound l):=h
theorem Wide.plain {F:Fence} (h:Wide F):Wide F.plain:=h
theorem wide_wide:Wide Fence.wide:=⟨fun _=>trivial,rfl,rfl⟩
def Marks (w:World) (base:Nat) (ds:List Deferred):Prop:=
 ∃ rs:List Nat,ds = rs.map (fun r=>{ target:=.collected r,args:=#[] })∧rs.Nodup∧∀ r ∈ rs,base ≤ r∧w.heap[r]? = some (.deferred (some []))
structure SR (G:Gl) (GB:Nat) (base:Nat) (r:Ren) (s:St) (a:Act) (w:World):Prop where
 size:a.tmps.size = s.tmps.length
 tmps:∀ (j:Nat) (v:Value),s.tmps[j]? = some v→∃ u,a.tmps[j]? = some u∧VR r v u
 heap:HR G GB r s.heap w
 marks:Marks w base a.defers
def sameC (b c:Code):Bool:=@decide (b = c) (Classical.propDecidable _)
theorem sameC_eq {b c:Code} (h:sameC b c = true):b = c:=@of_decide_eq_true _ (Classical.propDecidable _) h
structure Hook (P:Program) (G:Gl) (GB:Nat) where
 id:Nat
 B:Code
 F:St→FT (X × St)
 ok:∀ (s:St) (x:X) (s':St),(F s).run = some (x,s')→∀ (Fc:Fence) (n base:Nat) (r:Ren) (a:Act) (w:World) (Q:Exit→Act→World→Prop),Wide Fc→SR G GB base r s a w→base ≤ w.heap.size →
  (∀ r' a' w',Step r s.heap w r' s'.heap w'→SR G GB base r' s' a' w'→Q x.toExit a' w')→(Code.block id B).wpIn Fc n P Q a w
def findH {P:Program} {G:Gl} {GB:Nat}:List (Hook P G GB)→Nat→Option (Hook P G GB)
 | [],_=>none
 | H :: Hs,id=>match Nat.beq id H.id with
   | true=>some H
   | false=>findH Hs id
theorem findH_id {P:Program} {G:Gl} {GB:Nat}:∀ {Hs:List (Hook P G GB)} {id:Nat} {H:Hook P G GB},findH Hs id = some H→id = H.id
 | [],_,_,h=>by cases h
 | K :: Hs,id,H,h=>by
   simp only [findH] at h
   split at h
   ·rename_i e
    cases h
    exact Nat.eq_of_beq_eq_true e
   ·exact findH_id h
structure Cfg where
 P:Program
 G:Gl
 GB:Nat
 ty:TypeId→Option ATy
 fn:FuncId→Option AFn
 mode:FuncId→Mode
 crisp:Bool:=false
 split:Bool:=false
 inr:Bool:=false
 hk:List (Hook P G GB):=[]
section
variable {α:Type}
def crN (n:Nat) (k:Nat→α):α:=
 match n with
 | 0=>k 0
 | m + 1=>k (m + 1)
def crI (n:Int) (k:Int→α):α:=
 match n with
 | .ofNat m=>crN m fun m=>k (.ofNat m)
 | .negSucc m=>crN m fun m=>k (.negSucc m)
def crB (b:Bool) (k:Bool→α):α:=
 match b with
 | true=>k true
 | false=>k false
def crA (a:Option Addr) (k:Option Addr→α):α:=
 match a with
 | none=>k none
 | some ⟨b,o,none⟩=>crN b fun b=>crN o fun o=>k (some ⟨b,o,none⟩)
 | some ⟨b,o,some t⟩=>crN b fun b=>crN o fun o=>crN t fun t=>k (some ⟨b,o,some t⟩)
def crV1 (v:Value) (k:Value→α):α:=
 match v with
 | .int kd n=>crI n fun n=>k (.int kd n)
 | .bool b=>crB b fun b=>k (.bool b)
 | .pointer a=>crA a fun a=>k (.pointer a)
 | .slice a n c=>crA a fun a=>crN n fun n=>crN c fun c=>k (.slice a n c)
 | .map (some b)=>crN b fun b=>k (.map (some b))
 | v=>k v
def crL:List Value→(List Value→α)→α
 | [],k=>k []
 | v :: vs,k=>crV1 v fun v=>crL vs fun vs=>k (v :: vs)
def crV (v:Value) (k:Value→α):α:=
 match v with
 | .agg cs=>crL cs.toList fun l=>k (.agg l.toArray)
 | .tuple cs=>crL cs.toList fun l=>k (.tuple l.toArray)
 | v=>crV1 v k
theorem crN_eq (n:Nat) (k:Nat→α):crN n k = k n:=by cases n <;> rfl
theorem crI_eq (n:Int) (k:Int→α):crI n k = k n:=by cases n <;> simp [crI,crN_eq]
theorem crB_eq (b:Bool) (k:Bool→α):crB b k = k b:=by cases b <;> rfl
theorem crA_eq (a:Option Addr) (k:Option Addr→α):crA a k = k a:=by
 unfold crA
 split <;> simp [crN_eq]
theorem crV1_eq (v:Value) (k:Value→α):crV1 v k = k v:=by
 unfold crV1
 split <;> simp [crN_eq,crI_eq,crB_eq,crA_eq]
theorem crL_eq:∀ (l:List Value) (k:List Value→α),crL l k = k l
 | [],_=>rfl
 | v :: vs,k=>by simp [crL,crV1_eq,crL_eq vs]
theorem crV_eq (v:Value) (k:Value→α):crV v k = k v:=by
 unfold crV
 split <;> simp [crL_eq,crV1_eq]
end
def crisp {α:Type} (C:Cfg) (v:Value) (k:Value→α):α:=
 match C.crisp with
 | true=>crV v k
 | false=>k v
theorem crisp_eq {α:Type} (C:Cfg) (v:Value) (k:Value→α):Am.crisp C v k = k v:=by
 unfold Am.crisp
 cases C.crisp <;> simp [crV_eq]
variable (C:Cfg)
def St.ev (s:St):Operand→Value
 | .tmp t=>nthR s.tmps t undef
 | .const v=>match plain v with
   | true=>v
   | false=>unk
 | .global g=>match Nat.blt g K0 with
   | true=>.pointer (some ⟨g,0,none⟩)
   | false=>unk
 | .func f=>.func (.func f) #[] #[]
def putT (tmps:List Value) (dst:Option Tmp) (v:Value):List Value:=
 match dst with
 | some d=>setR tmps d v
 | none=>tmps
def yieldedA (ops:Array Oper) (tmps:List Value) (j:Nat):Option (Option Bool):=
 match ops[j]? with
 | none=>some none
 | some o=>match o.dst with
   | none=>some none
   | some d=>match tmps[d]? with
     | none=>some none
     | some (.bool b)=>some (some b)
     | some (.tuple cs)=>match cs.toList with
       | []=>some none
       | _=>none
     | some _=>none
def wantedA (o:Oper) (ops:Array Oper) (tmps:List Value):Option Bool:=
 match o.guard with
 | none=>some true
 | some (j,want)=>match yieldedA ops tmps j with
   | some (some b)=>some (b == want)
   | some none=>some false
   | none=>none
abbrev CallV:=Value→List Value→Heap→Option (Value × Heap)
def opC (call:CallV) (o:Oper) (ρ:Operand→Value) (h:Heap):Option (Value × Heap):=
 match o.op with
 | .call { callee:=.value f,args,.. }=>call (ρ f) (args.toList.map ρ) h
 | _=>opV C.P C.ty C.G o ρ h
def stepOp (call:CallV) (ops:Array Oper) (o:Oper) (s:St):Option St:=
 match wantedA o ops s.tmps with
 | some true=>match opC C call o s.ev s.heap with
   | some (v,h)=>crisp C v fun v=>some ⟨putT s.tmps o.dst v,h⟩
   | none=>none
 | some false=>some ⟨putT s.tmps o.dst undef,s.heap⟩
 | none=>none
def runOps (call:CallV) (ops:Array Oper):List Oper→St→Option St
 | [],s=>some s
 | o :: os,s=>match stepOp C call ops o s with
   | some s'=>runOps call ops os s'
   | none=>none
def AObj.ro:AObj→AObj
 | .row c _ _=>.row c false none
 | .vec ks l _=>.vec ks l false
 | .map es _=>.map es false
 | _=>.dead
def quietLen:List Nat→(k:Nat)→(m:Nat)→Nat
 | [],_,m=>m
 | b :: bs,k,m=>quietLen bs (k + 1) (match Nat.beq b (2 ^ k - 1) with | true=>m | false=>k + 1)
def dstIs (t:Tmp) (o:Oper):Bool:=
 match o.dst with
 | some d=>Nat.beq d t
 | none=>false
def tmpFree (b i:Nat) (t:Tmp):List (Oper × Nat)→(j:Nat)→Bool
 | [],_=>true
 | (o,c) :: os,j=>(!dstIs t o || b.testBit j || c.testBit i) && tmpFree b i t os (j + 1)
def looksOk (qs:List (Oper × Nat)) (o:Oper) (b i:Nat):Bool:=
 o.op.operands.toList.all (fun x=>match x with
  | .tmp t=>tmpFree b i t qs 0
  | _=>true) &&
 (match o.guard with
  | some (j,_)=>b.testBit j
  | none=>true)
def dstsApart:List Oper→Bool
 | []=>true
 | o :: os=>(match o.dst with
   | some d=>os.all (fun p=>!dstIs d p)
   | none=>true) && dstsApart os
def segOk (s:Heap):Bool:=s.all fun o=>o.flag || !o.alive
def nload (ρ:Operand→Value) (h:Heap) (o:Oper):Bool:=
 match o.op with
 | .load _ a=>match ρ a with
   | .pointer (some ⟨b,_,some _⟩)=>match h.at b with
     | .vec ks _ _=>!flatK ks
     | _=>false
   | _=>false
 | _=>false
def writes (ρ:Operand→Value) (o:Oper):Option Nat:=
 match o.op with
 | .store _ a _=>match ρ a with
   | .pointer (some ⟨b,_,none⟩)=>some b
   | .pointer (some ⟨b,_,some _⟩)=>some b
   | _=>none
 | .call { callee:=.builtin .append,args,.. }=>match args.toList with
   | s :: _=>match ρ s with
     | .slice (some ⟨b,_,none⟩) _ _=>match b with
       | 0=>none
       | _=>some b
     | .slice (some ⟨b,_,some _⟩) _ _=>some b
     | _=>none
   | []=>none
 | .mapUpdate _ m _ _=>match ρ m with
   | .map (some b)=>some b
   | _=>none
 | .mapEntry _ m _=>match ρ m with
   | .map (some b)=>some b
   | _=>none
 | .entryStore _ m _ _=>match ρ m with
   | .map (some b)=>some b
   | _=>none
 | .call { callee:=.value f,.. }=>match ρ f with
   | .func (.func _) xs _=>match xs.toList with
     | [.pointer (some ⟨b,_,none⟩)]=>some b
     | _=>none
   | _=>none
 | _=>none
def isBound (o:Oper):Bool:=
 match o.op with
 | .call { callee:=.value (.tmp _),.. }=>true
 | _=>false
def isStore (o:Oper):Bool:=
 match o.op with
 | .store .. | .mapUpdate .. | .mapEntry .. | .entryStore ..=>true
 | .call { callee:=.builtin .append,.. }=>true
 | .call { callee:=.value (.tmp _),.. }=>true
 | _=>false
def isB (w:Option Nat) (b:Nat):Bool:=
 match w with
 | some c=>Nat.beq c b
 | none=>false
def blkFree (bi i b:Nat):List (Nat × Option Nat)→(j:Nat)→Bool
 | [],_=>true
 | (c,w) :: os,j=>(!isB w b || Nat.beq j i || bi.testBit j || c.testBit i) && blkFree bi i b os (j + 1)
def maskRow (ws:List (Nat × Option Nat)) (w:Option Nat) (bi i b:Nat) (vis:Bool) (o:AObj):AObj:=
 match vis && blkFree bi i b ws 0 with
 | true=>match isB w b with
   | true=>o
   | false=>o.ro
 | false=>.dead
def maskGo (ws:List (Nat × Option Nat)) (w:Option Nat) (bi i:Nat):List Bool→Heap→Nat→Heap
 | v :: vs,o :: os,b=>maskRow ws w bi i b v o :: maskGo ws w bi i vs os (b + 1)
 | _,_,_=>[]
def visOf (b:Nat):List Nat→(j:Nat)→List Bool
 | [],_=>[]
 | n :: ns,j=>List.replicate n (b.testBit j)++visOf b ns (j + 1)
def soleOwn:AObj→Bool
 | .row _ true none=>true
 | .vec _ _ true=>true
 | .map _ true=>true
 | _=>false
def putW (base h:Heap):Option Nat→Heap
 | none=>base
 | some b=>base.put b (h.at b)
def FT.peek {β:Type}:FT β→Option β
 | .bad=>none
 | .leaf x=>some x
 | .br _ x y=>match x.peek with
   | some r=>some r
   | none=>y.peek
def hintCall (call:CallV):CallV:=fun f args h=>
 match f with
 | .func (.func g) xs ys=>match C.mode g with
   | .spec F=>match mp (rd 40 h) (xs.toList++args++ys.toList) with
     | some ds=>match F ds with
       | some d=>some (imp true d h)
       | none=>none
     | none=>none
   | .specG F=>match mp (rd 40 h) (xs.toList++args++ys.toList) with
     | some ds=>match F ds with
       | some p=>some (imp true p.2 h)
       | none=>none
     | none=>none
   | .specT F=>match mp (rd 40 h) (xs.toList++args++ys.toList) with
     | some ds=>match (F ds).peek with
       | some d=>some (imp true d h)
       | none=>none
     | none=>none
   | _=>call f args h
 | _=>call f args h
def coolOp:Op→Bool
 | .move _ | .assign _ | .pick .. | .load .. | .binOp .. | .unOp .. | .fieldAddr .. | .field .. | .indexAddr .. | .index .. | .extract .. | .build ..=>true
 | .call { callee:=.builtin .min,.. } | .call { callee:=.builtin .max,.. } | .call { callee:=.builtin .len,.. }=>true
 | _=>false
def needOps (o:Oper):List Operand:=
 match o.op with
 | .store _ a _=>[a]
 | op=>op.operands.toList
def tmpsOf:List Operand→List Nat→List Nat
 | [],N=>N
 | .tmp t :: xs,N=>t :: tmpsOf xs N
 | _ :: xs,N=>tmpsOf xs N
def inN (t:Nat):List Nat→Bool
 | []=>false
 | x :: xs=>Nat.beq t x || inN t xs
def cool (N:List Nat) (o:Oper):Bool:=
 match o.dst with
 | some t=>coolOp o.op && !inN t N
 | none=>false
def idle (N:List Nat) (o:Oper):Bool:=
 match o.dst with
 | some t=>!inN t N
 | none=>false
def needT:List Oper→List Nat
 | []=>[]
 | o :: os=>match cool (needT os) o with
   | true=>needT os
   | false=>tmpsOf (needOps o) (needT os)
def appH (o:Oper) (s:St):Option St:=
 match o.op with
 | .call { callee:=.builtin .append,args,argTypes }=>match args.toList,argTypes.toList with
   | [x,y],[t,t']=>match sameSl C.ty t t' && isVec (s.ev x) (s.ev y),C.ty t with
     | true,some u=>match u.desc with
       | .slice e=>match C.ty e with
         | some z=>match appX z s.heap (s.ev x) (s.ev y) with
           | some (_,v,h)=>some ⟨putT s.tmps o.dst v,h⟩
           | none=>none
         | none=>none
       | _=>none
     | _,_=>none
   | _,_=>none
 | _=>none
def someB:Option Nat→Bool
 | some _=>true
 | none=>false
def hints (call:CallV) (ops:Array Oper) (N:List Nat) (lean:Bool):List Oper→St→List (Option Nat)
 | [],_=>[]
 | o :: os,s=>writes s.ev o :: (match lean && (cool N o || (isBound o && (someB (writes s.ev o) || idle N o))) with
   | true=>hints call ops N lean os ⟨putT s.tmps o.dst undef,s.heap⟩
   | false=>match lean,appH C o s with
     | true,some s'=>hints call ops N lean os s'
     | _,_=>match stepOp C (hintCall C call) ops o s with
       | some s'=>hints call ops N lean os s'
       | none=>match lean with
         | true=>hints call ops N lean os ⟨putT s.tmps o.dst undef,s.heap⟩
         | false=>[])
def hintsFor (call:CallV) (ops:Array Oper) (qs:List Oper) (s:St):List (Option Nat):=
 match qs.any isStore with
 | true=>match qs.any fun o=>o.guard.isSome with
   | true=>hints C call ops [] false qs s
   | false=>hints C call ops (needT qs) true qs s
 | false=>qs.map fun _=>none
def holds (M:Heap):Option Nat→Bool
 | some c=>soleOwn (M.at c)
 | none=>true
def quietStep (call:CallV) (ops:Array Oper) (o:Oper) (w:Option Nat) (n:Nat) (s:St):Option St:=
 match holds s.heap w with
 | false=>none
 | true=>match stepOp C call ops o s with
   | some s'=>match segOk (s'.heap.drop n) || nload s.ev s.heap o with
     | true=>some s'
     | false=>none
   | none=>none
def runQuiet (call:CallV) (ops:Array Oper) (qs:List (Oper × Nat)) (ws:List (Nat × Option Nat)) (n0:Nat):List (Oper × Nat × Option Nat)→(tmps:List Value)→(cur:Heap)→(lens:List Nat)→Option (List Value × Heap)
 | [],tmps,cur,_=>some (tmps,cur)
 | (o,b,w) :: os,tmps,cur,lens=>
   match looksOk qs o b lens.length && Nat.blt b (2 ^ lens.length) with
   | false=>none
   | true=>
     match quietStep C call ops o w cur.length ⟨tmps,maskGo ws w b lens.length (List.replicate n0 true++visOf b lens 0) cur K0⟩ with
     | some s'=>runQuiet call ops qs ws n0 os s'.tmps (putW cur s'.heap w++s'.heap.drop cur.length) (lens++[(s'.heap.drop cur.length).length])
     | none=>none
def unm (h:Heap) (b:Nat):Heap:=
 match h.at b with
 | .row cells true (some m)=>match Nat.beq m b with
   | false=>turn h b (some m) cells
   | true=>h
 | _=>h
def unms:List (Option Nat)→Heap→Heap
 | [],h=>h
 | some b :: ws,h=>unms ws (unm h b)
 | none :: ws,h=>unms ws h
def drawIn (call:CallV) (ops:Array Oper) (ws:List (Option Nat)) (s:St):Option St:=
 let bs:=CheckFast.beforeL ops.toList 0 []
 let m:=quietLen bs 0 0
 let qs:=ops.toList.take m
 match dstsApart qs && Nat.beq ws.length qs.length with
 | false=>none
 | true=>match runQuiet C call ops (qs.zip bs) (bs.zip ws) s.heap.length (qs.zip (bs.zip ws)) s.tmps s.heap [] with
   | some (tmps,cur)=>runOps C call ops (ops.toList.drop m) ⟨tmps,cur⟩
   | none=>none
def runDraw (call:CallV) (ops:Array Oper) (s:St):Option St:=
 let ws:=hintsFor C call ops (ops.toList.take (quietLen (CheckFast.beforeL ops.toList 0 []) 0 0)) s
 drawIn C call ops ws ⟨s.tmps,unms ws s.heap⟩
def resV (h:Heap) (tmps:List Value):ResultVar→Option Value
 | .tmp t=>some (nthR tmps t undef)
 | .cell a t=>match nthR tmps a undef,C.ty t with
   | .pointer (some ⟨b,off,none⟩),some x=>loadV C.G x h b off
   | _,_=>none
def resVs (h:Heap) (tmps:List Value):List ResultVar→Option (List Value)
 | []=>some []
 | r :: rs=>match resV C h tmps r with
   | some v=>match resVs h tmps rs with
     | some vs=>some (v :: vs)
     | none=>none
   | none=>none
def tupV:List Value→Value
 | [v]=>v
 | vs=>.tuple vs.toArray
abbrev EvC:=Bool→Code→St→Option (X × St)
def callBody (E:EvC) (fd:AFn) (argv:List Value) (h:Heap):Option (Value × Heap):=
 match E false fd.body ⟨argv++List.replicate (fd.ntmps - argv.length) undef,h⟩ with
 | some (.exit _,_)=>none
 | some (_,s)=>match resVs C s.heap s.tmps fd.results with
   | some vs=>some (tupV vs,s.heap)
   | none=>none
 | none=>none
def rdFuel:Nat:=64
def bodyD (E:EvC) (fd:AFn) (ds:List D):Option D:=
 match imps false ds [] with
 | (vs,h)=>match callBody C E fd vs h with
   | some (v,h')=>match rdO rdFuel h' v with
     | some (d,_)=>some d
     | none=>none
   | none=>none
def callD (F:List D→Option D) (argv:List Value) (h:Heap):Option (Value × Heap):=
 match mp (rd rdFuel h) argv with
 | some ds=>match F ds with
   | some d=>some (imp true d h)
   | none=>none
 | none=>none
def condF (F:List D→Option (Bool × D)) (ds:List D):Option D:=
 match F ds with
 | some (b,d)=>cond b (some d) none
 | none=>none
def callF (E:EvC) (g:FuncId) (argv:List Value) (h:Heap):Option (Value × Heap):=
 match C.fn g with
 | none=>none
 | some fd=>match C.mode g with
   | .inl=>callBody C E fd argv h
   | .pure=>callD (bodyD C E fd) argv h
   | .spec F=>callD F argv h
   | .specG F=>callD (condF F) argv h
   | .specT F=>callD (fun ds=>(F ds).run) argv h
   | .specH F=>(F argv h).run
def roundV (E:EvC) (L:Nat) (args:List Value) (h:Heap):Option (Value × Heap):=
 match h.at L with
 | .loop lp=>match lp.state,Nat.beq args.length lp.params.size with
   | .ready,true=>match E true lp.assign ⟨(lp.params.toList.zip args).foldl (fun tmps (t,a)=>tmps.set t a) lp.tmps,h⟩ with
     | some (.normal,s1)=>match s1.heap.at L with
       | .loop lp1=>match lp1.state with
         | .ready=>match E true lp.body ⟨s1.tmps,s1.heap.put L (.loop { lp1 with state:=.busy })⟩ with
           | some (e,s2)=>match s2.heap.at L with
             | .loop lp2=>match e with
               | .normal=>some (.bool true,s2.heap.put L (.loop { lp2 with state:=.ready,pending:=none }))
               | .ret=>some (.bool false,s2.heap.put L (.loop { lp2 with state:=.done,pending:=some .ret }))
               | .exit id=>some (.bool false,s2.heap.put L (.loop { lp2 with state:=.done,pending:=some (.exit id) }))
             | _=>none
           | none=>none
         | _=>none
       | _=>none
     | _=>none
   | _,_=>none
 | _=>none
def callV (E:EvC):CallV:=fun f args h=>
 match f with
 | .func (.func g) xs ys=>callF C E g (xs.toList++args++ys.toList) h
 | .func (.yield L) xs ys=>match xs.toList,ys.toList with
   | [],[]=>roundV E L args h
   | _,_=>none
 | _=>none
def evStep (E:EvC):EvC:=fun inr c s=>
 match c with
 | .skip | .label _=>some (.normal,s)
 | .scope b=>E inr b s
 | .seq a b=>match E inr a s with
   | some (.normal,s')=>E inr b s'
   | r=>r
 | .cond c a b=>match s.ev c with
   | .bool true=>E inr a s
   | .bool false=>E inr b s
   | _=>none
 | .block id b=>match findH C.hk id with
   | some H=>match sameC b H.B with
     | true=>(H.F s).run
     | false=>none
   | none=>match E inr b s with
     | some (.exit id',s')=>match Nat.beq id' id with
       | true=>some (.normal,s')
       | false=>some (.exit id',s')
     | r=>r
 | .loop b=>match E inr b s with
   | some (.normal,s')=>E inr (.loop b) s'
   | r=>r
 | .exit id=>some (.exit id,s)
 | .ret=>some (.ret,s)
 | .region _ ops false=>match runOps C (callV C E) ops ops.toList s with
   | some s'=>some (.normal,s')
   | none=>none
 | .region _ ops true=>match runDraw C (callV C E) ops s with
   | some s'=>some (.normal,s')
   | none=>none
 | .rangeFunc f ps assign body=>match inr with
   | true=>none
   | false=>
     let L:=K0 + s.heap.length
     match (match s.ev f with
      | .func (.func g) xs ys=>callF C E g (xs.toList++[Value.func (.yield L) #[] #[]]++ys.toList) (s.heap++[AObj.loop { state:=.ready,pending:=none,fn:=0,tmps:=s.tmps,params:=ps,assign:=assign,body:=body }])
      | _=>none) with
     | some (_,h')=>match h'.at L with
       | .loop lp=>match lp.state with
         | .busy=>none
         | _=>match lp.pending with
           | none=>some (.normal,⟨s.tmps,h'.put L (.loop { lp with state:=.exhausted })⟩)
           | some .ret=>some (.ret,⟨s.tmps,h'.put L (.loop { lp with state:=.exhausted })⟩)
           | some (.exit id)=>some (.exit id,⟨s.tmps,h'.put L (.loop { lp with state:=.exhausted })⟩)
           | some _=>none
       | _=>none
     | none=>none
 | _=>none
def ev (n:Nat):EvC:=Nat.rec (fun _ _ _=>none) (fun _ E=>evStep C E) n
end
end Go.Am
namespace Go.Am
noncomputable section
open Go
inductive Tr (α:Type) where
 | lf
 | nd (l:Tr α) (k:Nat) (v:α) (r:Tr α)
def Tr.get {α:Type}:Tr α→Nat→Option α
 | .lf,_=>none
 | .nd l k v r,x=>match Nat.beq x k with
   | true=>some v
   | false=>match Nat.blt x k with
     | true=>l.get x
     | false=>r.get x
def Tr.All {α:Type} (p:Nat→α→Prop):Tr α→Prop
 | .lf=>True
 | .nd l k v r=>l.All p∧p k v∧r.All p
theorem Tr.get_all {α:Type} {p:Nat→α→Prop}:∀ {t:Tr α} {x:Nat} {v:α},t.All p→t.get x = some v→p x v
 | .lf,_,_,_,h=>by simp [Tr.get] at h
 | .nd l k w r,x,v,⟨hl,hk,hr⟩,h=>by
   unfold Tr.get at h
   split at h
   ·rename_i e
    rw [Nat.beq_eq] at e
    cases h;rw [e];exact hk
   ·split at h
    ·exact Tr.get_all hl h
    ·exact Tr.get_all hr h
def codeOf (f:Func):Code:=
 match f.body with
 | some c=>c
 | none=>.skip
def fnOf (f:Func):AFn:=⟨f.ntmps,f.results.toList,codeOf f⟩
end
end Go.Am
namespace Go.Am
noncomputable section
open Go Go.RowKit
structure CfgOk (C:Cfg):Prop where
 ty:TyOk C.P C.ty
 fn : ∀ f fd, C.fn f = some fd → ∃ fn, C.P.funcs[f]? = some fn ∧ fn.body = some fd.body ∧ fn.ntmps = fd.ntmps ∧ fn.results.toList = fd.results ∧ (fn.name == "runtime.NumGoroutine") = false
 mixed:C.P.follows .mixedOrders = true
variable {C:Cfg} {base:Nat}
theorem ev_ok {r:Ren} {s:St} {a:Act} (hsz:a.tmps.size = s.tmps.length) (x:Operand) (hx:∀ t,x = .tmp t→∀ v,s.tmps[t]? = some v→∃ u,a.tmps[t]? = some u∧VR r v u):VR r (s.ev x) (a.eval x):=by
 cases x with
 | tmp t=>
   simp only [St.ev,nthR_eq,Act.eval]
   by_cases ht:t < s.tmps.length
   ·obtain ⟨u,hu,hv⟩:=hx t rfl s.tmps[t] (by simp [ht])
    simpa [List.getD_eq_getElem?_getD,ht,hu] using hv
   ·have ht':s.tmps.length ≤ t:=Nat.le_of_not_lt ht
    have h1:s.tmps[t]? = none:=List.getElem?_eq_none ht'
    have h2:a.tmps[t]? = none:=Array.getElem?_eq_none (by rw [hsz];exact ht')
    simp [List.getD_eq_getElem?_getD,h1,h2]
    exact .tup _ _ rfl (fun j h=>by simp at h)
 | const v=>
   simp only [St.ev,Act.eval]
   cases hp:plain v with
   | true=>exact plain_refl r hp
   | false=>exact .top v
 | global g=>
   simp only [St.ev,Act.eval]
   cases hg:Nat.blt g K0 with
   | true=>exact .scal _ hg
   | false=>exact .top _
 | func f=>exact .func f _ _ _ _ rfl rfl (fun j h=>by simp at h) (fun j h=>by simp at h)
theorem SR.ev {r:Ren} {s:St} {a:Act} {w:World} (h:SR C.G C.GB base r s a w) (x:Operand):VR r (s.ev x) (a.eval x):=
 ev_ok h.size x fun t _ v hv=>h.tmps t v hv
theorem Marks.step {r r':Ren} {h h':Heap} {w w':World} {ds:List Deferred} (H:HR C.G C.GB r h w) (S:Step r h w r' h' w') (M:Marks w base ds):Marks w' base ds:=by
 obtain ⟨rs,h1,h2,h3⟩:=M
 refine ⟨rs,h1,h2,fun x hx=>?_⟩
 obtain ⟨a,b⟩:=h3 x hx
 have hlt:x < w.heap.size:=(Array.getElem?_eq_some_iff.1 b).1
 exact ⟨a,by rw [S.keep x hlt (fun ho=>H.owned_kind ho b)];exact b⟩
theorem SR.put {r r':Ren} {s:St} {a:Act} {w w':World} (h:SR C.G C.GB base r s a w) {h':Heap} (S:Step r s.heap w r' h' w') (H':HR C.G C.GB r' h' w') (dst:Option Tmp) {v u:Value} (hv:VR r' v u) :
  SR C.G C.GB base r' ⟨putT s.tmps dst v,h'⟩ (a.put dst u) w':=by
 cases dst with
 | none=>exact ⟨h.size,fun j x hj=>let ⟨y,p,q⟩:=h.tmps j x hj;⟨y,p,q.mono S.le⟩,H',h.marks.step h.heap S⟩
 | some d=>
   refine ⟨by simp [Act.put,putT,setR_eq,h.size],fun j x hj=>?_,H',h.marks.step h.heap S⟩
   simp only [putT,setR_eq,List.getElem?_set] at hj
   simp only [Act.put]
   by_cases e:d = j
   ·subst e
    by_cases hl:d < s.tmps.length
    ·simp only [if_true,hl] at hj
     cases hj
     exact ⟨u,by simp [h.size,hl],hv⟩
    ·simp [hl] at hj
   ·simp only [e,if_false] at hj
    obtain ⟨y,p,q⟩:=h.tmps j x hj
    exact ⟨y,by rw [Array.getElem?_setIfInBounds];simp [e,p],q.mono S.le⟩
theorem wanted_ok' {r:Ren} {tmps:List Value} {a:Act} (hsz:a.tmps.size = tmps.length) {o:Oper} {ops:Array Oper} {b:Bool} (hw:wantedA o ops tmps = some b)
  (hx:∀ g want q d,o.guard = some (g,want)→ops[g]? = some q→q.dst = some d→∀ v,tmps[d]? = some v→∃ u,a.tmps[d]? = some u∧VR r v u) :
  Region.wanted o (yielded ops a.tmps) = b:=by
 unfold wantedA at hw
 unfold Region.wanted
 cases hg:o.guard with
 | none=>simp only [hg,Option.some.injEq] at hw;exact hw
 | some jw=>
   obtain ⟨j,want⟩:=jw
   simp only [hg] at hw ⊢
   have key:∀ y,yieldedA ops tmps j = some y→yielded ops a.tmps j = y:=fun y hy=>by
    unfold yieldedA at hy
    unfold yielded
    cases ho:ops[j]? with
    | none=>simp only [ho,Option.some.injEq] at hy;subst hy;simp
    | some q=>
      simp only [ho] at hy
      cases hd:q.dst with
      | none=>simp only [hd,Option.some.injEq] at hy;subst hy;simp [hd]
      | some d=>
        simp only [hd] at hy
        cases ht:tmps[d]? with
        | none=>
          simp only [ht,Option.some.injEq] at hy;subst hy
          have:a.tmps[d]? = none:=Array.getElem?_eq_none (by have:=List.getElem?_eq_none_iff.1 ht;omega)
          simp [hd,this]
        | some v=>
          obtain ⟨u,hu,hv⟩:=hx j want q d hg ho hd v ht
          simp only [ht] at hy
          simp only [Option.bind_some,hd,hu]
          cases v with
          | bool t=>simp only [Option.some.injEq] at hy;subst hy;rw [hv.bool]
          | tuple cs=>
            simp only at hy
            split at hy
            ·rename_i hcs
             simp only [Option.some.injEq] at hy;subst hy
             have hcs':cs = #[]:=by
              rw [← Array.toArray_toList (xs:=cs),hcs]
             subst hcs'
             cases hv with
             | scal _ hs=>simp [Am.scal] at hs
             | tup=>rfl
            ·cases hy
          | _=>cases hy
   cases hy:yieldedA ops tmps j with
   | none=>simp [hy] at hw
   | some y=>
     rw [key y hy]
     cases y with
     | none=>simp only [hy,Option.some.injEq] at hw;subst hw;simp
     | some t=>simp only [hy,Option.some.injEq] at hw;subst hw;simp
theorem wanted_ok {r:Ren} {s:St} {a:Act} {w:World} (h:SR C.G C.GB base r s a w) {o:Oper} {ops:Array Oper} {b:Bool} (hw:wantedA o ops s.tmps = some b) :
  Region.wanted o (yielded ops a.tmps) = b:=wanted_ok' (r:=r) h.size hw fun _ _ _ d _ _ _ v hv=>h.tmps d v hv
end
end Go.Am
namespace Go.Am
noncomputable section
open Go Go.RowKit
variable {C:Cfg} {base:Nat}
def invV (fv:Value) (args:Array Value):Sem Next:=do
 let d ← Deferred.ofValue fv args
 invoke d.target d.args
def CallS (C:Cfg) (fv:Value) (args:List Value) (h:Heap) (v:Value) (h':Heap):Prop:=
 ∀ (F:Fence) (n:Nat) (r:Ren) (w:World) (fv':Value) (cargs:Array Value),Wide F→HR C.G C.GB r h w→VR r fv fv'→VRs r args cargs.toList →
  ∀ (o:Oper) (a:Act) (next:Act→World→Prop) (Q:Exit→Act→World→Prop),
   (∀ r' u w',Step r h w r' h' w'→HR C.G C.GB r' h' w'→VR r' v u→next (a.put o.dst u) w') →
   o.uponIn F n C.P a next Q ((invV fv' cargs).run C.P w)
def CallOK (C:Cfg) (call:CallV):Prop:=∀ fv args h v h',call fv args h = some (v,h')→CallS C fv args h v h'
theorem opC_sound (ok:CfgOk C) {call:CallV} (hc:CallOK C call) {o:Oper} {ρA:Operand→Value} {h h':Heap} {v:Value} (hv:opC C call o ρA h = some (v,h'))
  {F:Fence} {n:Nat} {r:Ren} {a:Act} {w:World} {K:Act→World→Prop} {Q:Exit→Act→World→Prop} (hF:Wide F) (H:HR C.G C.GB r h w)
  (R:∀ x ∈ o.op.operands.toList,VR r (ρA x) (a.eval x)) (hK:∀ r' u w',Step r h w r' h' w'→HR C.G C.GB r' h' w'→VR r' v u→K (a.put o.dst u) w') :
  o.wpIn F n C.P a w K Q:=by
 have hnd:∀ c,o.op ≠ .defer c:=fun c e=>by
  unfold opC at hv
  rw [e] at hv
  simp [opV,e] at hv
 refine ⟨fun f _=>hF.1 f,?_⟩
 rw [Oper.semAt_eq _ _ _ hnd]
 unfold opC at hv
 split at hv
 ·rename_i f args ts ho
  have hex:execOp a.eval o = invV (a.eval f) (args.map a.eval):=by
   simp only [execOp,ho,resolve];rfl
  rw [hex]
  refine hc _ _ _ _ _ hv F n r w _ _ hF H (R f (by simp [ho,Op.operands,Call.operands])) ⟨by simp,fun j x hj=>?_⟩ o a K Q hK
  simp only [List.getElem?_map] at hj
  cases hx:args.toList[j]? with
  | none=>simp [hx] at hj
  | some y=>
    simp [hx] at hj
    subst hj
    refine ⟨a.eval y,by simp at hx;simp [hx],R y ?_⟩
    simp only [ho,Op.operands,Call.operands]
    simp at hx
    have:=Array.mem_of_getElem? hx
    simp [this]
 ·obtain ⟨r',u,w',h1,S,H',hvr⟩:=opV_sound (GB:=C.GB) ok.ty hv r a w H R
  have:=hK r' u w' S H' hvr
  rcases h1 with h1 | ⟨h1,rfl⟩
  ·rw [h1];exact this
  ·rw [h1];exact this
theorem stepOp_sound (ok:CfgOk C) {call:CallV} (hc:CallOK C call) {ops:Array Oper} {i:Nat} {o:Oper} (ho:ops[i]? = some o) {s s':St} (hs:stepOp C call ops o s = some s')
  {F:Fence} {n:Nat} {r:Ren} {a:Act} {w:World} {K:Act→World→Prop} {Q:Exit→Act→World→Prop} (hF:Wide F) (H:SR C.G C.GB base r s a w)
  (hK:∀ r' a' w',Step r s.heap w r' s'.heap w'→SR C.G C.GB base r' s' a' w'→K a' w'):wpOpIn F n C.P ops Q i K a w:=by
 unfold wpOpIn
 simp only [ho]
 unfold stepOp at hs
 simp only [crisp_eq] at hs
 cases hw:wantedA o ops s.tmps with
 | none=>simp [hw] at hs
 | some b=>
   rw [wanted_ok H hw]
   simp only [hw] at hs
   cases b with
   | true=>
     simp only at hs
     cases hv:opC C call o s.ev s.heap with
     | none=>simp [hv] at hs
     | some vh=>
       obtain ⟨v,h'⟩:=vh
       simp only [hv,Option.some.injEq] at hs
       subst hs
       simp only [if_true]
       exact opC_sound ok hc hv hF H.heap (fun x _=>H.ev x) fun r' u w' S H' hvr=>hK r' _ w' S (H.put S H' o.dst hvr)
   | false=>
     simp only [Option.some.injEq] at hs
     subst hs
     simp only [Bool.false_eq_true,if_false]
     exact ⟨fun f _=>hF.1 f,hK r _ w (.refl _ _ _) (H.put (.refl _ _ _) H.heap o.dst (.tup _ _ rfl fun j h=>by simp at h))⟩
theorem runOps_sound (ok:CfgOk C) {call:CallV} (hc:CallOK C call) {ops:Array Oper} {F:Fence} {n:Nat} {Q:Exit→Act→World→Prop} (hF:Wide F) :
  ∀ (os:List Oper) (i:Nat) (is:List Nat) (s s':St) (r:Ren) (a:Act) (w:World),(∀ (j:Nat) (o:Oper),os[j]? = some o→ops[i + j]? = some o)→is = (List.range' i os.length) →
   runOps C call ops os s = some s'→SR C.G C.GB base r s a w→(∀ r' a' w',Step r s.heap w r' s'.heap w'→SR C.G C.GB base r' s' a' w'→Q .normal a' w')→wpOpsIn F n C.P ops Q is a w
 | [],i,is,s,s',r,a,w,_,his,hr,H,hQ=>by
   simp only [runOps,Option.some.injEq] at hr
   subst hr;subst his
   simp only [List.length_nil,List.range'_zero,wpOpsIn]
   exact hQ r a w (.refl _ _ _) H
 | o :: os,i,is,s,s',r,a,w,hops,his,hr,H,hQ=>by
   subst his
   simp only [List.length_cons,List.range'_succ]
   rw [wpOpsIn_cons]
   simp only [runOps] at hr
   cases hs:stepOp C call ops o s with
   | none=>simp [hs] at hr
   | some s1=>
     simp only [hs] at hr
     refine stepOp_sound ok hc (by simpa using hops 0 o rfl) hs hF H fun r1 a1 w1 S1 H1=>?_
     exact runOps_sound ok hc hF os (i + 1) _ s1 s' r1 a1 w1 (fun j o' hj=>by have:=hops (j + 1) o' (by simpa using hj);rw [← this];congr 1;omega) rfl hr H1
      fun r2 a2 w2 S2 H2=>hQ r2 a2 w2 (S1.trans S2) H2
theorem region_sound (ok:CfgOk C) {call:CallV} (hc:CallOK C call) {id:Nat} {ops:Array Oper} {s s':St} (hr:runOps C call ops ops.toList s = some s')
  {F:Fence} {n:Nat} {r:Ren} {a:Act} {w:World} {Q:Exit→Act→World→Prop} (hF:Wide F) (H:SR C.G C.GB base r s a w)
  (hQ:∀ r' a' w',Step r s.heap w r' s'.heap w'→SR C.G C.GB base r' s' a' w'→Q .normal a' w'):(Code.region id ops false).wpIn F n C.P Q a w:=
 wpIn_region (runOps_sound ok hc hF ops.toList 0 _ s s' r a w (fun j o hj=>by simpa using hj) (by simp [List.range_eq_range']) hr H hQ)
end
end Go.Am
namespace Go.Am
noncomputable section
open Go Go.RowKit
variable {C:Cfg} {base:Nat}
def lw {α:Type} (val:Nat→α) (mine S:Nat→Bool):Nat→α
 | 0=>val 0
 | k + 1=>if S k && mine k then val (k + 1) else lw val mine S k
theorem lw_upto {α:Type} {val:Nat→α} {mine S:Nat→Bool}:∀ (i:Nat),(∀ k,k < i→mine k = false→val (k + 1) = val k)→(∀ j,j < i→mine j = true→S j = true)→lw val mine S i = val i
 | 0,_,_=>rfl
 | i + 1,hf,h=>by
   have ih:=lw_upto i (fun k hk=>hf k (by omega)) (fun j hj=>h j (by omega))
   simp only [lw]
   cases hm:mine i with
   | true=>rw [h i (by omega) hm];simp
   | false=>simp only [Bool.and_false,Bool.false_eq_true,if_false,ih];exact (hf i (by omega) hm).symm
theorem lw_after {α:Type} {val:Nat→α} {mine S:Nat→Bool} {i:Nat}:∀ (m:Nat),i ≤ m→(∀ j,i ≤ j→j < m→mine j = true→S j = false)→lw val mine S m = lw val mine S i
 | 0,hi,_=>by rw [Nat.le_zero.1 hi]
 | m + 1,hi,h=>by
   by_cases e:i = m + 1
   ·rw [e]
   ·simp only [lw]
    have ih:=lw_after (val:=val) m (by omega) (fun j h1 h2=>h j h1 (by omega))
    cases hm:mine m with
    | true=>rw [h m (by omega) (by omega) hm];simpa using ih
    | false=>simpa using ih
theorem lw_at {α:Type} {val:Nat→α} {mine S:Nat→Bool} {i m:Nat} (hf:∀ k,k < m→mine k = false→val (k + 1) = val k) (h1:∀ j,j < i→mine j = true→S j = true) (h2:∀ j,i ≤ j→j < m→mine j = true→S j = false) (him:i ≤ m) :
  lw val mine S m = val i:=by
 rw [lw_after m him h2,lw_upto i (fun k hk=>hf k (by omega)) h1]
def addS (S:Nat→Bool) (i:Nat):Nat→Bool:=fun j=>S j || Nat.beq j i
theorem addS_self (S:Nat→Bool) (i:Nat):addS S i i = true:=by simp [addS]
theorem addS_ne (S:Nat→Bool) {i j:Nat} (h:j ≠ i):addS S i j = S j:=by
 have:Nat.beq j i = false:=by
  cases e:Nat.beq j i with
  | false=>rfl
  | true=>exact absurd (Nat.eq_of_beq_eq_true e) h
 simp [addS,this]
theorem lw_add_no {α:Type} {val:Nat→α} {mine S:Nat→Bool} {i:Nat} (hm:mine i = false):∀ (k:Nat),lw val mine (addS S i) k = lw val mine S k
 | 0=>rfl
 | k + 1=>by
   simp only [lw]
   rw [lw_add_no hm k]
   by_cases e:k = i
   ·subst e;simp [hm]
   ·rw [addS_ne S e]
theorem lw_add_yes {α:Type} {val:Nat→α} {mine S:Nat→Bool} {i m:Nat} (hm:mine i = true) (him:i < m) (h:∀ j,i < j→j < m→mine j = true→S j = false) :
  lw val mine (addS S i) m = val (i + 1):=by
 rw [lw_after (i:=i + 1) m him (fun j h1 h2 h3=>by rw [addS_ne S (by omega)];exact h j h1 h2 h3)]
 simp [lw,addS_self,hm]
def slot (cur:Nat→Heap) (j b:Nat):Bool:=Nat.ble (K0 + (cur j).length) b && Nat.blt b (K0 + (cur (j + 1)).length)
def mineB (cur:Nat→Heap) (W:Nat→Option Nat) (b j:Nat):Bool:=isB (W j) b || slot cur j b
def mineT (ops:Array Oper) (t:Tmp) (j:Nat):Bool:=
 match ops[j]? with
 | some o=>dstIs t o
 | none=>false
structure MaskOk (bsF:Nat→Nat) (m:Nat) (cur:Nat→Heap) (W:Nat→Option Nat) (i:Nat) (M:Heap):Prop where
 len:M.length = (cur i).length
 vis:∀ b,(M.at b).alive = true→K0 ≤ b∧b < K0 + (cur i).length ∧
  (∀ j,j < m→isB (W j) b = true→j = i ∨ (bsF i).testBit j = true ∨ (bsF j).testBit i = true) ∧
  (b < K0 + (cur 0).length ∨ ∃ j,j < i∧(bsF i).testBit j = true∧slot cur j b = true)
 con:∀ b,(M.at b).alive = true→(isB (W i) b = true∧M.at b = (cur i).at b) ∨ M.at b = ((cur i).at b).ro
structure QStep (C:Cfg) (call:CallV) (ops:Array Oper) (bsF:Nat→Nat) (m:Nat) (tm:Nat→List Value) (cur:Nat→Heap) (W:Nat→Option Nat) (i:Nat):Prop where
 low:bsF i < 2 ^ i
 go:∃ o M s',ops[i]? = some o∧MaskOk bsF m cur W i M∧stepOp C call ops o ⟨tm i,M⟩ = some s'∧tm (i + 1) = s'.tmps ∧
  cur (i + 1) = putW (cur i) s'.heap (W i)++s'.heap.drop (cur i).length∧(segOk (s'.heap.drop (cur i).length) || nload (St.ev ⟨tm i,M⟩) M o) = true∧holds M (W i) = true ∧
  (∀ t,.tmp t ∈ o.op.operands.toList→∀ j,j < m→mineT ops t j = true→(bsF i).testBit j = true ∨ (bsF j).testBit i = true) ∧
  (∀ g want,o.guard = some (g,want)→(bsF i).testBit g = true)
def QRaw (C:Cfg) (call:CallV) (ops:Array Oper) (qs:List (Oper × Nat)) (ws:List (Nat × Option Nat)) (n0:Nat) (q:Oper × Nat × Option Nat) (x y:List Value × Heap × List Nat):Prop:=
 looksOk qs q.1 q.2.1 x.2.2.length = true∧q.2.1 < 2 ^ x.2.2.length∧∃ s',
  stepOp C call ops q.1 ⟨x.1,maskGo ws q.2.2 q.2.1 x.2.2.length (List.replicate n0 true++visOf q.2.1 x.2.2 0) x.2.1 K0⟩ = some s' ∧
  holds (maskGo ws q.2.2 q.2.1 x.2.2.length (List.replicate n0 true++visOf q.2.1 x.2.2 0) x.2.1 K0) q.2.2 = true ∧
  (segOk (s'.heap.drop x.2.1.length) || nload (St.ev ⟨x.1,maskGo ws q.2.2 q.2.1 x.2.2.length (List.replicate n0 true++visOf q.2.1 x.2.2 0) x.2.1 K0⟩) (maskGo ws q.2.2 q.2.1 x.2.2.length (List.replicate n0 true++visOf q.2.1 x.2.2 0) x.2.1 K0) q.1) = true ∧
  y = (s'.tmps,putW x.2.1 s'.heap q.2.2++s'.heap.drop x.2.1.length,x.2.2++[(s'.heap.drop x.2.1.length).length])
theorem runQuiet_raw {call:CallV} {ops:Array Oper} {qs:List (Oper × Nat)} {ws:List (Nat × Option Nat)} {n0:Nat} :
  ∀ (os:List (Oper × Nat × Option Nat)) (tmps:List Value) (cur:Heap) (lens:List Nat) (T:List Value) (H:Heap),runQuiet C call ops qs ws n0 os tmps cur lens = some (T,H) →
   ∃ X:Nat→List Value × Heap × List Nat,X 0 = (tmps,cur,lens)∧(X os.length).1 = T∧(X os.length).2.1 = H ∧
    ∀ (i:Nat) (q:Oper × Nat × Option Nat),os[i]? = some q→QRaw C call ops qs ws n0 q (X i) (X (i + 1))
 | [],tmps,cur,lens,T,H,h=>by
   simp only [runQuiet,Option.some.injEq,Prod.mk.injEq] at h
   exact ⟨fun _=>(tmps,cur,lens),rfl,h.1,h.2,fun i q hq=>by simp at hq⟩
 | (o,b,w) :: os,tmps,cur,lens,T,H,h=>by
   simp only [runQuiet] at h
   split at h
   ·cases h
   ·rename_i hl
    simp only [Bool.and_eq_true] at hl
    split at h
    ·rename_i s' hs
     obtain ⟨X,h0,h1,h2,h3⟩:=runQuiet_raw os _ _ _ T H h
     refine ⟨fun i=>match i with | 0=>(tmps,cur,lens) | i + 1=>X i,rfl,by simpa using h1,by simpa using h2,fun i q hq=>?_⟩
     cases i with
     | zero=>
       simp only [List.getElem?_cons_zero,Option.some.injEq] at hq
       subst hq
       unfold quietStep at hs
       split at hs
       ·cases hs
       ·rename_i hh
        split at hs
        ·rename_i s1 hs1
         split at hs
         ·rename_i hseg
          cases hs
          exact ⟨hl.1,by simpa [Nat.blt_eq] using hl.2,s',hs1,hh,hseg,by simpa using h0⟩
         ·cases hs
        ·cases hs
     | succ i=>exact h3 i q (by simpa using hq)
    ·cases h
theorem visOf_snoc (b:Nat):∀ (l:List Nat) (x j:Nat),visOf b (l++[x]) j = visOf b l j++List.replicate x (b.testBit (j + l.length))
 | [],x,j=>by simp [visOf]
 | y :: l,x,j=>by
   simp only [List.cons_append,visOf,visOf_snoc b l x (j + 1),List.append_assoc,List.length_cons]
   congr 4
   omega
theorem maskGo_get (ws:List (Nat × Option Nat)) (w:Option Nat) (bi i:Nat):∀ (vs:List Bool) (os:Heap) (b k:Nat),
  (maskGo ws w bi i vs os b)[k]? = match vs[k]?,os[k]? with | some v,some o=>some (maskRow ws w bi i (b + k) v o) | _,_=>none
 | [],os,b,k=>by cases os <;> simp [maskGo]
 | v :: vs,[],b,k=>by simp [maskGo]
 | v :: vs,o :: os,b,k=>by
   cases k with
   | zero=>simp [maskGo]
   | succ k=>
     simp only [maskGo,List.getElem?_cons_succ,maskGo_get ws w bi i vs os (b + 1) k]
     rw [show b + 1 + k = b + (k + 1) by omega]
theorem maskGo_len (ws:List (Nat × Option Nat)) (w:Option Nat) (bi i:Nat):∀ (vs:List Bool) (os:Heap) (b:Nat),(maskGo ws w bi i vs os b).length = min vs.length os.length
 | [],os,b=>by cases os <;> simp [maskGo]
 | v :: vs,[],b=>by simp [maskGo]
 | v :: vs,o :: os,b=>by simp [maskGo,maskGo_len ws w bi i vs os (b + 1)]
theorem blkFree_spec {bi i b:Nat}:∀ (ws:List (Nat × Option Nat)) (j0:Nat),blkFree bi i b ws j0 = true →
  ∀ (j:Nat) (c:Nat) (w:Option Nat),ws[j]? = some (c,w)→isB w b = true→j0 + j = i ∨ bi.testBit (j0 + j) = true ∨ c.testBit i = true
 | [],j0,_,j,c,w,hj,_=>by simp at hj
 | (c0,w0) :: ws,j0,h,j,c,w,hj,hb=>by
   simp only [blkFree,Bool.and_eq_true] at h
   cases j with
   | zero=>
     simp only [List.getElem?_cons_zero,Option.some.injEq,Prod.mk.injEq] at hj
     obtain ⟨rfl,rfl⟩:=hj
     have:=h.1
     simp only [hb,Bool.not_true,Bool.false_or,Bool.or_eq_true] at this
     rcases this with (h1 | h1) | h1
     ·exact .inl (Nat.eq_of_beq_eq_true h1)
     ·exact .inr (.inl h1)
     ·exact .inr (.inr h1)
   | succ j=>
     have:=blkFree_spec ws (j0 + 1) h.2 j c w (by simpa using hj) hb
     rw [show j0 + (j + 1) = j0 + 1 + j by omega]
     exact this
theorem tmpFree_spec {b i:Nat} {t:Tmp}:∀ (qs:List (Oper × Nat)) (j0:Nat),tmpFree b i t qs j0 = true →
  ∀ (j:Nat) (o:Oper) (c:Nat),qs[j]? = some (o,c)→dstIs t o = true→b.testBit (j0 + j) = true ∨ c.testBit i = true
 | [],j0,_,j,c,w,hj,_=>by simp at hj
 | (o0,c0) :: qs,j0,h,j,o,c,hj,hb=>by
   simp only [tmpFree,Bool.and_eq_true] at h
   cases j with
   | zero=>
     simp only [List.getElem?_cons_zero,Option.some.injEq,Prod.mk.injEq] at hj
     obtain ⟨rfl,rfl⟩:=hj
     have:=h.1
     simpa [hb] using this
   | succ j=>
     have:=tmpFree_spec qs (j0 + 1) h.2 j o c (by simpa using hj) hb
     rw [show j0 + (j + 1) = j0 + 1 + j by omega]
     exact this
end
end Go.Am
namespace Go.Am
noncomputable section
open Go Go.RowKit
variable {C:Cfg} {base:Nat}
theorem isB_eq {w:Option Nat} {b:Nat}:isB w b = true ↔ w = some b:=by
 cases w with
 | none=>simp [isB]
 | some c=>simp only [isB,Option.some.injEq];exact ⟨Nat.eq_of_beq_eq_true,fun e=>by subst e;exact Nat.beq_refl _⟩
theorem slot_iff {cur:Nat→Heap} {j b:Nat}:slot cur j b = true ↔ K0 + (cur j).length ≤ b∧b < K0 + (cur (j + 1)).length:=by
 simp only [slot,Bool.and_eq_true,Nat.blt_eq]
 exact ⟨fun h=>⟨Nat.le_of_ble_eq_true h.1,h.2⟩,fun h=>⟨ble_t h.1,h.2⟩⟩
structure LensOk (X:Nat→List Value × Heap × List Nat) (n0 i:Nat):Prop where
 len:(X i).2.2.length = i
 vis:∀ b,(List.replicate n0 true++visOf b (X i).2.2 0).length = (X i).2.1.length
 at_:∀ (b k:Nat),(List.replicate n0 true++visOf b (X i).2.2 0)[k]? = some true→k < n0 ∨ ∃ j,j < i∧b.testBit j = true∧(X j).2.1.length ≤ k∧k < (X (j + 1)).2.1.length
theorem putW_length (a h:Heap) (w:Option Nat):(putW a h w).length = a.length:=by
 cases w <;> simp [putW,put_length]
theorem lens_ok {call:CallV} {ops:Array Oper} {qs:List (Oper × Nat)} {ws:List (Nat × Option Nat)} {os:List (Oper × Nat × Option Nat)} {X:Nat→List Value × Heap × List Nat} {n0:Nat}
  (h0:(X 0).2.2 = []) (hn:(X 0).2.1.length = n0) (hX:∀ (i:Nat) (q:Oper × Nat × Option Nat),os[i]? = some q→QRaw C call ops qs ws n0 q (X i) (X (i + 1))):∀ i,i ≤ os.length→LensOk X n0 i
 | 0,_=>⟨by simp [h0],fun b=>by simp [h0,visOf,hn],fun b k hk=>by
   rw [h0] at hk
   simp only [visOf,List.append_nil,List.getElem?_replicate] at hk
   split at hk
   ·left;assumption
   ·cases hk⟩
 | i + 1,hi=>by
   have ih:=lens_ok h0 hn hX i (by omega)
   obtain ⟨_,_,s',_,_,_,hy⟩:=hX i os[i] (by simp [show i < os.length by omega])
   have e1:(X (i + 1)).2.2 = (X i).2.2++[(s'.heap.drop (X i).2.1.length).length]:=by rw [hy]
   have e2:(X (i + 1)).2.1.length = (X i).2.1.length + (s'.heap.drop (X i).2.1.length).length:=by rw [hy];simp [putW_length]
   have ev:∀ b,List.replicate n0 true++visOf b (X (i + 1)).2.2 0 = (List.replicate n0 true++visOf b (X i).2.2 0)++List.replicate (s'.heap.drop (X i).2.1.length).length (b.testBit i):=fun b=>by
    rw [e1,visOf_snoc,ih.len];simp
   refine ⟨by rw [e1];simp [ih.len],fun b=>?_,fun b k hk=>?_⟩
   ·rw [ev,List.length_append,ih.vis,e2];simp
   ·rw [ev] at hk
    by_cases hlt:k < (X i).2.1.length
    ·rw [List.getElem?_append_left (by rw [ih.vis];exact hlt)] at hk
     rcases ih.at_ b k hk with h | ⟨j,h1,h2,h3,h4⟩
     ·exact .inl h
     ·exact .inr ⟨j,by omega,h2,h3,h4⟩
    ·rw [List.getElem?_append_right (by rw [ih.vis];omega),List.getElem?_replicate] at hk
     split at hk
     ·rename_i hl
      rw [ih.vis] at hl
      simp only [Option.some.injEq] at hk
      exact .inr ⟨i,by omega,hk,by omega,by omega⟩
     ·cases hk
theorem ro_alive {o:AObj} (h:o.ro.alive = true):o.alive = true:=by cases o <;> simp_all [AObj.ro,AObj.alive]
theorem ro_flag (o:AObj):o.ro.flag = false:=by cases o <;> rfl
theorem mask_ok {ws:List (Nat × Option Nat)} {bsF:Nat→Nat} {m:Nat} {cur:Nat→Heap} {W:Nat→Option Nat} {i:Nat} {vs:List Bool}
  (hws:∀ j,j < m→ws[j]? = some (bsF j,W j)) (hv:vs.length = (cur i).length)
  (hvis:∀ k,vs[k]? = some true→k < (cur 0).length ∨ ∃ j,j < i∧(bsF i).testBit j = true∧(cur j).length ≤ k∧k < (cur (j + 1)).length) :
  MaskOk bsF m cur W i (maskGo ws (W i) (bsF i) i vs (cur i) K0):=by
 have hlen:(maskGo ws (W i) (bsF i) i vs (cur i) K0).length = (cur i).length:=by rw [maskGo_len,hv];simp
 have hget:=maskGo_get ws (W i) (bsF i) i vs (cur i) K0
 generalize maskGo ws (W i) (bsF i) i vs (cur i) K0 = M at hlen hget ⊢
 have key:∀ b,(M.at b).alive = true→K0 ≤ b∧b < K0 + (cur i).length∧vs[b - K0]? = some true∧blkFree (bsF i) i b ws 0 = true ∧
   M.at b = (match isB (W i) b with | true=>(cur i).at b | false=>((cur i).at b).ro):=fun b hb=>by
  obtain ⟨h1,h2⟩:=at_lt hb
  rw [hlen] at h2
  have hk:b - K0 < (cur i).length:=by omega
  obtain ⟨v,hv'⟩:∃ v,vs[b - K0]? = some v:=⟨_,List.getElem?_eq_getElem (by omega)⟩
  obtain ⟨o,hc'⟩:∃ o,(cur i)[b - K0]? = some o:=⟨_,List.getElem?_eq_getElem hk⟩
  have hg:=hget (b - K0)
  rw [hv',hc'] at hg
  simp only at hg
  have hbb:K0 + (b - K0) = b:=by omega
  rw [hbb] at hg
  have hat1:M.at b = maskRow ws (W i) (bsF i) i b v o:=by
   rw [at_ge h1,List.getD_eq_getElem?_getD,hg];rfl
  have hat2:(cur i).at b = o:=by rw [at_ge h1,List.getD_eq_getElem?_getD,hc'];rfl
  rw [hat1] at hb ⊢
  rw [hat2]
  unfold maskRow at hb ⊢
  cases v with
  | false=>simp [AObj.alive] at hb
  | true=>
    cases hc:blkFree (bsF i) i b ws 0 with
    | false=>simp [hc,AObj.alive] at hb
    | true=>exact ⟨h1,h2,hv',rfl,rfl⟩
 refine ⟨hlen,fun b hb=>?_,fun b hb=>?_⟩
 ·obtain ⟨h1,h2,h3,h4,_⟩:=key b hb
  refine ⟨h1,h2,fun j hj hw=>?_,?_⟩
  ·have:=blkFree_spec ws 0 h4 j _ _ (hws j hj) hw
   simpa using this
  ·rcases hvis _ h3 with h | ⟨j,a,b',c,d⟩
   ·left;omega
   ·exact .inr ⟨j,a,b',slot_iff.2 ⟨by omega,by omega⟩⟩
 ·obtain ⟨_,_,_,_,h5⟩:=key b hb
  rw [h5]
  cases hw:isB (W i) b with
  | true=>exact .inl ⟨rfl,rfl⟩
  | false=>exact .inr rfl
end
end Go.Am
namespace Go.Am
noncomputable section
open Go Go.RowKit
variable {C:Cfg} {base:Nat}
section Fold
variable {α β:Type} (g:Array β→α→β)
theorem foldl_push_size:∀ (l:List α) (A:Array β),(l.foldl (fun acc o=>acc.push (g acc o)) A).size = A.size + l.length
 | [],A=>by simp
 | o :: l,A=>by simp only [List.foldl_cons];rw [foldl_push_size l];simp;omega
theorem foldl_push_old:∀ (l:List α) (A:Array β) (k:Nat),k < A.size→(l.foldl (fun acc o=>acc.push (g acc o)) A)[k]? = A[k]?
 | [],A,k,_=>rfl
 | o :: l,A,k,hk=>by
   simp only [List.foldl_cons]
   rw [foldl_push_old l _ k (by simp;omega),Array.getElem?_push_lt hk]
   simp [hk]
theorem foldl_push_at:∀ (l:List α) (A:Array β) (i:Nat) (o:α),l[i]? = some o →
  (l.foldl (fun acc o=>acc.push (g acc o)) A)[A.size + i]? = some (g ((l.take i).foldl (fun acc o=>acc.push (g acc o)) A) o)
 | [],A,i,o,h=>by simp at h
 | p :: l,A,i,o,h=>by
   cases i with
   | zero=>
     simp only [List.getElem?_cons_zero,Option.some.injEq] at h
     subst h
     simp only [List.foldl_cons,Nat.add_zero,List.take_zero,List.foldl_nil]
     rw [foldl_push_old g l _ _ (by simp)]
     simp
   | succ i=>
     have:=foldl_push_at l (A.push (g A p)) i o (by simpa using h)
     simp only [List.foldl_cons,List.take_succ_cons]
     rw [← this]
     congr 1
     simp;omega
end Fold
def bsFn (ops:Array Oper) (i:Nat):Nat:=(CheckFast.beforeL ops.toList 0 []).getD i 0
def oneOf (acc:Array Nat) (o:Oper):Nat:=o.after.foldl (fun s e=>if Region.binds .any e then s ||| 2 ^ e.on ||| acc.getD e.on 0 else s) 0
theorem beforeL_list (ops:Array Oper):CheckFast.beforeL ops.toList 0 [] = (ops.toList.foldl (fun acc o=>acc.push (oneOf acc o)) #[]).toList:=by
 have h:=CheckFast.beforeF_eq ops
 unfold CheckFast.beforeF Region.before at h
 rw [← Array.foldl_toList] at h
 have h2:=congrArg Array.toList h
 rw [List.toList_toArray] at h2
 exact h2
theorem beforeL_length (ops:Array Oper):(CheckFast.beforeL ops.toList 0 []).length = ops.size:=by
 rw [beforeL_list]
 have:=foldl_push_size oneOf ops.toList #[]
 simpa using this
theorem bsFn_at {ops:Array Oper} {i:Nat} {o:Oper} (ho:ops[i]? = some o) :
  ∃ acc:Array Nat,bsFn ops i = oneOf acc o∧∀ e,acc.getD e 0 = if e < i then bsFn ops e else 0:=by
 refine ⟨(ops.toList.take i).foldl (fun acc o=>acc.push (oneOf acc o)) #[],?_,fun e=>?_⟩
 ·have:=foldl_push_at oneOf ops.toList #[] i o (by simpa using ho)
  simp only [Array.size_empty,Nat.zero_add] at this
  unfold bsFn
  rw [beforeL_list,List.getD_eq_getElem?_getD,Array.getElem?_toList,this]
  rfl
 ·have hi:i < ops.size:=(Array.getElem?_eq_some_iff.1 ho).1
  have hs:((ops.toList.take i).foldl (fun acc o=>acc.push (oneOf acc o)) #[]).size = i:=by
   rw [foldl_push_size];simp;omega
  split
  ·rename_i h
   have hd:ops.toList.foldl (fun acc o=>acc.push (oneOf acc o)) #[] = (ops.toList.drop i).foldl (fun acc o=>acc.push (oneOf acc o)) ((ops.toList.take i).foldl (fun acc o=>acc.push (oneOf acc o)) #[]):=by
    rw [← List.foldl_append,List.take_append_drop]
   unfold bsFn
   rw [beforeL_list,List.getD_eq_getElem?_getD,Array.getElem?_toList,hd,foldl_push_old oneOf _ _ e (by rw [hs];exact h),Array.getD_eq_getD_getElem?]
  ·rename_i h
   rw [Array.getD_eq_getD_getElem?,Array.getElem?_eq_none (by rw [hs];omega)]
   rfl
theorem or_fold_bit {ε:Type} (p:ε→Bool) (x:ε→Nat) (j:Nat):∀ (l:List ε) (s:Nat),(l.foldl (fun s e=>if p e then s ||| x e else s) s).testBit j = true →
  s.testBit j = true ∨ ∃ e ∈ l,p e = true∧(x e).testBit j = true
 | [],s,h=>.inl h
 | e :: l,s,h=>by
   simp only [List.foldl_cons] at h
   rcases or_fold_bit p x j l _ h with h1 | ⟨e',he,hp,hx⟩
   ·split at h1
    ·rename_i hp
     rw [Nat.testBit_or,Bool.or_eq_true] at h1
     rcases h1 with h1 | h1
     ·exact .inl h1
     ·exact .inr ⟨e,by simp,hp,h1⟩
    ·exact .inl h1
   ·exact .inr ⟨e',by simp [he],hp,hx⟩
theorem bsFn_bit {ops:Array Oper} {i j:Nat} {o:Oper} (ho:ops[i]? = some o) (h:(bsFn ops i).testBit j = true) :
  ∃ e ∈ o.after,Region.binds .any e = true∧(j = e.on ∨ (bsFn ops e.on).testBit j = true):=by
 obtain ⟨acc,h1,h2⟩:=bsFn_at ho
 rw [h1] at h
 unfold oneOf at h
 rw [← Array.foldl_toList] at h
 have h':(o.after.toList.foldl (fun s e=>if Region.binds .any e then s ||| (2 ^ e.on ||| acc.getD e.on 0) else s) 0).testBit j = true:=by
  have e:(fun (s:Nat) (e:Edge)=>if Region.binds .any e then s ||| (2 ^ e.on ||| acc.getD e.on 0) else s) = fun s e=>if Region.binds .any e then s ||| 2 ^ e.on ||| acc.getD e.on 0 else s:=by
   funext s e;rw [Nat.or_assoc]
  rw [e];exact h
 rcases or_fold_bit _ _ j _ _ h' with h3 | ⟨e,he,hp,hx⟩
 ·simp at h3
 ·refine ⟨e,by simpa using he,hp,?_⟩
  rw [Nat.testBit_or,Bool.or_eq_true,h2] at hx
  rcases hx with hx | hx
  ·rw [Nat.testBit_two_pow] at hx
   exact .inl (by simpa using hx:e.on = j).symm
  ·split at hx
   ·exact .inr hx
   ·simp at hx
def Closed (ops:Array Oper) (S:Nat→Bool):Prop:=∀ i j,S i = true→(bsFn ops i).testBit j = true→S j = true
theorem ready_closed {ops:Array Oper} {listed:Array Bool} (hc:Closed ops (fun j=>listed.getD j false)) {i:Nat} (hi:i ∈ Region.ready .any ops listed) :
  i < listed.size∧listed.getD i false = false∧∃ o,ops[i]? = some o∧∀ j,(bsFn ops i).testBit j = true→listed.getD j false = true:=by
 obtain ⟨h0,o,ho,hall⟩:=mem_ready.1 hi
 have hlt:i < listed.size:=by
  rcases Nat.lt_or_ge i listed.size with h | h
  ·exact h
  ·simp [Array.getD_eq_getD_getElem?,Array.getElem?_eq_none h] at h0
 refine ⟨hlt,?_,o,ho,fun j hj=>?_⟩
 ·simp [Array.getD_eq_getD_getElem?,hlt] at h0 ⊢;exact h0
 ·obtain ⟨e,he,hb,h⟩:=bsFn_bit ho hj
  have:=hall e he hb
  rcases h with rfl | h
  ·exact this
  ·exact hc e.on j this h
theorem listed_set {listed:Array Bool} {i:Nat} (hi:i < listed.size):(fun j=>(listed.setIfInBounds i true).getD j false) = addS (fun j=>listed.getD j false) i:=by
 funext j
 by_cases e:j = i
 ·subst e;rw [addS_self];simp [Array.getD_eq_getD_getElem?,hi]
 ·rw [addS_ne _ e];simp [Array.getD_eq_getD_getElem?,Ne.symm e]
theorem Closed.add {ops:Array Oper} {S:Nat→Bool} (h:Closed ops S) {i:Nat} (hi:∀ j,(bsFn ops i).testBit j = true→S j = true):Closed ops (addS S i):=fun k j hk hj=>by
 have hS:S j = true:=by
  by_cases e:k = i
  ·subst e;exact hi j hj
  ·rw [addS_ne S e] at hk;exact h k j hk hj
 by_cases e:j = i
 ·subst e;exact addS_self ..
 ·rw [addS_ne S e];exact hS
structure Trace (C:Cfg) (call:CallV) (ops:Array Oper) (s s':St) (m:Nat) (tm:Nat→List Value) (cur:Nat→Heap) (W:Nat→Option Nat):Prop where
 le:m ≤ ops.size
 t0:tm 0 = s.tmps
 c0:cur 0 = s.heap
 step:∀ i,i < m→QStep C call ops (bsFn ops) m tm cur W i
 one:∀ t j j',j < m→j' < m→mineT ops t j = true→mineT ops t j' = true→j = j'
 tail:∀ k,m ≤ k→k < ops.size→bsFn ops k = 2 ^ k - 1
 run:runOps C call ops (ops.toList.drop m) ⟨tm m,cur m⟩ = some s'
theorem quietLen_spec:∀ (bs:List Nat) (k m:Nat),m ≤ k→quietLen bs k m ≤ k + bs.length∧m ≤ quietLen bs k m∧∀ j,quietLen bs k m ≤ k + j→j < bs.length→bs.getD j 0 = 2 ^ (k + j) - 1
 | [],k,m,h=>by simp [quietLen];omega
 | b :: bs,k,m,h=>by
   simp only [quietLen]
   cases hb:Nat.beq b (2 ^ k - 1) with
   | true=>
     have ih:=quietLen_spec bs (k + 1) m (by omega)
     refine ⟨by simp only [List.length_cons];omega,ih.2.1,fun j hj hl=>?_⟩
     cases j with
     | zero=>simpa using Nat.eq_of_beq_eq_true hb
     | succ j=>
       have:=ih.2.2 j (by simp only at hj;omega) (by simpa using hl)
       rw [show k + (j + 1) = k + 1 + j by omega,← this]
       simp
   | false=>
     have ih:=quietLen_spec bs (k + 1) (k + 1) (by omega)
     refine ⟨by simp only [List.length_cons];omega,by simp only;omega,fun j hj hl=>?_⟩
     cases j with
     | zero=>simp only at hj;omega
     | succ j=>
       have:=ih.2.2 j (by simp only at hj;omega) (by simpa using hl)
       rw [show k + (j + 1) = k + 1 + j by omega,← this]
       simp
theorem dstsApart_spec {t:Tmp}:∀ (l:List Oper),dstsApart l = true→∀ (j j':Nat) (o o':Oper),l[j]? = some o→l[j']? = some o'→dstIs t o = true→dstIs t o' = true→j = j'
 | [],_,j,_,o,_,h,_,_,_=>by simp at h
 | p :: l,h,j,j',o,o',hj,hj',ht,ht'=>by
   simp only [dstsApart,Bool.and_eq_true] at h
   have key:∀ (q q':Oper),(match q.dst with | some d=>l.all (fun p=>!dstIs d p) | none=>true) = true→dstIs t q = true→q' ∈ l→dstIs t q' = true→False:=fun q q' h1 h2 h3 h4=>by
    unfold dstIs at h2
    cases hd:q.dst with
    | none=>simp [hd] at h2
    | some d=>
      simp only [hd] at h1 h2
      have:=Nat.eq_of_beq_eq_true h2
      subst this
      have:=List.all_eq_true.1 h1 q' h3
      simp [h4] at this
   cases j with
   | zero=>
     cases j' with
     | zero=>rfl
     | succ j'=>
       simp only [List.getElem?_cons_zero,Option.some.injEq,List.getElem?_cons_succ] at hj hj'
       subst hj
       exact (key _ _ h.1 ht (List.mem_of_getElem? hj') ht').elim
   | succ j=>
     cases j' with
     | zero=>
       simp only [List.getElem?_cons_zero,Option.some.injEq,List.getElem?_cons_succ] at hj hj'
       subst hj'
       exact (key _ _ h.1 ht' (List.mem_of_getElem? hj) ht).elim
     | succ j'=>
       simp only [List.getElem?_cons_succ] at hj hj'
       rw [dstsApart_spec l h.2 j j' o o' hj hj' ht ht']
theorem draw_trace {call:CallV} {ops:Array Oper} {ws:List (Option Nat)} {s s':St} (h:drawIn C call ops ws s = some s'):∃ m tm cur W,Trace C call ops s s' m tm cur W:=by
 unfold drawIn at h
 simp only at h
 generalize hbs:CheckFast.beforeL ops.toList 0 [] = bs at h
 have hbl:bs.length = ops.size:=by rw [← hbs];exact beforeL_length ops
 generalize hm:quietLen bs 0 0 = m at h
 obtain ⟨q1,_,q3⟩:=quietLen_spec bs 0 0 (Nat.le_refl _)
 rw [hm] at q1 q3
 have hmle:m ≤ ops.size:=by omega
 split at h
 ·cases h
 rename_i hd
 simp only [Bool.and_eq_true] at hd
 have hwl:ws.length = m:=by
  have:=Nat.eq_of_beq_eq_true hd.2
  rw [this];simp;omega
 split at h
 ·rename_i T H hq
  obtain ⟨X,x0,x1,x2,x3⟩:=runQuiet_raw _ _ _ _ _ _ hq
  have hlen:((ops.toList.take m).zip (bs.zip ws)).length = m:=by simp;omega
  rw [hlen] at x1 x2
  have hbF:∀ i,i < m→bs[i]? = some (bsFn ops i):=fun i hi=>by
   unfold bsFn;rw [hbs,List.getD_eq_getElem?_getD,List.getElem?_eq_getElem (by omega)];rfl
  have hW:∀ i,i < m→(bs.zip ws)[i]? = some (bsFn ops i,ws.getD i none):=fun i hi=>by
   rw [List.getElem?_zip_eq_some]
   refine ⟨hbF i hi,?_⟩
   rw [List.getD_eq_getElem?_getD,List.getElem?_eq_getElem (by omega)];rfl
  have hops:∀ (i:Nat) (o:Oper),i < m→ops[i]? = some o→(ops.toList.take m)[i]? = some o:=fun i o hi ho=>by
   rw [List.getElem?_take,if_pos hi];simpa using ho
  have hex:∀ i,i < m→∃ o,ops[i]? = some o:=fun i hi=>⟨ops[i]'(by omega),by simp [show i < ops.size by omega]⟩
  have hLens:=lens_ok (os:=(ops.toList.take m).zip (bs.zip ws)) (X:=X) (n0:=s.heap.length) (by rw [x0]) (by rw [x0]) x3
  refine ⟨m,fun i=>(X i).1,fun i=>(X i).2.1,fun i=>ws.getD i none,hmle,by simp only [x0],by simp only [x0],fun i hi=>?_,fun t j j' hj hj' h1 h2=>?_,fun k hk1 hk2=>?_,?_⟩
  ·obtain ⟨o,ho⟩:=hex i hi
   have hL:=hLens i (by rw [hlen];omega)
   have hz:((ops.toList.take m).zip (bs.zip ws))[i]? = some (o,bsFn ops i,ws.getD i none):=by
    rw [List.getElem?_zip_eq_some];exact ⟨hops i o hi ho,hW i hi⟩
   obtain ⟨r1,r2,s1,r3,r4,r5,r6⟩:=x3 i _ hz
   simp only [hL.len] at r1 r2 r3 r4 r5
   have hmask:=mask_ok (ws:=bs.zip ws) (bsF:=bsFn ops) (m:=m) (cur:=fun i=>(X i).2.1) (W:=fun i=>ws.getD i none) (i:=i)
    (vs:=List.replicate s.heap.length true++visOf (bsFn ops i) (X i).2.2 0) hW (hL.vis _) (fun k hk=>by
     have:=hL.at_ _ k hk
     simpa [x0] using this)
   refine ⟨r2,o,_,s1,ho,hmask,r3,by rw [r6],by rw [r6],r5,r4,fun t ht j hj hmt=>?_,fun g want hg=>?_⟩
   ·simp only [looksOk,Bool.and_eq_true] at r1
    have:=List.all_eq_true.1 r1.1 _ ht
    simp only at this
    unfold mineT at hmt
    obtain ⟨oj,hoj⟩:=hex j hj
    simp only [hoj] at hmt
    have:=tmpFree_spec _ 0 this j oj (bsFn ops j) (by rw [List.getElem?_zip_eq_some];exact ⟨hops j oj hj hoj,hbF j hj⟩) hmt
    simpa using this
   ·simp only [looksOk,Bool.and_eq_true] at r1
    have:=r1.2
    simp only [hg] at this
    exact this
  ·obtain ⟨o,ho⟩:=hex j hj
   obtain ⟨o',ho'⟩:=hex j' hj'
   simp only [mineT,ho,ho'] at h1 h2
   exact dstsApart_spec _ hd.1 j j' o o' (hops j o hj ho) (hops j' o' hj' ho') h1 h2
  ·have:=q3 k (by omega) (by omega)
   simp only [Nat.zero_add] at this
   unfold bsFn;rw [hbs];exact this
  ·simp only [x1,x2];exact h
 ·cases h
end
end Go.Am
namespace Go.Am
noncomputable section
open Go Go.RowKit
variable {C:Cfg} {base:Nat}
def Sc (n:Nat) (v:Value):Prop:=∃ (r1:Ren) (u:Value),(∀ i t,r1 i = some t→i < n)∧VR r1 v u
def ScO (n:Nat):AObj→Prop
 | .row cells _ _=>∀ c ∈ cells,Sc n c
 | .map es _=>∀ e ∈ es.list,Sc n e.2
 | _=>True
theorem Sc.mono {n n':Nat} (h:n ≤ n') {v:Value} (hv:Sc n v):Sc n' v:=
 let ⟨r1,u,a,b⟩:=hv;⟨r1,u,fun i t hi=>Nat.lt_of_lt_of_le (a i t hi) h,b⟩
theorem ScO.mono {n n':Nat} (h:n ≤ n') {o:AObj} (ho:ScO n o):ScO n' o:=by
 cases o with
 | row c o m=>exact fun x hx=>(ho x hx).mono h
 | map es o=>exact fun x hx=>(ho x hx).mono h
 | _=>trivial
theorem ScO.of_obj {r:Ren} {w:World} {t:Tgt} {n:Nat} (hd:∀ i t,r i = some t→i < n) {o:AObj} (h:ObjR r w t o):ScO n o:=by
 cases o with
 | row c o m=>
   intro x hx
   obtain ⟨j,hj,rfl⟩:=List.getElem_of_mem hx
   obtain ⟨u,_,hv⟩:=h.2.1 j c[j] (by simp [hj])
   exact ⟨r,u,hd,hv⟩
 | map es o=>
   intro x hx
   obtain ⟨j,hj,rfl⟩:=List.getElem_of_mem hx
   obtain ⟨ents,clk,_,_,h3⟩:=h
   obtain ⟨_,e,_,_,hv⟩:=h3 j es.list[j].1 es.list[j].2 (by simp [hj])
   exact ⟨r,e.val,hd,hv⟩
 | _=>trivial
def Ren.upto (r:Ren) (n:Nat):Ren:=fun i=>if i < n then r i else none
theorem Ren.upto_le (r:Ren) (n:Nat):Ren.le (r.upto n) r:=fun i t h=>by
 unfold Ren.upto at h;split at h
 ·exact h
 ·cases h
theorem VR.upto {r:Ren} {n:Nat} {v u:Value} (h:VR r v u) (hs:Sc n v):VR (r.upto n) v u:=
 let ⟨_,_,hd,h1⟩:=hs;h.cut hd h1
def AObj.flat:AObj→Bool
 | .row .. | .map .. | .vec ..=>true
 | _=>false
theorem ObjR.upto {r:Ren} {w:World} {t:Tgt} {n:Nat} {o:AObj} (hf:o.flat = true) (hs:ScO n o) (h:ObjR r w t o):ObjR (r.upto n) w t o:=by
 cases o with
 | row c o m=>
   exact ⟨h.1,fun j x hx=>let ⟨u,a,b⟩:=h.2.1 j x hx;⟨u,a,b.upto (hs x (List.mem_of_getElem? hx))⟩,h.2.2⟩
 | map es o=>
   obtain ⟨ents,clk,h1,h2,h3⟩:=h
   exact ⟨ents,clk,h1,h2,fun j k v hj=>let ⟨a,e,b,c,d⟩:=h3 j k v hj;⟨a,e,b,c,d.upto (hs (k,v) (List.mem_of_getElem? hj))⟩⟩
 | vec ks l ow=>exact h
 | _=>simp [AObj.flat] at hf
theorem ObjR.ro {r:Ren} {w:World} {t:Tgt} {o:AObj} (h:ObjR r w t o):ObjR r w t o.ro:=by
 cases o with
 | row c o m=>exact ⟨h.1,h.2.1,fun hh=>by cases hh⟩
 | map es o=>exact h
 | vec ks l ow=>exact ⟨h.1,h.2.1,h.2.2.1,fun hn=>⟨(h.2.2.2 hn).1,(h.2.2.2 hn).2.1,fun hh=>by cases hh⟩⟩
 | _=>trivial
theorem ScO.ro {n:Nat} {o:AObj} (h:ScO n o):ScO n o.ro:=by
 cases o <;> exact h
theorem ro_flat {o:AObj} (h:o.ro.alive = true):o.ro.flat = true:=by cases o <;> simp_all [AObj.ro,AObj.alive,AObj.flat]
theorem sole_flat {o:AObj} (h:soleOwn o = true):o.flat = true∧o.flag = true∧o.mate = none∧o.alive = true:=by
 unfold soleOwn at h
 split at h <;> simp_all [AObj.flat,AObj.flag,AObj.mate,AObj.alive]
theorem mask_hr {G:Gl} {GB:Nat} {r:Ren} {hS:Heap} {w:World} (H:HR G GB r hS w) {bsF:Nat→Nat} {m:Nat} {cur:Nat→Heap} {W:Nat→Option Nat} {i:Nat} {M:Heap}
  (mk:MaskOk bsF m cur W i M) (hold:holds M (W i) = true) (heq:∀ b,(M.at b).alive = true→hS.at b = (cur i).at b)
  (hsc:∀ b,(M.at b).alive = true→ScO (K0 + (cur i).length) ((cur i).at b)):HR G GB (r.upto (K0 + (cur i).length)) M w ∧
   (∀ b,(M.at b).flag = true→W i = some b∧hS.at b = M.at b∧(hS.at b).mate = none):=by
 have own:∀ b,(M.at b).flag = true→W i = some b∧hS.at b = M.at b∧(hS.at b).mate = none:=fun b hb=>by
  have hal:=AObj.alive_of_flag hb
  rcases mk.con b hal with ⟨h1,h2⟩ | h1
  ·have hw:=isB_eq.1 h1
   refine ⟨hw,by rw [heq b hal,h2],?_⟩
   rw [hw] at hold
   rw [heq b hal,← h2]
   exact (sole_flat hold).2.2.1
  ·rw [h1,ro_flag] at hb;cases hb
 have hSal:∀ b,(M.at b).alive = true→(hS.at b).alive = true:=fun b hb=>by
  rw [heq b hb]
  rcases mk.con b hb with ⟨_,h2⟩ | h1
  ·rw [← h2];exact hb
  ·rw [h1] at hb;exact ro_alive hb
 refine ⟨⟨fun b t hb=>?_,fun b hb=>?_,fun b b' t t' hb hb' ht ht' he=>?_,H.glob,H.gb,fun b t hb ht=>?_,fun b t hb ht k hk=>
  let ⟨x,y⟩:=H.frz b t (hSal b hb) (Ren.upto_le _ _ _ _ ht) k hk;⟨x,fun ⟨b',t',hb',ht',he⟩=>y ⟨b',t',(own b' (AObj.flag_of_owned hb')).2.1 ▸ hb',Ren.upto_le _ _ _ _ ht',he⟩⟩⟩,own⟩
 ·unfold Ren.upto at hb
  split at hb
  ·rename_i hlt;rw [mk.len];exact ⟨(H.dom b t hb).1,hlt⟩
  ·cases hb
 ·obtain ⟨t,ht,hlt,hob⟩:=H.obj b (hSal b hb)
  obtain ⟨v1,v2,_⟩:=mk.vis b hb
  refine ⟨t,by unfold Ren.upto;rw [if_pos v2];exact ht,hlt,?_⟩
  rw [heq b hb] at hob
  have hs:=hsc b hb
  rcases mk.con b hb with ⟨h1,h2⟩ | h1
  ·have hw:=isB_eq.1 h1
   rw [hw] at hold
   have hfl:=(sole_flat hold).1
   rw [← h2] at hob hs
   exact hob.upto hfl hs
  ·rw [h1]
   rw [h1] at hb
   exact hob.ro.upto (ro_flat hb) hs.ro
 ·obtain ⟨h1,h2,h3⟩:=own b (AObj.flag_of_owned hb)
  rcases H.exc b b' t t' (by rw [h2];exact hb) (hSal b' hb') (Ren.upto_le _ _ _ _ ht) (Ren.upto_le _ _ _ _ ht') he with e | e
  ·exact .inl e
  ·rw [h3] at e;cases e.1
 ·obtain ⟨h1,h2,h3⟩:=own b (AObj.flag_of_owned hb)
  exact H.own b t (by rw [h2];exact hb) (Ren.upto_le _ _ _ _ ht)
def cS (cur:Nat→Heap) (W:Nat→Option Nat) (m:Nat) (S:Nat→Bool) (b:Nat):AObj:=lw (fun j=>(cur j).at b) (mineB cur W b) S m
def cT (ops:Array Oper) (tm:Nat→List Value) (m:Nat) (S:Nat→Bool) (t:Tmp):Option Value:=lw (fun j=>(tm j)[t]?) (mineT ops t) S m
def hOf (cur:Nat→Heap) (W:Nat→Option Nat) (m:Nat) (S:Nat→Bool):Heap:=(List.range (cur m).length).map fun k=>cS cur W m S (K0 + k)
theorem hOf_len (cur:Nat→Heap) (W:Nat→Option Nat) (m:Nat) (S:Nat→Bool):(hOf cur W m S).length = (cur m).length:=by simp [hOf]
theorem lw_mem {α:Type} {val:Nat→α} {mine S:Nat→Bool}:∀ m,∃ k,k ≤ m∧lw val mine S m = val k
 | 0=>⟨0,Nat.le_refl _,rfl⟩
 | m + 1=>by
   simp only [lw]
   split
   ·exact ⟨m + 1,Nat.le_refl _,rfl⟩
   ·obtain ⟨k,h1,h2⟩:=lw_mem (val:=val) (mine:=mine) (S:=S) m
    exact ⟨k,by omega,h2⟩
section T
variable {call:CallV} {ops:Array Oper} {s s':St} {m:Nat} {tm:Nat→List Value} {cur:Nat→Heap} {W:Nat→Option Nat}
theorem Trace.len_le (T:Trace C call ops s s' m tm cur W):∀ (k i:Nat),i + k ≤ m→(cur i).length ≤ (cur (i + k)).length
 | 0,i,_=>Nat.le_refl _
 | k + 1,i,h=>by
   obtain ⟨_,o,M,s1,_,_,_,_,h1,_⟩:=T.step (i + k) (by omega)
   have:=T.len_le k i (by omega)
   rw [show i + (k + 1) = i + k + 1 by omega,h1]
   simp [putW_length];omega
theorem Trace.len_mono (T:Trace C call ops s s' m tm cur W) {i j:Nat} (h:i ≤ j) (hj:j ≤ m):(cur i).length ≤ (cur j).length:=by
 have:=T.len_le (j - i) i (by omega)
 rwa [show i + (j - i) = j by omega] at this
theorem hOf_at (T:Trace C call ops s s' m tm cur W) (S:Nat→Bool) (b:Nat):(hOf cur W m S).at b = cS cur W m S b:=by
 by_cases h1:K0 ≤ b
 ·by_cases h2:b < K0 + (cur m).length
  ·rw [at_ge h1,List.getD_eq_getElem?_getD]
   unfold hOf
   rw [List.getElem?_map,List.getElem?_range (by omega)]
   simp only [Option.map_some,Option.getD_some]
   rw [show K0 + (b - K0) = b by omega]
  ·obtain ⟨k,hk,he⟩:=lw_mem (val:=fun j=>(cur j).at b) (mine:=mineB cur W b) (S:=S) m
   rw [cS,he,at_ge h1,at_ge h1,List.getD_eq_getElem?_getD,List.getD_eq_getElem?_getD,List.getElem?_eq_none (by rw [hOf_len];omega),
    List.getElem?_eq_none (by have:=T.len_mono hk (Nat.le_refl _);omega)]
 ·obtain ⟨k,hk,he⟩:=lw_mem (val:=fun j=>(cur j).at b) (mine:=mineB cur W b) (S:=S) m
  rw [cS,he,at_small h1,at_small h1]
theorem at_append_lo (a c:Heap) {b:Nat} (h:b < K0 + a.length):Heap.at (a++c) b = a.at b:=by
 by_cases h1:K0 ≤ b
 ·rw [at_ge h1,at_ge h1,List.getD_eq_getElem?_getD,List.getD_eq_getElem?_getD,List.getElem?_append_left (by omega)]
 ·rw [at_small h1,at_small h1]
theorem at_over (a:Heap) {b:Nat} (h:K0 + a.length ≤ b):Heap.at a b = .dead:=by
 rw [at_ge (by omega),List.getD_eq_getElem?_getD,List.getElem?_eq_none (by omega)];rfl
theorem at_putW_no {a h:Heap} {w:Option Nat} {b:Nat} (hw:isB w b = false):(putW a h w).at b = a.at b:=by
 cases w with
 | none=>rfl
 | some c=>
   have hne:b ≠ c:=fun e=>by subst e;rw [isB_eq.2 rfl] at hw;cases hw
   simp only [putW]
   by_cases hc:K0 ≤ c
   ·by_cases hl:c < K0 + a.length
    ·rw [at_put hc hl,if_neg hne]
    ·rw [put_ge hc,List.set_eq_of_length_le (by omega)]
   ·rw [put_small hc]
theorem Trace.frameB (T:Trace C call ops s s' m tm cur W) (b k:Nat) (hk:k < m) (hm:mineB cur W b k = false):(cur (k + 1)).at b = (cur k).at b:=by
 obtain ⟨_,o,M,s1,_,_,_,_,h1,_⟩:=T.step k hk
 simp only [mineB,Bool.or_eq_false_iff] at hm
 by_cases hl:b < K0 + (cur k).length
 ·rw [h1,at_append_lo _ _ (by rw [putW_length];exact hl),at_putW_no hm.1]
 ·have:¬ b < K0 + (cur (k + 1)).length:=fun h=>by
   have:=slot_iff.2 ⟨Nat.le_of_not_lt hl,h⟩
   rw [hm.2] at this;cases this
  rw [at_over _ (by omega),at_over _ (by omega)]
theorem putT_get {tmps:List Value} {o:Oper} {t:Tmp} (h:dstIs t o = false) (v:Value):(putT tmps o.dst v)[t]? = tmps[t]?:=by
 unfold dstIs at h
 cases hd:o.dst with
 | none=>rfl
 | some d=>
   simp only [hd] at h
   have:d ≠ t:=fun e=>by subst e;rw [Nat.beq_refl] at h;cases h
   simp [putT,setR_eq,this]
theorem stepOp_put {o:Oper} {x y:St} (h:stepOp C call ops o x = some y):∃ v,y.tmps = putT x.tmps o.dst v:=by
 unfold stepOp at h
 simp only [crisp_eq] at h
 split at h
 ·split at h
  ·cases h;exact ⟨_,rfl⟩
  ·cases h
 ·cases h;exact ⟨_,rfl⟩
 ·cases h
theorem Trace.frameT (T:Trace C call ops s s' m tm cur W) (t:Tmp) (k:Nat) (hk:k < m) (hm:mineT ops t k = false):(tm (k + 1))[t]? = (tm k)[t]?:=by
 obtain ⟨_,o,M,s1,ho,_,hs,h1,_⟩:=T.step k hk
 simp only [mineT,ho] at hm
 obtain ⟨v,hv⟩:=stepOp_put hs
 rw [h1,hv]
 exact putT_get hm v
theorem Trace.tlen (T:Trace C call ops s s' m tm cur W):∀ k,k ≤ m→(tm k).length = s.tmps.length
 | 0,_=>by rw [T.t0]
 | k + 1,hk=>by
   obtain ⟨_,o,M,s1,ho,_,hs,h1,_⟩:=T.step k (by omega)
   obtain ⟨v,hv⟩:=stepOp_put hs
   rw [h1,hv,← T.tlen k (by omega)]
   unfold putT;split <;> simp [setR_eq]
theorem lt_of_bit {x i j:Nat} (h:x < 2 ^ i) (hb:x.testBit j = true):j < i:=by
 rcases Nat.lt_or_ge j i with h1 | h1
 ·exact h1
 ·rw [Nat.testBit_lt_two_pow (Nat.lt_of_lt_of_le h (Nat.pow_le_pow_right (by decide) h1))] at hb;cases hb
theorem slot_apart (T:Trace C call ops s s' m tm cur W) {j j' b:Nat} (hj:j < m) (hj':j' < m) (h:slot cur j b = true) (h':slot cur j' b = true):j = j':=by
 rw [slot_iff] at h h'
 rcases Nat.lt_trichotomy j j' with e | e | e
 ·have:=T.len_mono (i:=j + 1) (j:=j') (by omega) (by omega);omega
 ·exact e
 ·have:=T.len_mono (i:=j' + 1) (j:=j) (by omega) (by omega);omega
theorem Trace.seeT (T:Trace C call ops s s' m tm cur W) {S:Nat→Bool} (hc:Closed ops S) {i:Nat} (hi:i < m) (hS:S i = false) (hb:∀ j,(bsFn ops i).testBit j = true→S j = true) {t:Tmp}
  (h:∀ j,j < m→mineT ops t j = true→(bsFn ops i).testBit j = true ∨ (bsFn ops j).testBit i = true):cT ops tm m S t = (tm i)[t]?:=by
 refine lw_at (fun k hk hm=>T.frameT t k hk hm) (fun j hj hm=>?_) (fun j h1 h2 hm=>?_) (by omega)
 ·rcases h j (by omega) hm with h1 | h1
  ·exact hb j h1
  ·have:=lt_of_bit (T.step j (by omega)).low h1;omega
 ·rcases h j h2 hm with h3 | h3
  ·have:=lt_of_bit (T.step i hi).low h3;omega
  ·cases hSj:S j with
   | false=>rfl
   | true=>rw [hc j i hSj h3] at hS;cases hS
theorem Trace.seeB (T:Trace C call ops s s' m tm cur W) {S:Nat→Bool} (hc:Closed ops S) {i:Nat} (hi:i < m) (hS:S i = false) (hb:∀ j,(bsFn ops i).testBit j = true→S j = true) {b:Nat}
  (h1:∀ j,j < m→isB (W j) b = true→j = i ∨ (bsFn ops i).testBit j = true ∨ (bsFn ops j).testBit i = true)
  (h2:b < K0 + (cur 0).length ∨ ∃ j,j < i∧(bsFn ops i).testBit j = true∧slot cur j b = true) :
  (∀ j,j < i→mineB cur W b j = true→S j = true)∧(∀ j,i ≤ j→j < m→mineB cur W b j = true→S j = false):=by
 have hslot:∀ j,j < m→slot cur j b = true→j < i∧S j = true:=fun j hj hs=>by
  rcases h2 with h2 | ⟨j0,a,b',c⟩
  ·have:=slot_iff.1 hs
   have:=T.len_mono (i:=0) (j:=j) (by omega) (by omega);omega
  ·have:=slot_apart T hj (by omega) hs c
   subst this;exact ⟨a,hb _ b'⟩
 refine ⟨fun j hj hm=>?_,fun j hj1 hj2 hm=>?_⟩
 ·simp only [mineB,Bool.or_eq_true] at hm
  rcases hm with hm | hm
  ·rcases h1 j (by omega) hm with e | e | e
   ·omega
   ·exact hb j e
   ·have:=lt_of_bit (T.step j (by omega)).low e;omega
  ·exact (hslot j (by omega) hm).2
 ·simp only [mineB,Bool.or_eq_true] at hm
  rcases hm with hm | hm
  ·rcases h1 j hj2 hm with e | e | e
   ·subst e;exact hS
   ·have:=lt_of_bit (T.step i hi).low e;omega
   ·cases hSj:S j with
    | false=>rfl
    | true=>rw [hc j i hSj e] at hS;cases hS
  ·have:=(hslot j hj2 hm).1;omega
theorem lw_sc {α:Type} {val:Nat→α} {mine S:Nat→Bool} {n:Nat→Nat} {Pr:Nat→α→Prop} (hp:∀ a b x,a ≤ b→Pr a x→Pr b x) {m:Nat} (hn:∀ k,k < m→n k ≤ n (k + 1))
  (hf:∀ k,k < m→mine k = false→val (k + 1) = val k) (h0:Pr (n 0) (val 0)) (hs:∀ j,j < m→S j = true→mine j = true→Pr (n (j + 1)) (val (j + 1))) :
  ∀ i,i ≤ m→(∀ j,j < i→mine j = true→S j = true)→Pr (n i) (val i)
 | 0,_,_=>h0
 | i + 1,hi,h=>by
   cases hm:mine i with
   | true=>exact hs i (by omega) (h i (by omega) hm) hm
   | false=>
     rw [hf i (by omega) hm]
     exact hp _ _ _ (hn i (by omega)) (lw_sc hp hn hf h0 hs i (by omega) (fun j hj=>h j (by omega)))
end T
end
end Go.Am
namespace Go.Am
noncomputable section
open Go Go.RowKit
variable {C:Cfg} {base:Nat}
structure Inv (C:Cfg) (ops:Array Oper) (s:St) (m:Nat) (tm:Nat→List Value) (cur:Nat→Heap) (W:Nat→Option Nat) (r0:Ren) (w0:World) (S:Nat→Bool) (r:Ren) (a:Act) (w:World):Prop where
 stp:Step r0 s.heap w0 r (hOf cur W m S) w
 heap:HR C.G C.GB r (hOf cur W m S) w
 size:a.tmps.size = s.tmps.length
 tmps:∀ (t:Tmp) (v:Value),cT ops tm m S t = some v→∃ u,a.tmps[t]? = some u∧VR r v u
 dom:∀ b t,r b = some t→b < K0 + (cur 0).length ∨ ∃ j,j < m∧S j = true∧slot cur j b = true
 sco:∀ j,j < m→S j = true→∀ b,mineB cur W b j = true→ScO (K0 + (cur (j + 1)).length) ((cur (j + 1)).at b)
 sct:∀ j,j < m→S j = true→∀ t,mineT ops t j = true→∀ v,(tm (j + 1))[t]? = some v→Sc (K0 + (cur (j + 1)).length) v
 sco0:∀ b,ScO (K0 + (cur 0).length) ((cur 0).at b)
 sct0:∀ (t:Tmp) v,(tm 0)[t]? = some v→Sc (K0 + (cur 0).length) v
 marks:Marks w0 base a.defers
section T
variable {call:CallV} {ops:Array Oper} {s s':St} {m:Nat} {tm:Nat→List Value} {cur:Nat→Heap} {W:Nat→Option Nat}
theorem inv_add (T:Trace C call ops s s' m tm cur W) {r0:Ren} {w0:World} {S:Nat→Bool} {r:Ren} {a:Act} {w:World} (I:Inv (base:=base) C ops s m tm cur W r0 w0 S r a w)
  (hc:Closed ops S) {i:Nat} (hi:i < m) (hS:S i = false) (hb:∀ j,(bsFn ops i).testBit j = true→S j = true)
  {o:Oper} {M:Heap} {s1:St} (ho:ops[i]? = some o) (mk:MaskOk (bsFn ops) m cur W i M) (htm:tm (i + 1) = s1.tmps)
  (hcur:cur (i + 1) = putW (cur i) s1.heap (W i)++s1.heap.drop (cur i).length) (hhold:holds M (W i) = true)
  {r':Ren} {u v:Value} {w':World} (segFlag:∀ b t,slot cur i b = true→r' b = some t→(s1.heap.at b).alive = true→(s1.heap.at b).flag = true ∨ ((∀ k,¬ t.inn k)∧∀ b2 t2,((hOf cur W m S).at b2).owned = true→r b2 = some t2→t2.blk ≠ t.blk)) (hput:s1.tmps = putT (tm i) o.dst v) (hv:VR r' v u)
  (St:Step (r.upto (K0 + (cur i).length)) M w r' s1.heap w') (H':HR C.G C.GB r' s1.heap w')
  (hown:∀ b,(M.at b).flag = true→W i = some b∧(hOf cur W m S).at b = M.at b∧((hOf cur W m S).at b).mate = none) :
  ∃ rn,Inv (base:=base) C ops s m tm cur W r0 w0 (addS S i) rn (a.put o.dst u) w':=by
 have hlenM:=mk.len
 have hle:(cur i).length ≤ s1.heap.length:=by have:=St.len;omega
 have hlen1:(cur (i + 1)).length = s1.heap.length:=by rw [hcur];simp [putW_length];omega
 have hlenm:(cur (i + 1)).length ≤ (cur m).length:=T.len_mono (by omega) (Nat.le_refl _)
 have hlen0:(cur 0).length ≤ (cur i).length:=T.len_mono (by omega) (by omega)
 -- whose are the blocks of i
 have hlate:∀ b,mineB cur W b i = true→∀ j,i < j→j < m→mineB cur W b j = true→S j = false:=fun b hbi j h1 h2 h3=>by
  cases hSj:S j with
  | false=>rfl
  | true=>
    exfalso
    have nobit:(bsFn ops j).testBit i = false:=by
     cases e:(bsFn ops j).testBit i with
     | false=>rfl
     | true=>rw [hc j i hSj e] at hS;cases hS
    obtain ⟨_,oj,Mj,sj,_,mkj,_,_,_,_,hhj,_⟩:=T.step j h2
    simp only [mineB,Bool.or_eq_true] at hbi h3
    rcases h3 with h3 | h3
    ·rw [isB_eq.1 h3] at hhj
     obtain ⟨_,_,v3,v4⟩:=mkj.vis b (sole_flat hhj).2.2.2
     rcases hbi with hbi | hbi
     ·rcases v3 i hi hbi with e | e | e
      ·omega
      ·rw [nobit] at e;cases e
      ·have:=lt_of_bit (T.step i hi).low e;omega
     ·rcases v4 with v4 | ⟨j0,a1,b1,c1⟩
      ·have:=slot_iff.1 hbi;omega
      ·have:=slot_apart T hi (by omega) hbi c1
       subst this;rw [nobit] at b1;cases b1
    ·rcases hbi with hbi | hbi
     ·rw [isB_eq.1 hbi] at hhold
      obtain ⟨_,v2,_⟩:=mk.vis b (sole_flat hhold).2.2.2
      have:=slot_iff.1 h3
      have:=T.len_mono (i:=i) (j:=j) (by omega) (by omega)
      omega
     ·have:=slot_apart T hi h2 hbi h3;omega
 have hatN:∀ b,(hOf cur W m (addS S i)).at b = if mineB cur W b i = true then (cur (i + 1)).at b else (hOf cur W m S).at b:=fun b=>by
  rw [hOf_at T,hOf_at T]
  cases hm:mineB cur W b i with
  | true=>rw [if_pos rfl];exact lw_add_yes hm hi (hlate b hm)
  | false=>simp only [Bool.false_eq_true,if_false];exact lw_add_no hm m
 have hat1:∀ b,mineB cur W b i = true→(cur (i + 1)).at b = s1.heap.at b:=fun b hm=>by
  rw [hcur]
  simp only [mineB,Bool.or_eq_true] at hm
  by_cases hl:b < K0 + (cur i).length
  ·rw [at_append_lo _ _ (by rw [putW_length];exact hl)]
   rcases hm with hm | hm
   ·have hw:=isB_eq.1 hm
    rw [hw] at hhold ⊢
    obtain ⟨v1,v2,_⟩:=mk.vis b (sole_flat hhold).2.2.2
    simp only [putW]
    rw [at_put v1 v2,if_pos rfl]
   ·have:=slot_iff.1 hm;omega
  ·have hK:K0 ≤ b:=by omega
   have hpl:(putW (cur i) s1.heap (W i)).length = (cur i).length:=putW_length ..
   rw [at_ge hK,at_ge hK,List.getD_eq_getElem?_getD,List.getD_eq_getElem?_getD,List.getElem?_append_right (by omega),hpl,List.getElem?_drop]
   rw [show (cur i).length + (b - K0 - (cur i).length) = b - K0 by omega]
 have hmslot:∀ b,slot cur i b = true→mineB cur W b i = true:=fun b h=>by simp [mineB,h]
 have hdomslot:∀ b t,r b = some t→slot cur i b = false:=fun b t hb'=>by
  cases e:slot cur i b with
  | false=>rfl
  | true=>
    exfalso
    rcases I.dom b t hb' with h | ⟨j,h1,h2,h3⟩
    ·have:=slot_iff.1 e;omega
    ·have:=slot_apart T hi h1 e h3
     subst this;rw [hS] at h2;cases h2
 -- the new map
 let rn:Ren:=fun b=>if slot cur i b = true then r' b else r b
 have rn_slot:∀ b,slot cur i b = true→rn b = r' b:=fun b h=>by simp [rn,h]
 have rn_no:∀ b,slot cur i b = false→rn b = r b:=fun b h=>by simp [rn,h]
 have le1:Ren.le r rn:=fun b t h=>by rw [rn_no b (hdomslot b t h)];exact h
 have old':∀ b t,r' b = some t→slot cur i b = false→r b = some t:=fun b t h e=>by
  rcases St.fresh b t h with h1 | h1
  ·exact Ren.upto_le _ _ _ _ h1
  ·have:=H'.dom b t h
   have:slot cur i b = true:=slot_iff.2 ⟨by omega,by omega⟩
   rw [e] at this;cases this
 have le2:Ren.le r' rn:=fun b t h=>by
  cases e:slot cur i b with
  | true=>rw [rn_slot b e];exact h
  | false=>rw [rn_no b e];exact old' b t h e
 -- who may own what
 have hOwn:∀ k,k < w.heap.size→Owned r' s1.heap k→∃ b t,W i = some b∧((hOf cur W m S).at b).owned = true∧((hOf cur W m S).at b).mate = none∧r b = some t∧t.blk = k:=fun k hk h=>by
  obtain ⟨b,t,h1,h2,h3⟩:=St.own k hk h
  obtain ⟨e1,e2,e3⟩:=hown b (AObj.flag_of_owned h1)
  exact ⟨b,t,e1,by rw [e2];exact h1,e3,Ren.upto_le _ _ _ _ h2,h3⟩
 have notMine:∀ b,mineB cur W b i = false→W i ≠ some b:=fun b h e=>by
  simp only [mineB,Bool.or_eq_false_iff] at h
  rw [isB_eq.2 e] at h;cases h.1
 -- a block not of i that shares a model block with one that i owned is none
 have clash:∀ b t,mineB cur W b i = false→((hOf cur W m S).at b).alive = true→r b = some t→¬ Owned r' s1.heap t.blk:=fun b t hm hal hr hown'=>by
  obtain ⟨t0,ht0,hlt0,_⟩:=I.heap.obj b hal
  rw [hr] at ht0;cases ht0
  obtain ⟨c,tc,e1,e2,e3,e4,e5⟩:=hOwn _ hlt0 hown'
  rcases I.heap.exc c b tc t e2 hal e4 hr e5 with e | e
  ·exact notMine b hm (e ▸ e1)
  ·rw [e3] at e;cases e.1
 have keep:∀ b t,mineB cur W b i = false→((hOf cur W m S).at b).alive = true→r b = some t→w'.heap[t.blk]? = w.heap[t.blk]?:=fun b t hm hal hr=>by
  obtain ⟨t0,ht0,hlt0,_⟩:=I.heap.obj b hal
  rw [hr] at ht0;cases ht0
  refine St.keep _ hlt0 fun ⟨c,tc,h1,h2,h3⟩=>?_
  obtain ⟨e1,e2,e3⟩:=hown c (AObj.flag_of_owned h1)
  rcases I.heap.exc c b tc t (by rw [e2];exact h1) hal (Ren.upto_le _ _ _ _ h2) hr h3 with e | e
  ·exact notMine b hm (e ▸ e1)
  ·rw [e3] at e;cases e.1
 have keepI:∀ b t,((hOf cur W m S).at b).alive = true→r b = some t→∀ k,t.inn k→w'.heap[k]? = w.heap[k]?:=fun b t hal hr k hk=>by
  obtain ⟨x,y⟩:=I.heap.frz b t hal hr k hk
  refine St.keep k x fun ⟨c,tc,h1,h2,h3⟩=>y ?_
  obtain ⟨e1,e2,e3⟩:=hown c (AObj.flag_of_owned h1)
  exact ⟨c,tc,by rw [e2];exact h1,Ren.upto_le _ _ _ _ h2,h3⟩
 -- two different owners
 have cross:∀ b b' t t',mineB cur W b i = false→((hOf cur W m S).at b).alive = true→r b = some t→mineB cur W b' i = true→(s1.heap.at b').alive = true→r' b' = some t' →
   (((hOf cur W m S).at b).owned = true ∨ (s1.heap.at b').owned = true)→t.blk ≠ t'.blk:=fun b b' t t' hm hal hr hm' hal' hr' hor he=>by
  by_cases ho':(s1.heap.at b').owned = true
  ·exact clash b t hm hal hr ⟨b',t',ho',hr',he.symm⟩
  ·by_cases hsl:slot cur i b' = true
   ·rcases segFlag b' t' hsl hr' hal' with hfl | ⟨_,hfl⟩
    rotate_left
    ·exact hfl b t (hor.resolve_right ho') hr he
    obtain ⟨t1,ht1,_,hob⟩:=H'.obj b' hal'
    rw [hr'] at ht1;cases ht1
    have h0:t'.blk = 0:=by
     cases hx:s1.heap.at b' with
     | vec ks l ow=>
       rw [hx] at hob hfl ho'
       simp only [AObj.flag] at hfl
       subst hfl
       refine (hob.2.2.1 ?_).1
       rcases Nat.eq_zero_or_pos l.length with e | e
       ·exact e
       ·exact absurd (by simp only [AObj.owned,Bool.true_and,Nat.blt_eq];exact e) ho'
     | dead=>rw [hx] at hal';cases hal'
     | row c o m=>rw [hx] at hfl ho';exact absurd hfl ho'
     | map es o=>rw [hx] at hfl ho';exact absurd hfl ho'
     | iter s p=>rw [hx] at ho';exact absurd rfl ho'
     | loop l=>rw [hx] at ho';exact absurd rfl ho'
    have hob':((hOf cur W m S).at b).owned = true:=hor.resolve_right ho'
    have h1:=I.heap.own b t hob' hr
    have h2:=H'.gb.2.2
    rw [he,h0] at h1
    exact absurd (Nat.lt_of_lt_of_le h2 h1) (Nat.lt_irrefl 0)
   have hso:slot cur i b' = false:=by simpa using hsl
   have hw:W i = some b':=by
    simp only [mineB,hso,Bool.or_false] at hm'
    exact isB_eq.1 hm'
   rcases hor with hor | hor
   ·have hr2:=old' b' t' hr' hso
    rw [hw] at hhold
    obtain ⟨_,q2,q3,q4⟩:=sole_flat hhold
    obtain ⟨e1,e2,e3⟩:=hown b' q2
    rcases I.heap.exc b b' t t' hor (by rw [e2];exact q4) hr hr2 he with e | e
    ·subst e;exact notMine b hm hw
    ·rw [e3] at e;cases e.2
   ·exact ho' hor
 have HN:HR C.G C.GB rn (hOf cur W m (addS S i)) w':=by
  refine ⟨fun b t hb'=>?_,fun b hal=>?_,fun b b' t t' hb1 hb2 hr1 hr2 he=>?_,H'.glob,H'.gb,fun b t hb1 hr1=>?_,fun b t hal hr k hk=>?_⟩
  ·rw [hOf_len]
   cases e:slot cur i b with
   | true=>have:=slot_iff.1 e;omega
   | false=>
     rw [rn_no b e] at hb'
     have:=I.heap.dom b t hb'
     rw [hOf_len] at this;exact this
  ·rw [hatN] at hal ⊢
   cases hm:mineB cur W b i with
   | true=>
     simp only [hm,if_true] at hal ⊢
     rw [hat1 b hm] at hal ⊢
     obtain ⟨t,ht,hlt,hob⟩:=H'.obj b hal
     exact ⟨t,le2 b t ht,hlt,ObjR.of_block le2 rfl (fun _ _=>rfl) hob⟩
   | false=>
     simp only [hm,Bool.false_eq_true,if_false] at hal ⊢
     obtain ⟨t,ht,hlt,hob⟩:=I.heap.obj b hal
     exact ⟨t,le1 b t ht,Nat.lt_of_lt_of_le hlt St.size,ObjR.of_block le1 (keep b t hm hal ht) (keepI b t hal ht) hob⟩
  ·rw [hatN] at hb1 hb2 ⊢
   rw [hatN b']
   cases hm:mineB cur W b i with
   | true=>
     simp only [hm,if_true] at hb1 ⊢
     rw [hat1 b hm] at hb1 ⊢
     obtain ⟨t1,ht1,_,_⟩:=H'.obj b (AObj.alive_of_owned hb1)
     have:=le2 b t1 ht1
     rw [hr1] at this;cases this
     cases hm':mineB cur W b' i with
     | true=>
       simp only [hm',if_true] at hb2 ⊢
       rw [hat1 b' hm'] at hb2 ⊢
       obtain ⟨t2,ht2,_,_⟩:=H'.obj b' hb2
       have:=le2 b' t2 ht2
       rw [hr2] at this;cases this
       exact H'.exc b b' _ _ hb1 hb2 ht1 ht2 he
     | false=>
       simp only [hm',Bool.false_eq_true,if_false] at hb2
       obtain ⟨t2,ht2,_,_⟩:=I.heap.obj b' hb2
       have:=le1 b' t2 ht2
       rw [hr2] at this;cases this
       exact absurd he.symm (cross b' b _ _ hm' hb2 ht2 hm (AObj.alive_of_owned hb1) ht1 (.inr hb1))
   | false=>
     simp only [hm,Bool.false_eq_true,if_false] at hb1 ⊢
     obtain ⟨t1,ht1,_,_⟩:=I.heap.obj b (AObj.alive_of_owned hb1)
     have:=le1 b t1 ht1
     rw [hr1] at this;cases this
     cases hm':mineB cur W b' i with
     | true=>
       simp only [hm',if_true] at hb2
       rw [hat1 b' hm'] at hb2
       obtain ⟨t2,ht2,_,_⟩:=H'.obj b' hb2
       have:=le2 b' t2 ht2
       rw [hr2] at this;cases this
       exact absurd he (cross b b' _ _ hm (AObj.alive_of_owned hb1) ht1 hm' hb2 ht2 (.inl hb1))
     | false=>
       simp only [hm',Bool.false_eq_true,if_false] at hb2 ⊢
       obtain ⟨t2,ht2,_,_⟩:=I.heap.obj b' hb2
       have:=le1 b' t2 ht2
       rw [hr2] at this;cases this
       exact I.heap.exc b b' _ _ hb1 hb2 ht1 ht2 he
  ·rw [hatN] at hb1
   cases hm:mineB cur W b i with
   | true=>
     simp only [hm,if_true] at hb1
     rw [hat1 b hm] at hb1
     obtain ⟨t1,ht1,_,_⟩:=H'.obj b (AObj.alive_of_owned hb1)
     have:=le2 b t1 ht1
     rw [hr1] at this;cases this
     exact H'.own b _ hb1 ht1
   | false=>
     simp only [hm,Bool.false_eq_true,if_false] at hb1
     obtain ⟨t1,ht1,_,_⟩:=I.heap.obj b (AObj.alive_of_owned hb1)
     have:=le1 b t1 ht1
     rw [hr1] at this;cases this
     exact I.heap.own b _ hb1 ht1
  ·have noOwn:¬ Owned r' s1.heap k→(∀ b2 t2,((hOf cur W m S).at b2).owned = true→mineB cur W b2 i = false→r b2 = some t2→t2.blk ≠ k)→¬ Owned rn (hOf cur W m (addS S i)) k:=fun n1 n2 ⟨b2,t2,h1,h2,h3⟩=>by
    rw [hatN] at h1
    cases hm:mineB cur W b2 i with
    | true=>
      simp only [hm,if_true] at h1
      rw [hat1 b2 hm] at h1
      obtain ⟨t1,ht1,_,_⟩:=H'.obj b2 (AObj.alive_of_owned h1)
      have:=le2 b2 t1 ht1
      rw [h2] at this;cases this
      exact n1 ⟨b2,t2,h1,ht1,h3⟩
    | false=>
      simp only [hm,Bool.false_eq_true,if_false] at h1
      obtain ⟨t1,ht1,_,_⟩:=I.heap.obj b2 (AObj.alive_of_owned h1)
      have:=le1 b2 t1 ht1
      rw [h2] at this;cases this
      exact n2 b2 t2 h1 hm ht1 h3
   rw [hatN] at hal
   cases hm:mineB cur W b i with
   | true=>
     simp only [hm,if_true] at hal
     rw [hat1 b hm] at hal
     obtain ⟨t1,ht1,_,hob⟩:=H'.obj b hal
     have:=le2 b t1 ht1
     rw [hr] at this;cases this
     obtain ⟨k1,k2⟩:=H'.frz b t hal ht1 k hk
     refine ⟨k1,noOwn k2 fun b2 t2 h1 h2 h3 h4=>?_⟩
     cases hsl:slot cur i b with
     | true=>
       rcases segFlag b t hsl ht1 hal with hfl | ⟨hfl,_⟩
       rotate_left
       ·exact hfl k hk
       have hmk:Mine r' s1.heap k:=by
        by_cases ho':(s1.heap.at b).owned = true
        ·exact ⟨b,t,ho',ht1,.inr hk⟩
        ·exfalso
         cases hx:s1.heap.at b with
         | vec ks l ow=>
           rw [hx] at hob hfl ho'
           simp only [AObj.flag] at hfl
           subst hfl
           refine (hob.2.2.1 ?_).2 k hk
           rcases Nat.eq_zero_or_pos l.length with e | e
           ·exact e
           ·exact absurd (by simp only [AObj.owned,Bool.true_and,Nat.blt_eq];exact e) ho'
         | dead=>rw [hx] at hal;cases hal
         | row c o m=>rw [hx] at hfl ho';exact absurd hfl ho'
         | map es o=>rw [hx] at hfl ho';exact absurd hfl ho'
         | iter s p=>rw [hx] at ho';exact absurd rfl ho'
         | loop l=>rw [hx] at ho';exact absurd rfl ho'
       have hkw:k < w.heap.size:=by
        obtain ⟨t3,ht3,hlt3,_⟩:=I.heap.obj b2 (AObj.alive_of_owned h1)
        rw [h3] at ht3;cases ht3
        omega
       obtain ⟨b3,t3,q1,q2,q3⟩:=St.mine k hkw hmk
       obtain ⟨e1,e2,e3⟩:=hown b3 (AObj.flag_of_owned q1)
       have q2:=Ren.upto_le _ _ _ _ q2
       rcases q3 with q3 | q3
       ·rcases I.heap.exc b3 b2 t3 t2 (by rw [e2];exact q1) (AObj.alive_of_owned h1) q2 h3 (q3.trans h4.symm) with e | e
        ·exact notMine b2 h2 (e ▸ e1)
        ·rw [e3] at e;cases e.1
       ·exact (I.heap.frz b3 t3 (by rw [e2];exact AObj.alive_of_owned q1) q2 k q3).2 ⟨b2,t2,h1,h3,h4⟩
     | false=>
       have hw:W i = some b:=by
        simp only [mineB,hsl,Bool.or_false] at hm
        exact isB_eq.1 hm
       have hh:=hhold
       rw [hw] at hh
       obtain ⟨_,q2,_,q4⟩:=sole_flat hh
       obtain ⟨_,e2,_⟩:=hown b q2
       exact (I.heap.frz b t (by rw [e2];exact q4) (old' b t ht1 hsl) k hk).2 ⟨b2,t2,h1,h3,h4⟩
   | false=>
     simp only [hm,Bool.false_eq_true,if_false] at hal
     obtain ⟨t1,ht1,_,_⟩:=I.heap.obj b hal
     have:=le1 b t1 ht1
     rw [hr] at this;cases this
     obtain ⟨k1,k2⟩:=I.heap.frz b t hal ht1 k hk
     refine ⟨Nat.lt_of_lt_of_le k1 St.size,noOwn (fun ho=>?_) fun b2 t2 h1 _ h3 h4=>k2 ⟨b2,t2,h1,h3,h4⟩⟩
     obtain ⟨c,tc,_,e2,_,e4,e5⟩:=hOwn k k1 ho
     exact k2 ⟨c,tc,e2,e4,e5⟩
 have mineN:∀ k,k < w.heap.size→Mine rn (hOf cur W m (addS S i)) k→Mine r (hOf cur W m S) k:=fun k hk ⟨b,t,hb1,hr1,he⟩=>by
  rw [hatN] at hb1
  cases hm:mineB cur W b i with
  | true=>
    simp only [hm,if_true] at hb1
    rw [hat1 b hm] at hb1
    obtain ⟨t1,ht1,_,_⟩:=H'.obj b (AObj.alive_of_owned hb1)
    have:=le2 b t1 ht1
    rw [hr1] at this;cases this
    obtain ⟨b3,t3,q1,q2,q3⟩:=St.mine k hk ⟨b,t,hb1,ht1,he⟩
    obtain ⟨_,e2,_⟩:=hown b3 (AObj.flag_of_owned q1)
    exact ⟨b3,t3,by rw [e2];exact q1,Ren.upto_le _ _ _ _ q2,q3⟩
  | false=>
    simp only [hm,Bool.false_eq_true,if_false] at hb1
    obtain ⟨t1,ht1,_,_⟩:=I.heap.obj b (AObj.alive_of_owned hb1)
    have:=le1 b t1 ht1
    rw [hr1] at this;cases this
    exact ⟨b,t,hb1,ht1,he⟩
 have ownN:∀ k,k < w.heap.size→Owned rn (hOf cur W m (addS S i)) k→Owned r (hOf cur W m S) k:=fun k hk ⟨b,t,hb1,hr1,he⟩=>by
  rw [hatN] at hb1
  cases hm:mineB cur W b i with
  | true=>
    simp only [hm,if_true] at hb1
    rw [hat1 b hm] at hb1
    obtain ⟨t1,ht1,_,_⟩:=H'.obj b (AObj.alive_of_owned hb1)
    have:=le2 b t1 ht1
    rw [hr1] at this;cases this
    obtain ⟨c,tc,_,e2,_,e4,e5⟩:=hOwn k hk ⟨b,t,hb1,ht1,he⟩
    exact ⟨c,tc,e2,e4,e5⟩
  | false=>
    simp only [hm,Bool.false_eq_true,if_false] at hb1
    obtain ⟨t1,ht1,_,_⟩:=I.heap.obj b (AObj.alive_of_owned hb1)
    have:=le1 b t1 ht1
    rw [hr1] at this;cases this
    exact ⟨b,t,hb1,ht1,he⟩
 have keepN:∀ k,k < w.heap.size→¬ Owned r (hOf cur W m S) k→w'.heap[k]? = w.heap[k]?:=fun k hk hno=>St.keep k hk fun ⟨c,tc,h1,h2,h3⟩=>by
  obtain ⟨_,e2,_⟩:=hown c (AObj.flag_of_owned h1)
  exact hno ⟨c,tc,by rw [e2];exact h1,Ren.upto_le _ _ _ _ h2,h3⟩
 have hcT:∀ t,cT ops tm m (addS S i) t = if mineT ops t i = true then (tm (i + 1))[t]? else cT ops tm m S t:=fun t=>by
  cases hm:mineT ops t i with
  | true=>
    rw [if_pos rfl]
    exact lw_add_yes hm hi (fun j h1 h2 h3=>absurd (T.one t i j hi h2 hm h3) (by omega))
  | false=>simp only [Bool.false_eq_true,if_false];exact lw_add_no hm m
 have hd':∀ b t,r' b = some t→b < K0 + (cur (i + 1)).length:=fun b t h=>by have:=(H'.dom b t h).2;omega
 refine ⟨rn,⟨?_,HN,?_,?_,?_,?_,?_,I.sco0,I.sct0,?_⟩⟩
 ·refine ⟨I.stp.le.trans le1,St.os.trans I.stp.os,St.tape.trans I.stp.tape,St.output.trans I.stp.output,Nat.le_trans I.stp.size St.size,fun k hk hno=>?_,fun k hk ho'=>?_,?_,fun b t hb'=>?_,fun k hk ho'=>I.stp.mine k hk (mineN k (Nat.lt_of_lt_of_le hk I.stp.size) ho')⟩
  ·exact (keepN k (Nat.lt_of_lt_of_le hk I.stp.size) (fun h=>hno (I.stp.own k hk h))).trans (I.stp.keep k hk hno)
  ·exact I.stp.own k hk (ownN k (Nat.lt_of_lt_of_le hk I.stp.size) ho')
  ·rw [hOf_len];have:=I.stp.len;rw [hOf_len] at this;exact this
  ·cases e:slot cur i b with
   | true=>right;rw [← T.c0];have:=slot_iff.1 e;omega
   | false=>rw [rn_no b e] at hb';exact I.stp.fresh b t hb'
 ·cases o.dst with
  | none=>exact I.size
  | some d=>simp [Act.put,I.size]
 ·intro t x hx
  rw [hcT] at hx
  cases hm:mineT ops t i with
  | true=>
    simp only [hm,if_true] at hx
    simp only [mineT,ho,dstIs] at hm
    cases hd:o.dst with
    | none=>simp [hd] at hm
    | some d=>
      simp only [hd] at hm
      have:=Nat.eq_of_beq_eq_true hm
      subst this
      rw [htm,hput,hd] at hx
      simp only [putT,setR_eq,List.getElem?_set_self'] at hx
      have hl:d < (tm i).length:=by
       rcases Nat.lt_or_ge d (tm i).length with h | h
       ·exact h
       ·rw [List.getElem?_eq_none h] at hx;simp at hx
      rw [List.getElem?_eq_getElem hl] at hx
      simp at hx
      subst hx
      refine ⟨u,?_,hv.mono le2⟩
      have:d < a.tmps.size:=by rw [I.size,← T.tlen i (by omega)];exact hl
      simp [Act.put,this]
  | false=>
    simp only [hm,Bool.false_eq_true,if_false] at hx
    obtain ⟨y,h1,h2⟩:=I.tmps t x hx
    refine ⟨y,?_,h2.mono le1⟩
    simp only [mineT,ho,dstIs] at hm
    cases hd:o.dst with
    | none=>exact h1
    | some d=>
      simp only [hd] at hm
      have:d ≠ t:=fun e=>by subst e;rw [Nat.beq_refl] at hm;cases hm
      simp only [Act.put]
      rw [Array.getElem?_setIfInBounds];simp [this,h1]
 ·intro b t hb'
  cases e:slot cur i b with
  | true=>exact .inr ⟨i,hi,addS_self ..,e⟩
  | false=>
    rw [rn_no b e] at hb'
    rcases I.dom b t hb' with h | ⟨j,h1,h2,h3⟩
    ·exact .inl h
    ·exact .inr ⟨j,h1,by simp [addS,h2],h3⟩
 ·intro j hj hSj b hm
  by_cases e:j = i
  ·subst e
   rw [hat1 b hm]
   by_cases hal:(s1.heap.at b).alive = true
   ·obtain ⟨t,_,_,hob⟩:=H'.obj b hal
    exact ScO.of_obj hd' hob
   ·cases hx:s1.heap.at b <;> simp_all [AObj.alive,ScO]
  ·rw [addS_ne S e] at hSj;exact I.sco j hj hSj b hm
 ·intro j hj hSj t hm x hx
  by_cases e:j = i
  ·subst e
   simp only [mineT,ho,dstIs] at hm
   cases hd:o.dst with
   | none=>simp [hd] at hm
   | some d=>
     simp only [hd] at hm
     have:=Nat.eq_of_beq_eq_true hm
     subst this
     rw [htm,hput,hd] at hx
     simp only [putT,setR_eq,List.getElem?_set_self'] at hx
     have hl:d < (tm j).length:=by
      rcases Nat.lt_or_ge d (tm j).length with h | h
      ·exact h
      ·rw [List.getElem?_eq_none h] at hx;simp at hx
     rw [List.getElem?_eq_getElem hl] at hx
     simp at hx
     subst hx
     exact ⟨r',u,hd',hv⟩
  ·rw [addS_ne S e] at hSj;exact I.sct j hj hSj t hm x hx
 ·cases o.dst with
  | none=>exact I.marks
  | some d=>exact I.marks
end T
end
end Go.Am
namespace Go.Am
noncomputable section
open Go Go.RowKit
variable {C:Cfg} {base:Nat}
section T
variable {call:CallV} {ops:Array Oper} {s s':St} {m:Nat} {tm:Nat→List Value} {cur:Nat→Heap} {W:Nat→Option Nat}
theorem Inv.scB (T:Trace C call ops s s' m tm cur W) {r0:Ren} {w0:World} {S:Nat→Bool} {r:Ren} {a:Act} {w:World} (I:Inv (base:=base) C ops s m tm cur W r0 w0 S r a w)
  {i:Nat} (hi:i ≤ m) {b:Nat} (h:∀ j,j < i→mineB cur W b j = true→S j = true):ScO (K0 + (cur i).length) ((cur i).at b):=
 lw_sc (val:=fun j=>(cur j).at b) (mine:=mineB cur W b) (S:=S) (n:=fun j=>K0 + (cur j).length) (Pr:=ScO) (m:=m) (fun _ _ _ h hx=>hx.mono h)
  (fun k hk=>by have:=T.len_mono (i:=k) (j:=k + 1) (by omega) (by omega);omega) (fun k hk hm=>T.frameB b k hk hm) (I.sco0 b) (fun j hj hSj hm=>I.sco j hj hSj b hm) i hi h
theorem Inv.scT (T:Trace C call ops s s' m tm cur W) {r0:Ren} {w0:World} {S:Nat→Bool} {r:Ren} {a:Act} {w:World} (I:Inv (base:=base) C ops s m tm cur W r0 w0 S r a w)
  {i:Nat} (hi:i ≤ m) {t:Tmp} (h:∀ j,j < i→mineT ops t j = true→S j = true):∀ v,(tm i)[t]? = some v→Sc (K0 + (cur i).length) v:=
 lw_sc (val:=fun j=>(tm j)[t]?) (mine:=mineT ops t) (S:=S) (n:=fun j=>K0 + (cur j).length) (Pr:=fun n x=>∀ v,x = some v→Sc n v) (m:=m) (fun _ _ _ h hx v hv=>(hx v hv).mono h)
  (fun k hk=>by have:=T.len_mono (i:=k) (j:=k + 1) (by omega) (by omega);omega) (fun k hk hm=>T.frameT t k hk hm) (I.sct0 t) (fun j hj hSj hm=>I.sct j hj hSj t hm) i hi h
theorem seg_flag {cur:Nat→Heap} {W:Nat→Option Nat} {m:Nat} {S:Nat→Bool} {r r':Ren} {i:Nat} {h':Heap} (hseg:segOk (h'.drop (cur i).length) = true) :
  ∀ b t,slot cur i b = true→r' b = some t→(h'.at b).alive = true→(h'.at b).flag = true ∨ ((∀ k,¬ t.inn k)∧∀ b2 t2,((hOf cur W m S).at b2).owned = true→r b2 = some t2→t2.blk ≠ t.blk):=fun b t h _ hal=>by
 have hs:=slot_iff.1 h
 have hl:=at_lt hal
 have hg:(h'.drop (cur i).length)[b - K0 - (cur i).length]? = some (h'.at b):=by
  rw [List.getElem?_drop,show (cur i).length + (b - K0 - (cur i).length) = b - K0 by omega,at_ge hl.1,List.getD_eq_getElem?_getD,
   List.getElem?_eq_getElem (show b - K0 < h'.length by omega)];rfl
 have:=List.all_eq_true.1 hseg _ (List.mem_of_getElem? hg)
 simp only [hal,Bool.not_true,Bool.or_false] at this
 exact .inl this
theorem nload_inv {call:CallV} {o:Oper} {ρ:Operand→Value} {h h':Heap} {v:Value} (hn:nload ρ h o = true) (hv:opC C call o ρ h = some (v,h')) :
  ∃ t ad x b c i,o.op = .load t ad∧ρ ad = .pointer (some ⟨b,c,some i⟩)∧C.ty t = some x∧loadN x h b c i = some (v,h'):=by
 unfold nload at hn
 split at hn
 ·rename_i t ad ho
  split at hn
  ·rename_i b c i ha
   split at hn
   ·rename_i ks l own hb
    unfold opC at hv
    rw [ho] at hv
    simp only [opV,ho,opALoad,ha] at hv
    cases hx:C.ty t with
    | none=>rw [hx] at hv;cases hv
    | some x=>
      rw [hx] at hv
      simp only at hv
      have hE:loadE x h b c i = none:=by
       unfold loadE
       rw [hb]
       simp only [Bool.not_eq_true'] at hn
       simp [hn]
      rw [hE] at hv
      exact ⟨t,ad,x,b,c,i,ho,ha,hx,hv⟩
   ·cases hn
  ·cases hn
 ·cases hn
theorem draw_step (ok:CfgOk C) (hcall:CallOK C call) (T:Trace C call ops s s' m tm cur W) {r0:Ren} {w0:World} {S:Nat→Bool} {r:Ren} {a:Act} {w:World} (I:Inv (base:=base) C ops s m tm cur W r0 w0 S r a w)
  (hc:Closed ops S) {i:Nat} (hi:i < m) (hS:S i = false) (hb:∀ j,(bsFn ops i).testBit j = true→S j = true)
  {F:Fence} {n:Nat} {Q:Exit→Act→World→Prop} {K:Act→World→Prop} (hF:Wide F) (hK:∀ r' a' w',Inv (base:=base) C ops s m tm cur W r0 w0 (addS S i) r' a' w'→K a' w'):wpOpIn F n C.P ops Q i K a w:=by
 obtain ⟨low,o,M,s1,ho,mk,hs,htm,hcur,hseg,hhold,htmps,hguard⟩:=T.step i hi
 have seeB:∀ b,(M.at b).alive = true→(hOf cur W m S).at b = (cur i).at b∧ScO (K0 + (cur i).length) ((cur i).at b):=fun b hal=>by
  obtain ⟨_,_,v3,v4⟩:=mk.vis b hal
  obtain ⟨h1,h2⟩:=T.seeB hc hi hS hb v3 v4
  refine ⟨?_,I.scB T (by omega) h1⟩
  rw [hOf_at T]
  exact lw_at (fun k hk hm=>T.frameB b k hk hm) h1 h2 (by omega)
 obtain ⟨HM,hown⟩:=mask_hr I.heap mk hhold (fun b h=>(seeB b h).1) (fun b h=>(seeB b h).2)
 -- the temporaries that it looks at
 have low':∀ t,(∀ j,j < m→mineT ops t j = true→(bsFn ops i).testBit j = true ∨ (bsFn ops j).testBit i = true)→∀ j,j < i→mineT ops t j = true→S j = true:=fun t h j hj hm=>by
  rcases h j (by omega) hm with h1 | h1
  ·exact hb j h1
  ·have:=lt_of_bit (T.step j (by omega)).low h1;omega
 have look:∀ t,(∀ j,j < m→mineT ops t j = true→(bsFn ops i).testBit j = true ∨ (bsFn ops j).testBit i = true)→∀ v,(tm i)[t]? = some v→∃ u,a.tmps[t]? = some u∧VR (r.upto (K0 + (cur i).length)) v u:=fun t h v hv=>by
  obtain ⟨u,h1,h2⟩:=I.tmps t v (by rw [T.seeT hc hi hS hb h];exact hv)
  exact ⟨u,h1,h2.upto (I.scT T (by omega) (low' t h) v hv)⟩
 have hsz:a.tmps.size = (tm i).length:=by rw [I.size,T.tlen i (by omega)]
 unfold wpOpIn
 simp only [ho]
 unfold stepOp at hs
 simp only [crisp_eq] at hs
 cases hw:wantedA o ops (tm i) with
 | none=>simp [hw] at hs
 | some bb=>
   have hwant:=wanted_ok' (r:=r.upto (K0 + (cur i).length)) hsz hw (fun g want q d hg hq hd v hv=>by
    have hbit:=hguard g want hg
    have hgi:=lt_of_bit low hbit
    refine look d (fun j hj hm=>?_) v hv
    have hmg:mineT ops d g = true:=by simp only [mineT,hq,dstIs,hd];exact Nat.beq_refl _
    have:=T.one d j g hj (by omega) hm hmg
    subst this;exact .inl hbit)
   rw [hwant]
   simp only [hw] at hs
   cases bb with
   | true=>
     simp only at hs
     cases hv:opC C call o (St.ev ⟨tm i,M⟩) M with
     | none=>simp [hv] at hs
     | some vh=>
       obtain ⟨v,h'⟩:=vh
       simp only [hv,Option.some.injEq] at hs
       subst hs
       simp only [if_true]
       cases hso:segOk (h'.drop (cur i).length) with
       | false=>
         simp only [hso,Bool.false_or] at hseg
         obtain ⟨ty,ad,x,b,c,ei,eo,ea,ex,el⟩:=nload_inv hseg hv
         have hops:∀ x ∈ o.op.operands.toList,VR (r.upto (K0 + (cur i).length)) (St.ev ⟨tm i,M⟩ x) (a.eval x):=fun x hx=>ev_ok (s:=⟨tm i,M⟩) hsz x fun t ht v hv=>by
          subst ht;exact look t (fun j hj hm=>htmps t hx j hj hm) v hv
         obtain ⟨r',u,hrun,S',H',hvr,t0,e1,e2,hnew⟩:=ops_loadN' (P:=C.P) eo (ok.ty ty x ex).1 (ok.ty ty x ex).2 ea el _ a w HM hops
         have hnd:∀ c,o.op ≠ .defer c:=fun c e=>by rw [eo] at e;cases e
         refine ⟨fun f _=>hF.1 f,?_⟩
         rw [Oper.semAt_eq _ _ _ hnd]
         have hsg:∀ b t,slot cur i b = true→r' b = some t→(h'.at b).alive = true→(h'.at b).flag = true ∨ ((∀ k,¬ t.inn k)∧∀ b2 t2,((hOf cur W m S).at b2).owned = true→r b2 = some t2→t2.blk ≠ t.blk):=fun b1 t1 h1 h2 h3=>by
          have hsl:=slot_iff.1 h1
          rcases hnew b1 t1 h2 with h4 | ⟨h4,h5⟩
          ·have:=(HM.dom b1 t1 h4).2
           rw [mk.len] at this
           omega
          ·refine .inr ⟨h4,fun b2 t2 q1 q2 he=>?_⟩
           rcases h5 with h5 | h5
           ·have g1:=I.heap.own b2 t2 q1 q2
            have g2:=I.heap.gb.2.2
            rw [he,h5] at g1
            omega
           ·have hM:=seeB b e1
            have hal:((hOf cur W m S).at b).alive = true:=by
             rw [hM.1]
             rcases mk.con b e1 with ⟨_,e⟩ | e
             ·rw [← e];exact e1
             ·have:=e1
              rw [e] at this
              cases hx:(cur i).at b <;> rw [hx] at this <;> first | rfl | exact this
            exact (I.heap.frz b t0 hal (Ren.upto_le _ _ _ _ e2) _ h5).2 ⟨b2,t2,q1,q2,he⟩
         obtain ⟨rn,hI⟩:=inv_add T I hc hi hS hb ho mk htm hcur hhold (r':=r') (u:=u) (v:=v) (w':=w) hsg rfl hvr S' H' hown
         have hk:=hK rn _ w hI
         rw [hrun]
         exact hk
       | true=>
       refine opC_sound ok hcall hv hF HM (fun x hx=>ev_ok (s:=⟨tm i,M⟩) hsz x fun t ht v hv=>?_) fun r' u w' S' H' hvr=>?_
       ·subst ht;exact look t (fun j hj hm=>htmps t hx j hj hm) v hv
       ·obtain ⟨rn,hI⟩:=inv_add T I hc hi hS hb ho mk htm hcur hhold (r':=r') (u:=u) (v:=v) (w':=w') (seg_flag hso) rfl hvr S' H' hown
        exact hK rn _ w' hI
   | false=>
     simp only [Option.some.injEq] at hs
     subst hs
     simp only [Bool.false_eq_true,if_false]
     obtain ⟨rn,hI⟩:=inv_add T I hc hi hS hb ho mk htm hcur hhold (r':=r.upto (K0 + (cur i).length)) (u:=undef) (v:=undef) (w':=w) (fun b t h1 h2 h3=>by
      have hsl:=slot_iff.1 h1
      have:=(HM.dom b t h2).2
      rw [mk.len] at this
      omega) rfl (.tup _ _ rfl fun j h=>by simp at h) (.refl _ _ _) HM hown
     exact ⟨fun f _=>hF.1 f,hK rn _ w hI⟩
theorem hOf_none (T:Trace C call ops s s' m tm cur W):∀ b,(hOf cur W m fun _=>false).at b = s.heap.at b:=fun b=>by
 rw [hOf_at T,← T.c0]
 have:∀ k,lw (fun j=>(cur j).at b) (mineB cur W b) (fun _=>false) k = (cur 0).at b:=fun k=>by
  induction k with
  | zero=>rfl
  | succ k ih=>simpa [lw] using ih
 exact this m
theorem hOf_full (T:Trace C call ops s s' m tm cur W) {S:Nat→Bool} (h:∀ j,j < m→S j = true):hOf cur W m S = cur m:=by
 apply List.ext_getElem (hOf_len ..)
 intro k h1 h2
 have hb:=hOf_at T S (K0 + k)
 rw [cS,lw_upto m (fun k' hk hm=>T.frameB _ k' hk hm) (fun j hj _=>h j hj),at_ge (by omega),at_ge (by omega),List.getD_eq_getElem?_getD,List.getD_eq_getElem?_getD] at hb
 rw [show K0 + k - K0 = k by omega,List.getElem?_eq_getElem h1,List.getElem?_eq_getElem h2] at hb
 simpa using hb
theorem inv_start (T:Trace C call ops s s' m tm cur W) {r:Ren} {a:Act} {w:World} (H:SR C.G C.GB base r s a w):Inv (base:=base) C ops s m tm cur W r w (fun _=>false) r a w:=by
 have hat:=hOf_none T
 have hd:∀ b t,r b = some t→b < K0 + (cur 0).length:=fun b t h=>by rw [T.c0];exact (H.heap.dom b t h).2
 have hl0:s.heap.length ≤ (cur m).length:=by rw [← T.c0];exact T.len_mono (by omega) (Nat.le_refl _)
 refine ⟨⟨.refl _,rfl,rfl,rfl,Nat.le_refl _,fun _ _ _=>rfl,fun k hk ⟨b,t,h1,h2,h3⟩=>⟨b,t,by rw [← hat];exact h1,h2,h3⟩,by rw [hOf_len];exact hl0,fun _ _ h=>.inl h,fun k hk ⟨b,t,h1,h2,h3⟩=>⟨b,t,by rw [← hat];exact h1,h2,h3⟩⟩,
  ⟨fun b t h=>?_,fun b h=>?_,fun b b' t t' h1 h2 h3 h4 h5=>?_,H.heap.glob,H.heap.gb,fun b t h1 h2=>?_,fun b t h1 h2 k hk=>let ⟨x,y⟩:=H.heap.frz b t (by rw [← hat];exact h1) h2 k hk;⟨x,fun ⟨b',t',q1,q2,q3⟩=>y ⟨b',t',by rw [← hat];exact q1,q2,q3⟩⟩⟩,H.size,fun t v hv=>?_,fun b t h=>.inl (hd b t h),
  fun j _ h=>by simp at h,fun j _ h=>by simp at h,fun b=>?_,fun t v hv=>?_,H.marks⟩
 ·rw [hOf_len];have:=H.heap.dom b t h;omega
 ·rw [hat] at h ⊢;exact H.heap.obj b h
 ·rw [hat] at h1 h2 ⊢;rw [hat];exact H.heap.exc b b' t t' h1 h2 h3 h4 h5
 ·rw [hat] at h1;exact H.heap.own b t h1 h2
 ·have:∀ k,lw (fun j=>(tm j)[t]?) (mineT ops t) (fun _=>false) k = (tm 0)[t]?:=fun k=>by
   induction k with
   | zero=>rfl
   | succ k ih=>simpa [lw] using ih
  unfold cT at hv
  rw [this,T.t0] at hv
  exact H.tmps t v hv
 ·rw [T.c0]
  by_cases hal:(s.heap.at b).alive = true
  ·obtain ⟨t,_,_,hob⟩:=H.heap.obj b hal
   exact ScO.of_obj (fun i t h=>(H.heap.dom i t h).2) hob
  ·cases hx:s.heap.at b <;> simp_all [AObj.alive,ScO]
 ·rw [T.t0] at hv
  obtain ⟨u,_,h2⟩:=H.tmps t v hv
  exact ⟨r,u,fun i t h=>hd i t h,h2⟩
theorem ready_in {ops:Array Oper} {listed:Array Bool} {i:Nat} (hsz:listed.size = ops.size) (h0:listed.getD i false = false) (hi:i < ops.size)
  {md:Region.Mode} (hedge:∀ o,ops[i]? = some o→∀ e ∈ o.after,Region.binds md e = true→listed.getD e.on false = true):i ∈ Region.ready md ops listed:=by
 refine mem_ready.2 ⟨?_,ops[i],by simp [hi],hedge _ (by simp [hi])⟩
 simp [Array.getD_eq_getD_getElem?,hsz,hi] at h0 ⊢
 exact h0
theorem or_fold_keep {ε:Type} (p:ε→Bool) (x:ε→Nat) (j:Nat):∀ (l:List ε) (s:Nat),(s.testBit j = true ∨ ∃ e ∈ l,p e = true∧(x e).testBit j = true)→(l.foldl (fun s e=>if p e then s ||| x e else s) s).testBit j = true
 | [],s,h=>by simpa using h
 | e :: l,s,h=>by
   simp only [List.foldl_cons]
   refine or_fold_keep p x j l _ ?_
   rcases h with h | ⟨e',he,hp,hx⟩
   ·left;split
    ·rw [Nat.testBit_or,h];rfl
    ·exact h
   ·rcases List.mem_cons.1 he with rfl | he
    ·left;rw [if_pos hp,Nat.testBit_or,hx,Bool.or_true]
    ·exact .inr ⟨e',he,hp,hx⟩
theorem bsFn_edge {ops:Array Oper} {i:Nat} {o:Oper} (ho:ops[i]? = some o) {e:Edge} (he:e ∈ o.after) (hb:Region.binds .any e = true):(bsFn ops i).testBit e.on = true:=by
 obtain ⟨acc,h1,_⟩:=bsFn_at ho
 rw [h1]
 unfold oneOf
 rw [← Array.foldl_toList]
 have e':(fun (s:Nat) (e:Edge)=>if Region.binds .any e then s ||| 2 ^ e.on ||| acc.getD e.on 0 else s) = fun s e=>if Region.binds .any e then s ||| (2 ^ e.on ||| acc.getD e.on 0) else s:=by
  funext s e;rw [Nat.or_assoc]
 rw [e']
 exact or_fold_keep _ (fun (e:Edge)=>2 ^ e.on ||| acc.getD e.on 0) _ _ _ (.inr ⟨e,Array.mem_toList_iff.2 he,hb,by rw [Nat.testBit_or,Nat.testBit_two_pow_self];rfl⟩)
def cnt (S:Nat→Bool):Nat→Nat
 | 0=>0
 | n + 1=>cnt S n + (match S n with | true=>0 | false=>1)
theorem cnt_zero {S:Nat→Bool}:∀ n,cnt S n = 0→∀ j,j < n→S j = true
 | 0,_,j,hj=>by omega
 | n + 1,h,j,hj=>by
   simp only [cnt] at h
   cases hn:S n with
   | true=>
     by_cases e:j = n
     ·rw [e,hn]
     ·exact cnt_zero n (by omega) j (by omega)
   | false=>simp [hn] at h
theorem cnt_le {S:Nat→Bool} (i:Nat):∀ n,cnt (addS S i) n ≤ cnt S n
 | 0=>Nat.le_refl _
 | n + 1=>by
   simp only [cnt]
   have:=cnt_le (S:=S) i n
   by_cases e:n = i
   ·subst e;rw [addS_self];simp only;omega
   ·rw [addS_ne S e];omega
theorem cnt_add {S:Nat→Bool} {i:Nat} (hS:S i = false):∀ n,i < n→cnt (addS S i) n + 1 ≤ cnt S n
 | 0,h=>by omega
 | n + 1,h=>by
   simp only [cnt]
   by_cases e:n = i
   ·subst e;rw [addS_self,hS];have:=cnt_le (S:=S) n n;simp only;omega
   ·rw [addS_ne S e];have:=cnt_add hS n (by omega);omega
theorem ready_size {ops:Array Oper} {listed:Array Bool} {md:Region.Mode} {i:Nat} (h:i ∈ Region.ready md ops listed):i < ops.size:=by
 obtain ⟨_,o,ho,_⟩:=mem_ready.1 h
 exact (Array.getElem?_eq_some_iff.1 ho).1
theorem all_done {ops:Array Oper} {listed:Array Bool} {md:Region.Mode} (hsz:listed.size = ops.size) (h:∀ j,j < ops.size→listed.getD j false = true):Region.ready md ops listed = []:=by
 apply List.eq_nil_iff_forall_not_mem.2
 intro i hi
 have h1:=ready_size hi
 have:=(mem_ready.1 hi).1
 have h2:=h i h1
 simp [Array.getD_eq_getD_getElem?,hsz,h1] at this h2
 rw [h2] at this;cases this
theorem not_stuck {ops:Array Oper} {listed:Array Bool} (hsz:listed.size = ops.size) (hlow:∀ i,i < ops.size→bsFn ops i < 2 ^ i):∀ (k i:Nat),i < k→i < ops.size→listed.getD i false = false→Region.ready .any ops listed ≠ []
 | 0,i,h,_,_=>by omega
 | k + 1,i,hik,hi,h0=>by
   by_cases hall:∀ j,j < i→listed.getD j false = true
   ·have hmem:i ∈ Region.ready .any ops listed:=ready_in hsz h0 hi fun o ho e he hb=>hall _ (lt_of_bit (hlow i hi) (bsFn_edge ho he hb))
    intro e;rw [e] at hmem;cases hmem
   ·obtain ⟨j,hj⟩:=Classical.not_forall.1 hall
    obtain ⟨hj1,hj2⟩:=Classical.not_imp.1 hj
    exact not_stuck hsz hlow k j (by omega) (by omega) (by simpa using hj2)
theorem tail_sound (ok:CfgOk C) (hcall:CallOK C call) {ops:Array Oper} {s':St} {m:Nat} (htail:∀ k,m ≤ k→k < ops.size→bsFn ops k = 2 ^ k - 1) (hlow:∀ i,i < ops.size→bsFn ops i < 2 ^ i)
  {F:Fence} {n:Nat} {Q:Exit→Act→World→Prop} (hF:Wide F) {r0:Ren} {h0:Heap} {w0:World}
  (hQ:∀ r' a' w',Step r0 h0 w0 r' s'.heap w'→SR C.G C.GB base r' s' a' w'→Q .normal a' w') :
  ∀ (fuel k:Nat) (listed:Array Bool) (st:St) (r:Ren) (a:Act) (w:World),m ≤ k→k ≤ ops.size→ops.size - k ≤ fuel→listed.size = ops.size →
   (∀ j,j < k→listed.getD j false = true)→(∀ j,k ≤ j→listed.getD j false = false)→Step r0 h0 w0 r st.heap w→SR C.G C.GB base r st a w →
   runOps C call ops (ops.toList.drop k) st = some s'→wpAnyIn F n C.P .any ops Q fuel listed a w:=by
 intro fuel
 induction fuel with
 | zero=>
   intro k listed st r a w hm hk hf hsz hlo hhi S H hr
   have:k = ops.size:=by omega
   subst this
   rw [List.drop_of_length_le (by simp)] at hr
   simp only [runOps,Option.some.injEq] at hr
   subst hr
   exact wpAnyIn_done (all_done hsz hlo) (hQ r a w S H) 0
 | succ fuel ih=>
   intro k listed st r a w hm hk hf hsz hlo hhi S H hr
   by_cases e:k = ops.size
   ·subst e
    rw [List.drop_of_length_le (by simp)] at hr
    simp only [runOps,Option.some.injEq] at hr
    subst hr
    exact wpAnyIn_done (all_done hsz hlo) (hQ r a w S H) _
   ·have hlt:k < ops.size:=by omega
    have hclosed:Closed ops (fun j=>listed.getD j false):=fun i j hi hj=>by
     have hik:i < k:=by
      rcases Nat.lt_or_ge i k with h | h
      ·exact h
      ·have:=hhi i h;simp only at hi;rw [this] at hi;cases hi
     exact hlo j (Nat.lt_trans (lt_of_bit (hlow i (by omega)) hj) hik)
    refine ⟨fun hnil=>absurd hnil (not_stuck hsz hlow (k + 1) k (by omega) hlt (hhi k (Nat.le_refl _))),fun i hi=>?_⟩
    obtain ⟨h1,h2,o,ho,h3⟩:=ready_closed hclosed hi
    have hik:i = k:=by
     rcases Nat.lt_trichotomy i k with h | h | h
     ·rw [hlo i h] at h2;cases h2
     ·exact h
     ·have hb:(bsFn ops i).testBit k = true:=by
       rw [htail i (by omega) (by omega),Nat.testBit_two_pow_sub_one];simpa using h
      have:=h3 k hb
      rw [hhi k (Nat.le_refl _)] at this;cases this
    subst hik
    rw [List.drop_eq_getElem_cons (by simpa using hlt)] at hr
    have ho':ops.toList[i]'(by simpa using hlt) = o:=by
     have:=(Array.getElem?_eq_some_iff.1 ho).2
     simpa using this
    rw [ho'] at hr
    simp only [runOps] at hr
    cases hs:stepOp C call ops o st with
    | none=>simp [hs] at hr
    | some s1=>
      simp only [hs] at hr
      refine stepOp_sound ok hcall ho hs hF H fun r1 a1 w1 S1 H1=>?_
      have hset:=listed_set (listed:=listed) h1
      refine ih (i + 1) _ s1 r1 a1 w1 (by omega) (by omega) (by omega) (by simpa using hsz) (fun j hj=>?_) (fun j hj=>?_) (S.trans S1) H1 hr
      ·have this:(listed.setIfInBounds i true).getD j false = addS (fun j=>listed.getD j false) i j:=congrFun hset j
       rw [this]
       by_cases e:j = i
       ·subst e;exact addS_self ..
       ·rw [addS_ne _ e];exact hlo j (by omega)
      ·have this:(listed.setIfInBounds i true).getD j false = addS (fun j=>listed.getD j false) i j:=congrFun hset j
       rw [this,addS_ne _ (by omega)]
       exact hhi j (by omega)
theorem quiet_sound (ok:CfgOk C) (hcall:CallOK C call) (T:Trace C call ops s s' m tm cur W) {F:Fence} {n:Nat} {Q:Exit→Act→World→Prop} (hF:Wide F) {r0:Ren} {w0:World}
  (H0:HR C.G C.GB r0 s.heap w0) (hQ:∀ r' a' w',Step r0 s.heap w0 r' s'.heap w'→SR C.G C.GB base r' s' a' w'→Q .normal a' w') :
  ∀ (fuel:Nat) (listed:Array Bool) (r:Ren) (a:Act) (w:World),listed.size = ops.size→cnt (fun j=>listed.getD j false) ops.size ≤ fuel→Closed ops (fun j=>listed.getD j false) →
   (∀ k,m ≤ k→listed.getD k false = false)→Inv (base:=base) C ops s m tm cur W r0 w0 (fun j=>listed.getD j false) r a w→wpAnyIn F n C.P .any ops Q fuel listed a w:=by
 have hlow:∀ i,i < ops.size→bsFn ops i < 2 ^ i:=fun i hi=>by
  by_cases h:i < m
  ·exact (T.step i h).low
  ·rw [T.tail i (by omega) hi];have:=Nat.two_pow_pos i;omega
 have fin:∀ (fuel:Nat) (listed:Array Bool) (r:Ren) (a:Act) (w:World),listed.size = ops.size→cnt (fun j=>listed.getD j false) ops.size ≤ fuel →
   (∀ k,m ≤ k→listed.getD k false = false)→Inv (base:=base) C ops s m tm cur W r0 w0 (fun j=>listed.getD j false) r a w→(∀ j,j < m→listed.getD j false = true)→wpAnyIn F n C.P .any ops Q fuel listed a w:=fun fuel listed r a w hsz hf hhi I hall=>by
  have hfull:=hOf_full T (S:=fun j=>listed.getD j false) hall
  have hcnt:∀ N,m ≤ N→N - m ≤ cnt (fun j=>listed.getD j false) N:=fun N=>by
   induction N with
   | zero=>intro h;omega
   | succ N ih=>
     intro h
     simp only [cnt]
     by_cases e:m ≤ N
     ·have:=ih e
      have h2:=hhi N e
      rw [h2];simp only;omega
     ·omega
  have hS:SR C.G C.GB base r ⟨tm m,cur m⟩ a w:=by
   refine ⟨by rw [I.size,T.tlen m (Nat.le_refl _)],fun j v hv=>?_,by rw [← hfull];exact I.heap,I.marks.step H0 I.stp⟩
   refine I.tmps j v ?_
   rw [cT,lw_upto m (fun k hk hm=>T.frameT j k hk hm) (fun j' hj' _=>hall j' hj')]
   exact hv
  refine tail_sound ok hcall T.tail hlow hF hQ fuel m listed ⟨tm m,cur m⟩ r a w (Nat.le_refl _) T.le ?_ hsz hall hhi (by rw [← hfull];exact I.stp) hS T.run
  have:=hcnt ops.size T.le
  omega
 intro fuel
 induction fuel with
 | zero=>
   intro listed r a w hsz hf hc hhi I
   exact fin 0 listed r a w hsz hf hhi I fun j hj=>cnt_zero (S:=fun j=>listed.getD j false) ops.size (by omega) j (by have:=T.le;omega)
 | succ fuel ih=>
   intro listed r a w hsz hf hc hhi I
   by_cases hall:∀ j,j < m→listed.getD j false = true
   ·exact fin _ listed r a w hsz hf hhi I hall
   ·obtain ⟨j,hj⟩:=Classical.not_forall.1 hall
    obtain ⟨hj1,hj2⟩:=Classical.not_imp.1 hj
    have hj3:listed.getD j false = false:=by simpa using hj2
    have hle:=T.le
    refine ⟨fun hnil=>absurd hnil (not_stuck hsz hlow (j + 1) j (by omega) (by omega) hj3),fun i hi=>?_⟩
    obtain ⟨h1,h2,o,ho,h3⟩:=ready_closed hc hi
    have him:i < m:=by
     rcases Nat.lt_or_ge i m with h | h
     ·exact h
     ·have hb:(bsFn ops i).testBit j = true:=by
       rw [T.tail i h (by omega),Nat.testBit_two_pow_sub_one]
       simp;omega
      have:=h3 j hb
      rw [hj3] at this;cases this
    refine draw_step ok hcall T I hc him h2 h3 hF fun r1 a1 w1 I1=>?_
    have hset:=listed_set (listed:=listed) h1
    refine ih _ r1 a1 w1 (by simpa using hsz) ?_ ?_ (fun k hk=>?_) ?_
    ·rw [hset]
     have:=cnt_add (S:=fun j=>listed.getD j false) h2 ops.size (by omega)
     omega
    ·rw [hset];exact hc.add h3
    ·have this:(listed.setIfInBounds i true).getD k false = addS (fun j=>listed.getD j false) i k:=congrFun hset k
     rw [this,addS_ne _ (by omega)];exact hhi k hk
    ·rw [hset];exact I1
theorem drawIn_sound (ok:CfgOk C) (hcall:CallOK C call) {id:Nat} {ws:List (Option Nat)} (hr:drawIn C call ops ws s = some s')
  {F:Fence} {n:Nat} {r:Ren} {a:Act} {w:World} {Q:Exit→Act→World→Prop} (hF:Wide F) (H:SR C.G C.GB base r s a w)
  (hQ:∀ r' a' w',Step r s.heap w r' s'.heap w'→SR C.G C.GB base r' s' a' w'→Q .normal a' w'):(Code.region id ops true).wpIn F n C.P Q a w:=by
 obtain ⟨m,tm,cur,W,T⟩:=draw_trace hr
 refine wpIn_region_any ok.mixed ?_
 have hH:SR C.G C.GB base r s a { w with drawn:=w.drawn + 1 }:=⟨H.size,H.tmps,H.heap.drew _,H.marks⟩
 have hrep:(fun j=>(Array.replicate ops.size false).getD j false) = fun _=>false:=by
  funext j;simp [Array.getD_eq_getD_getElem?,Array.getElem?_replicate];split <;> rfl
 refine quiet_sound ok hcall T hF hH.heap (fun r' a' w' S hS=>hQ r' a' w' ((Step.drew r s.heap w _).trans S) hS) ops.size _ r a _ (by simp) ?_ ?_ (fun k _=>congrFun hrep k) ?_
 ·have:∀ (S:Nat→Bool) N,cnt S N ≤ N:=fun S N=>by
   induction N with
   | zero=>exact Nat.le_refl _
   | succ N ih=>simp only [cnt];split <;> omega
  exact this _ _
 ·rw [hrep];intro i j h;simp at h
 ·rw [hrep];exact inv_start T hH
theorem unm_sound {G:Gl} {GB:Nat} {r:Ren} {h:Heap} {w:World} (H:HR G GB r h w) (b:Nat):HR G GB r (unm h b) w∧Step r h w r (unm h b) w:=by
 unfold unm
 split
 ·rename_i cells m hat
  cases hm:Nat.beq m b with
  | true=>exact ⟨H,.refl _ _ _⟩
  | false=>
    have hne:m ≠ b:=fun e=>by subst e;simp at hm
    obtain ⟨t,hr,_,hobj⟩:=H.obj b (by rw [hat];rfl)
    rw [hat] at hobj
    have:=H.upd (w':=w) (b:=b) (by rw [hat];rfl) hr (.row cells true none) rfl rfl rfl rfl (fun _ _=>rfl) ⟨hobj.1,hobj.2.1,hobj.2.2⟩ (by rw [hat];simpa [AObj.mate] using hne)
    rw [hat] at this
    exact this
 ·exact ⟨H,.refl _ _ _⟩
theorem unms_sound {G:Gl} {GB:Nat} {r:Ren} {w:World}:∀ (ws:List (Option Nat)) {h:Heap},HR G GB r h w→HR G GB r (unms ws h) w∧Step r h w r (unms ws h) w
 | [],_,H=>⟨H,.refl _ _ _⟩
 | none :: ws,_,H=>unms_sound ws H
 | some b :: ws,_,H=>
   let ⟨a1,a2⟩:=unm_sound H b
   let ⟨b1,b2⟩:=unms_sound ws a1
   ⟨b1,a2.trans b2⟩
theorem draw_sound (ok:CfgOk C) (hcall:CallOK C call) {id:Nat} (hr:runDraw C call ops s = some s')
  {F:Fence} {n:Nat} {r:Ren} {a:Act} {w:World} {Q:Exit→Act→World→Prop} (hF:Wide F) (H:SR C.G C.GB base r s a w)
  (hQ:∀ r' a' w',Step r s.heap w r' s'.heap w'→SR C.G C.GB base r' s' a' w'→Q .normal a' w'):(Code.region id ops true).wpIn F n C.P Q a w:=by
 unfold runDraw at hr
 obtain ⟨U1,U2⟩:=unms_sound (hintsFor C call ops (ops.toList.take (quietLen (CheckFast.beforeL ops.toList 0 []) 0 0)) s) H.heap
 exact drawIn_sound ok hcall hr hF ⟨H.size,H.tmps,U1,H.marks⟩ fun r' a' w' S hS=>hQ r' a' w' (U2.trans S) hS
end T
end
end Go.Am
namespace Go.Am
noncomputable section
open Go Go.RowKit
variable {C:Cfg} {base:Nat}
theorem loadV_run {P:Program} {G:Gl} {GB:Nat} {t:TypeId} {x:ATy} {b off:Nat} {v up:Value} {r:Ren} {h:Heap} {w:World} (hi:P.info? t = some x.info) (hu:P.underlying t = some x.desc)
  (H:HR G GB r h w) (h1:VR r (.pointer (some ⟨b,off,none⟩)) up) (hl:loadV G x h b off = some v) :
  ∃ bb oo u,up = .pointer (some ⟨bb,oo,none⟩)∧(loadVar t ⟨bb,oo,none⟩).run P w = .ok u w∧VR r v u:=by
 unfold loadV at hl
 cases hc:cellsAt G h b with
 | none=>simp [hc] at hl
 | some cells=>
   simp only [hc] at hl
   obtain ⟨bb,oo,hp,hr⟩:=H.read h1 hc
   cases hg:isAggD x.desc with
   | true=>
     simp only [hg] at hl
     cases hcut:cut cells off x.info.size with
     | none=>simp [hcut] at hl
     | some cs=>
       simp only [hcut,Option.some.injEq] at hl
       subst hl
       obtain ⟨us,hlen,hus,hvs⟩:=reads_list (r:=r) (w:=w) (bb:=bb) (oo:=oo) cs (fun j c hj=>hr j c (cut_get hcut j c hj).2)
       refine ⟨bb,oo,.agg us.toArray,hp,?_,?_⟩
       ·have hll:=run_loadCells_list (P:=P) w ⟨bb,oo,none⟩ us hus
        rw [hlen,cut_len hcut] at hll
        simp [loadVar,run_isAgg w hu,hg,run_sizeOf w hi,hll]
       ·refine .agg _ _ (by simp [hlen]) fun j h1 h2=>?_
        obtain ⟨u,hu1,hv1⟩:=hvs j cs[j] (by simp at h1;simp [h1])
        simp at h2
        simp [h2] at hu1
        simpa [hu1] using hv1
   | false=>
     simp only [hg] at hl
     obtain ⟨xx,hx,hv⟩:=hr 0 v (by simpa using hl)
     refine ⟨bb,oo,xx,hp,?_,hv⟩
     simp only [Nat.add_zero] at hx
     simp [loadVar,run_isAgg w hu,hg,hx]
def resSem (tmps:Array Value):ResultVar→Sem Value
 | .tmp t=>pure (tmps.getD t undef)
 | .cell a t=>do loadVar t (← asAddr (tmps.getD a undef))
theorem resVs_run (ok:CfgOk C) {r:Ren} {h:Heap} {w:World} {tm:List Value} {at_:Array Value} (H:HR C.G C.GB r h w)
  (htm:∀ t,VR r (nthR tm t undef) (at_.getD t undef)):∀ (rs:List ResultVar) (vs:List Value),resVs C h tm rs = some vs →
   ∃ us,(rs.mapM (resSem at_)).run C.P w = .ok us w∧VRs r vs us
 | [],vs,hr=>by
   simp only [resVs,Option.some.injEq] at hr
   subst hr
   exact ⟨[],by simp,VRs.nil r⟩
 | x :: rs,vs,hr=>by
   simp only [resVs] at hr
   cases h1:resV C h tm x with
   | none=>simp [h1] at hr
   | some v=>
     cases h2:resVs C h tm rs with
     | none=>simp [h1,h2] at hr
     | some vs'=>
       simp only [h1,h2,Option.some.injEq] at hr
       subst hr
       obtain ⟨us,e1,e2⟩:=resVs_run ok H htm rs vs' h2
       have hx:∃ u,(resSem at_ x).run C.P w = .ok u w∧VR r v u:=by
        cases x with
        | tmp t=>
          simp only [resV,Option.some.injEq] at h1
          subst h1
          exact ⟨_,by simp [resSem],htm t⟩
        | cell a t=>
          simp only [resV] at h1
          split at h1
          ·rename_i b off x hp hx
           have hv:=htm a
           rw [hp] at hv
           obtain ⟨hi,hu⟩:=ok.ty t x hx
           obtain ⟨bb,oo,u,p1,p2,p3⟩:=loadV_run hi hu H hv h1
           refine ⟨u,?_,p3⟩
           simp only [resSem,p1]
           simp [asAddr,p2]
          ·cases h1
       obtain ⟨u,f1,f2⟩:=hx
       refine ⟨u :: us,?_,.cons f2 e2⟩
       simp [List.mapM_cons,f1,e1]
theorem tupV_vr {r:Ren} {vs us:List Value} (h:VRs r vs us):VR r (tupV vs) (if h:us.toArray.size = 1 then us.toArray[0] else .tuple us.toArray):=by
 unfold tupV
 split
 ·rename_i v
  match us,h with
  | [],h=>simp [VRs] at h
  | [u],h=>
    obtain ⟨u',hu,hv⟩:=h.2 0 v rfl
    simp at hu;subst hu
    simpa using hv
  | _ :: _ :: _,h=>simp [VRs] at h
 ·rename_i hne
  have:us.toArray.size ≠ 1:=fun e=>by
   have h1:vs.length = 1:=by rw [h.1];simpa using e
   obtain ⟨v,hv⟩:=List.length_eq_one_iff.1 h1
   exact hne v hv
  rw [dif_neg this]
  exact h.tup
theorem results_run (ok:CfgOk C) {r:Ren} {h:Heap} {w:World} {tm:List Value} {at_:Array Value} (H:HR C.G C.GB r h w)
  (htm:∀ t,VR r (nthR tm t undef) (at_.getD t undef)) {fn:Func} {fd:AFn} (hf:fn.results.toList = fd.results) {vs:List Value} (hr:resVs C h tm fd.results = some vs) :
  ∃ u,(results fn at_).run C.P w = .ok u w∧VR r (tupV vs) u:=by
 obtain ⟨us,h1,h2⟩:=resVs_run ok H htm fd.results vs hr
 refine ⟨_,?_,tupV_vr h2⟩
 have e:results fn at_ = (fn.results.mapM (resSem at_) >>= fun vs=>pure (if h:vs.size = 1 then vs[0] else .tuple vs)):=by
  unfold results
  congr 2
 rw [e,Array.mapM_eq_mapM_toList,hf]
 simp [h1]
theorem SR.getD {r:Ren} {s:St} {a:Act} {w:World} (h:SR C.G C.GB base r s a w) (t:Tmp):VR r (s.tmps.getD t undef) (a.tmps.getD t undef):=by
 have:=h.ev (.tmp t)
 simpa [St.ev,nthR_eq,Act.eval] using this
theorem ObjR.not_def {r:Ren} {w w':World} {t:Tgt} {o:AObj} {x:Option (List Deferred)} (hb:w.heap[t.blk]? = some (.deferred x)) (h:ObjR r w t o):ObjR r w' t o:=by
 cases o with
 | dead=>trivial
 | row cells own m=>
   have hnil:cells = []:=by
    cases cells with
    | nil=>rfl
    | cons c cs=>
      obtain ⟨u,hu,_⟩:=h.2.1 0 c rfl
      simp [World.cell?,hb] at hu
   subst hnil
   refine ⟨h.1,fun j c hc=>by simp at hc,fun ho=>?_⟩
   obtain ⟨arr,e,he,_⟩:=h.2.2 ho
   rw [hb] at he;cases he
 | vec ks l ow=>
   obtain ⟨h0,h1,h2,h3⟩:=h
   refine ⟨h0,h1,h2,fun hn=>?_⟩
   obtain ⟨_,p2,_⟩:=h3 hn
   exfalso
   have hg:=nth_get (l:=l) hn
   obtain ⟨v,hv,_⟩:=(p2 0 _ hg).get h0 0 h1.2.1
   simp [World.cell?,hb] at hv
 | map es ow=>obtain ⟨_,_,he,_⟩:=h;rw [hb] at he;cases he
 | iter s p=>have:=h.2;rw [hb] at this;cases this
 | loop l=>obtain ⟨L,he,_⟩:=h;rw [hb] at he;cases he
theorem RowIn.monoD {I:Nat→Prop} {w w':World} (hw:∀ b,I b→w'.heap[b]? = w.heap[b]? ∨ ∃ x,w.heap[b]? = some (.deferred x)):∀ {ks:List Kd} {x:Tup ks} {f:Nat→Option Value},RowIn I w ks x f→RowIn I w' ks x f
 | [],_,_,_=>trivial
 | k :: ks,_,_,⟨⟨u,h1,h2⟩,h3⟩=>⟨⟨u,h1,by
   cases k with
   | list ks=>
     rcases h2 with h | ⟨h0,b,off,cap,h1,h2,h3,h4⟩
     ·exact .inl h
     ·exact .inr ⟨h0,b,off,cap,h1,h2,h3,fun i x hx j c hc=>by
       have h5:=h4 i x hx j c hc
       rcases hw b h3 with e | ⟨y,e⟩
       ·rw [← h5];simp only [World.cell?,e]
       ·simp [World.cell?,e] at h5⟩
   | _=>exact h2⟩,RowIn.monoD (ks:=ks) hw h3⟩
theorem ObjR.of_blockD {r:Ren} {w w':World} {t:Tgt} {o:AObj} (hb:w'.heap[t.blk]? = w.heap[t.blk]?) (hi:∀ k,t.inn k→w'.heap[k]? = w.heap[k]? ∨ ∃ x,w.heap[k]? = some (.deferred x)) (h:ObjR r w t o):ObjR r w' t o:=by
 cases o with
 | vec ks l ow=>
   obtain ⟨h0,h1,h2,h3⟩:=h
   refine ⟨h0,h1,h2,fun hn=>?_⟩
   obtain ⟨a,b,c⟩:=h3 hn
   exact ⟨a,fun i x hx=>((b i x hx).monoD hi).congr fun j _=>by simp only [World.cell?,hb],fun ho=>by rw [hb];exact c ho⟩
 | dead=>trivial
 | row cells own m=>
   have h':ObjR r w { t with inn:=no } (.row cells own m):=h
   exact ObjR.of_block (t:={ t with inn:=no }) (.refl r) hb (fun _ h=>h.elim) h'
 | map es ow=>
   have h':ObjR r w { t with inn:=no } (.map es ow):=h
   exact ObjR.of_block (t:={ t with inn:=no }) (.refl r) hb (fun _ h=>h.elim) h'
 | iter s p=>
   have h':ObjR r w { t with inn:=no } (.iter s p):=h
   exact ObjR.of_block (t:={ t with inn:=no }) (.refl r) hb (fun _ h=>h.elim) h'
 | loop l=>
   have h':ObjR r w { t with inn:=no } (.loop l):=h
   exact ObjR.of_block (t:={ t with inn:=no }) (.refl r) hb (fun _ h=>h.elim) h'
theorem HR.shut {G:Gl} {GB:Nat} {r:Ren} {h:Heap} {w:World} (H:HR G GB r h w) {k:Nat} {x y:Option (List Deferred)} (hk:w.heap[k]? = some (.deferred x)) (hg:GB ≤ k) :
  HR G GB r h (w.putObj k (.deferred y)):=by
 have other:∀ j,j ≠ k→(w.putObj k (.deferred y)).heap[j]? = w.heap[j]?:=fun j hj=>World.putObj_heap_other hj
 refine ⟨H.dom,fun b hb=>?_,H.exc,H.glob_keep fun j hj=>other j (by omega),by rw [World.putObj_size];exact H.gb,H.own,fun b t hb hr j hj=>by rw [World.putObj_size];exact H.frz b t hb hr j hj⟩
 obtain ⟨t,h1,h2,h3⟩:=H.obj b hb
 refine ⟨t,h1,by rw [World.putObj_size];exact h2,?_⟩
 by_cases e:t.blk = k
 ·exact h3.not_def (by rw [e];exact hk)
 ·exact ObjR.of_blockD (other _ e) (fun j _=>by
   by_cases ej:j = k
   ·subst ej;exact .inr ⟨_,hk⟩
   ·exact .inl (other j ej)) h3
theorem leaves_marks {F:Fence} {n:Nat} {P:Program} {fn:Func} {tmps:Array Value} {R:Ending→World→Prop} {G:Gl} {GB:Nat} {r r0:Ren} {h h0:Heap} {w0:World} :
  ∀ (rs:List Nat) (w:World),rs.Nodup→(∀ x ∈ rs,w0.heap.size ≤ x∧w.heap[x]? = some (.deferred (some [])))→HR G GB r h w→GB ≤ w0.heap.size→Step r0 h0 w0 r h w →
   (∀ w',HR G GB r h w'→Step r0 h0 w0 r h w'→∃ v,(results fn tmps).run P w' = .ok v w'∧R (.returned v) w') →
   LeavesInM F n P fn tmps R (rs.map fun r=>{ target:=.collected r,args:=#[] }) .returning w
 | [],w,_,_,H,_,S,hR=>hR w H S
 | x :: rs,w,hn,hm,H,hg,S,hR=>by
   obtain ⟨h1,h2⟩:=hm x (by simp)
   refine ⟨by simp,.inl ⟨x,w.putObj x (.deferred none),rfl,run_takeDeferred h2,?_⟩⟩
   have hx:x ∉ rs:=(List.nodup_cons.1 hn).1
   refine leaves_marks rs _ (List.nodup_cons.1 hn).2 (fun y hy=>?_) (H.shut h2 (by omega)) hg ?_ hR
   ·obtain ⟨a,b⟩:=hm y (by simp [hy])
    have hne:y ≠ x:=fun e=>hx (by rw [← e];exact hy)
    exact ⟨a,by rw [World.putObj_heap_other hne];exact b⟩
   ·refine ⟨S.le,S.os,S.tape,S.output,by rw [World.putObj_size];exact S.size,fun k hk ho=>?_,fun k hk ho=>S.own k hk ho,S.len,S.fresh,S.mine⟩
    rw [World.putObj_heap_other (by omega)];exact S.keep k hk ho
def EvOK (C:Cfg) (E:EvC):Prop:=∀ inr c s e s',E inr c s = some (e,s') →
 ∀ (F:Fence) (n:Nat) (base:Nat) (r:Ren) (a:Act) (w:World) (Q:Exit→Act→World→Prop),Wide F→(inr = false→F.round = none)→SR C.G C.GB base r s a w →
  base ≤ w.heap.size→(∀ r' a' w',Step r s.heap w r' s'.heap w'→SR C.G C.GB base r' s' a' w'→Q e.toExit a' w')→c.wpIn F n C.P Q a w
def CallI (C:Cfg) (g:FuncId) (argv:List Value) (h:Heap) (v:Value) (h':Heap):Prop:=
 ∀ (F:Fence) (n:Nat) (r:Ren) (w:World) (args:Array Value),Wide F→F.round = none→HR C.G C.GB r h w→VRs r argv args.toList →
  CallsIn F n C.P g args w fun e w'=>∃ u r',e = .returned u∧Step r h w r' h' w'∧HR C.G C.GB r' h' w'∧VR r' v u
theorem callBody_sound (ok:CfgOk C) {E:EvC} (hE:EvOK C E) {g:FuncId} {fd:AFn} (hg:C.fn g = some fd) {argv:List Value} {h h':Heap} {v:Value} (hv:callBody C E fd argv h = some (v,h')) :
  CallI C g argv h v h':=by
 intro F n r w args hF hro H hargs
 obtain ⟨fn,f1,f2,f3,f4,f5⟩:=ok.fn g fd hg
 refine callsIn_of_wp_marks f1 f2 (hF.1 g) ?_ hro
 unfold callBody at hv
 have hS:SR C.G C.GB w.heap.size r ⟨argv++List.replicate (fd.ntmps - argv.length) undef,h⟩ { tmps:=args++Array.replicate (fn.ntmps - args.size) undef,defers:=[] } w:=by
  have hl:argv.length = args.size:=by have:=hargs.1;simpa using this
  refine ⟨by simp [hl,f3],fun j x hj=>?_,H,⟨[],rfl,by simp,by simp⟩⟩
  rcases Nat.lt_or_ge j argv.length with h1 | h1
  ·simp only at hj
   rw [List.getElem?_append_left h1] at hj
   obtain ⟨u,hu,hv⟩:=hargs.2 j x hj
   refine ⟨u,?_,hv⟩
   simp only
   rw [Array.getElem?_append_left (by omega)]
   simpa using hu
  ·simp only at hj
   rw [List.getElem?_append_right h1,List.getElem?_replicate] at hj
   split at hj
   ·rename_i hlt
    simp only [Option.some.injEq] at hj
    subst hj
    refine ⟨undef,?_,.tup _ _ rfl fun j h=>by simp at h⟩
    simp only
    rw [Array.getElem?_append_right (by omega),Array.getElem?_replicate,if_pos (by omega)]
   ·cases hj
 have fin:∀ (s':St) (vs:List Value),resVs C s'.heap s'.tmps fd.results = some vs→tupV vs = v→s'.heap = h'→∀ r' a' w',Step r h w r' s'.heap w'→SR C.G C.GB w.heap.size r' s' a' w' →
   LeavesInM F n C.P fn a'.tmps (fun e w'=>∃ u r',e = .returned u∧Step r h w r' h' w'∧HR C.G C.GB r' h' w'∧VR r' v u) a'.defers .returning w':=fun s' vs hvs hv hh r' a' w' S hSR=>by
  subst hv hh
  obtain ⟨rs,e1,e2,e3⟩:=hSR.marks
  rw [e1]
  refine leaves_marks rs w' e2 e3 hSR.heap H.gb.1 S fun w2 H2 S2=>?_
  obtain ⟨u,p1,p2⟩:=results_run ok H2 (fun t=>by rw [nthR_eq];exact hSR.getD t) f4 hvs
  exact ⟨u,p1,u,r',rfl,S2,H2,p2⟩
 cases hev:E false fd.body ⟨argv++List.replicate (fd.ntmps - argv.length) undef,h⟩ with
 | none=>simp [hev] at hv
 | some es=>
   obtain ⟨e,s'⟩:=es
   have key:e ≠ .normal→e ≠ .ret→False:=fun h1 h2=>by
    cases e with
    | normal=>exact h1 rfl
    | ret=>exact h2 rfl
    | exit id=>simp [hev] at hv
   cases hvs:resVs C s'.heap s'.tmps fd.results with
   | none=>cases e <;> simp [hev,hvs] at hv
   | some vs=>
     have hv':tupV vs = v∧s'.heap = h':=by
      cases e with
      | exit id=>simp [hev] at hv
      | normal=>simpa [hev,hvs] using hv
      | ret=>simpa [hev,hvs] using hv
     refine hE false fd.body _ e s' hev F n w.heap.size r _ w _ hF (fun _=>hro) hS (Nat.le_refl _) fun r' a' w' S hSR=>?_
     cases e with
     | exit id=>exact (key (by simp) (by simp)).elim
     | normal=>exact fin s' vs hvs hv'.1 hv'.2 r' a' w' S hSR
     | ret=>exact fin s' vs hvs hv'.1 hv'.2 r' a' w' S hSR
end
end Go.Am
