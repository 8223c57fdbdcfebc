/-
 A part of the proof of the statement that the claim names: see the last file.
-/
import Derived.Test.YtifnpljmjhnbaaaGreatDoorM5
import Derived.Test.YtifnpljmjhnbaaaGreatDoorAm5
import Derived.Test.YtifnpljmjhnbaaaGreatDoorRows
import Derived.ProofKit
import Derived.MakeChecks
import Derived.Stop.Joined
namespace Go.Proofs.YtifnpljmjhnbaaaGreatDoor
open Go Go.Am Go.RowKit Go.ChangeShapes Go.WideShapes Go.ChangeAt
set_option maxRecDepth 100000
def lname (i : Nat) : String := (Rows.monitorChecksRow.laid.map (·.1)).getD i ""
def ldata (i:Nat):DataW Unit:=(Rows.monitorChecksRow.laid.map (·.2)).getD i .nil
def inside:DataW Unit→DataW Unit
 | .iface _ d=>d
 | d=>d
theorem gPlaces:Tryz.prog.globalNamed (lname 3) = some 0:=by kernel_rfl
theorem tPlaces:(Tryz.prog.globals[0]?).map (·.type) = some 230:=by kernel_rfl
theorem gPow:Tryz.prog.globalNamed (lname 2) = some 1:=by kernel_rfl
theorem tPow:(Tryz.prog.globals[1]?).map (·.type) = some 285:=by kernel_rfl
theorem gBruijn:Tryz.prog.globalNamed (lname 1) = some 7:=by kernel_rfl
abbrev tBru:Nat:=298
def ldList:DataW Unit→List (DataW Unit)
 | .agg l=>l
 | _=>[]
abbrev placeCells:List Value:=[.string ⟨#[116,105,109,101]⟩,.func (.func 257) #[] #[],.string ⟨#[101,110,101,114,103,121]⟩,.func (.func 258) #[] #[]]
theorem str_cell {P:Program} {w:World} {H:Type} {enc:TypeId × Value→H} {base:Nat} {sp:Nat→Bool} {held:Bool} {fuel:Nat} {t:TypeId} {v:Value} {s:List UInt8} {q:List MemPlace} (hu:P.underlying t = some .string)
  (h:DataW.trod enc P w base sp held fuel t [v] = some (.lit (.string s),q)):v = .string ⟨s.toArray⟩:=by
 obtain ⟨z,hc,hz,_⟩:=DataW.trod_string hu h
 simp only [Prod.mk.injEq,DataW.lit.injEq,Lit.string.injEq] at hz
 simp only [List.cons.injEq,and_true] at hc
 rw [hc,hz.1]
theorem len_two {α:Type}:∀ {l:List α},l.length = 2→∃ a b,l = [a,b]
 | [a,b],_=>⟨a,b,rfl⟩
 | [],h=>by simp at h
 | [_],h=>by simp at h
 | _ :: _ :: _ :: _,h=>by simp at h
theorem one_place {w:World} {fuel:Nat} {c0 c1:Value} {b:UInt8} {r s:List UInt8} {f0:FuncId} {q:List MemPlace}
  (hone:((List.range Tryz.prog.funcs.size).filter fun f=>(Tryz.prog.funcs[f]?).any (·.name.toUTF8.data.toList == b :: r)) = [f0])
  (h:DataW.trod (funcToken Tryz.prog) Tryz.prog w 0 (fun _=>true) true fuel 229 [c0,c1] = some (.agg [.lit (.string s),.held (b :: r)],q)) :
  c0 = .string ⟨s.toArray⟩∧c1 = .func (.func f0) #[] #[]:=by
 have hu:Tryz.prog.underlying 229 = some (.struct (Tryz.prog.fieldsOf 229)):=by kernel_rfl
 obtain ⟨f,hf⟩:=trod_struct_get hu h
 have hfs:(Tryz.prog.fieldsOf 229).toList.map (fun fd=>(fd.type,fd.offset,Tryz.prog.cellsOf fd.type)) = [(9,0,1),(227,1,1)]:=by kernel_rfl
 obtain ⟨a0,a1,hfl⟩:∃ a0 a1,(Tryz.prog.fieldsOf 229).toList = [a0,a1]:=len_two (by
  have:=congrArg List.length hfs
  simpa using this)
 rw [hfl] at hfs
 simp only [List.map_cons,List.map_nil,List.cons.injEq,Prod.mk.injEq,and_true] at hfs
 obtain ⟨⟨x1,x2,x3⟩,⟨y1,y2,y3⟩⟩:=hfs
 obtain ⟨d0,q0,e0,h0⟩:=hf 0 a0 (by rw [hfl];rfl)
 obtain ⟨d1,q1,e1,h1⟩:=hf 1 a1 (by rw [hfl];rfl)
 simp at e0 e1
 subst e0 e1
 rw [x1,x2] at h0
 rw [y1,y2] at h1
 have c1':Tryz.prog.cellsOf 9 = 1:=by kernel_rfl
 have c3':Tryz.prog.cellsOf 227 = 1:=by kernel_rfl
 rw [c1'] at h0
 rw [c3'] at h1
 simp only [List.drop_zero,List.take_succ_cons,List.take_zero,List.drop_succ_cons] at h0 h1
 have u227:Tryz.prog.underlying 227 = some (.func #[98,99,3] #[4] false):=by kernel_rfl
 exact ⟨str_cell Tryz.underlying9 h0,func_of_trod u227 hone h1⟩
theorem places_of {W:World} (hL:laidMetH Tryz.prog Rows.monitorChecksRow.laid W):∀ (j:Nat),W.cell? ⟨0,j,none⟩ = placeCells[j]?:=by
 obtain ⟨g,t,cs,fuel,p,hg,ht,hv,hd⟩:=hL.funcs (n:=lname 3) (d:=inside (ldata 3)) (List.mem_of_getElem? (i:=3) rfl)
 obtain rfl:=Option.some.inj (gPlaces.symm.trans hg)
 obtain rfl:=Option.some.inj (tPlaces.symm.trans ht)
 have u230:Tryz.prog.underlying 230 = some (.array 2 229):=by kernel_rfl
 have hs:cs.toList = placeCells:=by
  have hd':∃ l0 l1:List UInt8,∃ b0 b1:UInt8,DataW.trod (funcToken Tryz.prog) Tryz.prog W 0 (fun _=>true) true fuel 230 cs.toList = some (.agg [.agg [.lit (.string [116,105,109,101]),.held (b0 :: l0)],.agg [.lit (.string [101,110,101,114,103,121]),.held (b1 :: l1)]],p) ∧
    ((List.range Tryz.prog.funcs.size).filter fun f=>(Tryz.prog.funcs[f]?).any (·.name.toUTF8.data.toList == b0 :: l0)) = [257]∧((List.range Tryz.prog.funcs.size).filter fun f=>(Tryz.prog.funcs[f]?).any (·.name.toUTF8.data.toList == b1 :: l1)) = [258]:=
   ⟨_,_,_,_,hd,by kernel_rfl,by kernel_rfl⟩
  obtain ⟨l0,l1,b0,b1,hd',n0,n1⟩:=hd'
  obtain ⟨hl,f,hel⟩:=trod_array_get u230 hd'
  have c253:Tryz.prog.cellsOf 230 = 4:=by kernel_rfl
  have c252:Tryz.prog.cellsOf 229 = 2:=by kernel_rfl
  rw [c253] at hl
  rw [c252] at hel
  match hcl:cs.toList,hl with
  | [x0,x1,x2,x3],_=>
    rw [hcl] at hel
    obtain ⟨d0,q0,e0,h0⟩:=hel 0 (by omega)
    obtain ⟨d1,q1,e1,h1⟩:=hel 1 (by omega)
    simp only [List.getElem?_cons_zero,List.getElem?_cons_succ,Option.some.injEq] at e0 e1
    subst e0 e1
    obtain ⟨rfl,rfl⟩:=one_place n0 h0
    obtain ⟨rfl,rfl⟩:=one_place n1 h1
    rfl
 intro j
 have:=World.var?_cell hg hv j
 rw [this,← Array.getElem?_toList,hs]
theorem plain_of {W:World} (hL:laidMetH Tryz.prog Rows.monitorChecksRow.laid W):laidMet Tryz.prog [(lname 0,ldata 0),(lname 1,ldata 1),(lname 2,ldata 2)] W:=by
 have h':laidMet Tryz.prog [(lname 0,ldata 0),(lname 1,ldata 1),(lname 2,ldata 2)] W∧handlesMet Tryz.prog [(lname 3,ldata 3)] W:=hL
 exact h'.1
theorem pow_of {W:World} (hL:laidMetH Tryz.prog Rows.monitorChecksRow.laid W):Lib.TabIs Tryz.prog W (lname 2) .u64 Lib.pow10Tab:=by
 obtain ⟨ps,⟨_,_,_,_,_,_,_,_,_,_,⟨_,_,_,_,_,_,_,_,_,_,⟨g,t,cs,fuel,p,q,hg,ht,hvar,hd,_,_⟩,_⟩,_⟩,_⟩:=plain_of hL
 obtain rfl:=Option.some.inj (gPow.symm.trans hg)
 obtain rfl:=Option.some.inj (tPow.symm.trans ht)
 unfold Lib.TabIs
 have u314:Tryz.prog.underlying 285 = some (.array 20 253):=by kernel_rfl
 have u289:Tryz.prog.underlying 253 = some (.int .u64):=by kernel_rfl
 rw [hvar,← Lib.cells_of_tab u314 u289 (by kernel_rfl) (by kernel_rfl) hd]
theorem size_of {W:World} (hL:laidMetH Tryz.prog Rows.monitorChecksRow.laid W):8 ≤ W.heap.size:=by
 obtain ⟨ps,⟨_,_,_,_,_,_,_,_,_,_,⟨g,t,cs,fuel,p,q,hg,ht,hvar,hd,_,_⟩,_⟩,_⟩:=plain_of hL
 obtain rfl:=Option.some.inj (gBruijn.symm.trans hg)
 have tB:(Tryz.prog.globals[7]?).map (·.type) = some tBru:=by kernel_rfl
 obtain rfl:=Option.some.inj (tB.symm.trans ht)
 have hb:Tryz.prog.underlying tBru = some (.array 64 5):=by kernel_rfl
 have hl:=(trod_array_get hb (show DataW.trod (fun _=>()) Tryz.prog W 0 (fun _=>true) false fuel tBru cs.toList = some (.agg (ldList (ldata 1)),p) from hd)).1
 have c64:Tryz.prog.cellsOf tBru = 64:=by kernel_rfl
 rw [c64] at hl
 have hc:=World.var?_cell hg hvar 0
 have hpos:0 < cs.size:=by rw [← Array.length_toList,hl];omega
 have h0:cs[0]? = some cs[0]:=Array.getElem?_eq_getElem hpos
 rw [h0] at hc
 exact World.block_lt_of_cell? W _ hc
theorem base_of {W:World} (hL:laidMetH Tryz.prog Rows.monitorChecksRow.laid W):Base (cfg W).G (cfg W).GB W:=by
 refine ⟨⟨fun g j c hc=>?_,fun _ _=>rfl⟩,size_of hL,show (8:Nat) ≤ K0 by decide,show (0:Nat) < 8 by decide⟩
 have hc:(gl g)[j]? = some c:=hc
 unfold gl at hc
 split at hc
 ·have hc:placeCells[j]? = some c:=hc
  refine ⟨by rw [places_of hL j];exact hc,?_,by show (0:Nat) < 8;omega⟩
  have:=List.mem_of_getElem? hc
  simp only [placeCells,List.mem_cons,List.not_mem_nil,or_false] at this
  rcases this with rfl | rfl | rfl | rfl <;> rfl
 ·simp at hc
theorem lib_of {W:World} (hL:laidMetH Tryz.prog Rows.monitorChecksRow.laid W):Lib0 W:=lib0 fun w hw n h1 h2=>by
 have hT:=pow_of hL
 have hT':Lib.TabIs Tryz.prog w (lname 2) .u64 Lib.pow10Tab:=by
  unfold Lib.TabIs at hT ⊢
  rw [← hT]
  unfold World.var?
  rw [gPow]
  simp only [Option.bind_some]
  rw [hw 1 (by omega)]
 exact Any.strconv_Itoa Tryz.laysM171 n h1 h2 w hT'
theorem own:ownKnob Tryz.prog.godebug = none:=by kernel_rfl
theorem laidOut:laidOutB Tryz.prog = true:=by kernel_rfl
theorem door_met (os:Os) (args:Array Value):laidMetH Tryz.prog Rows.monitorChecksRow.laid ((World.doorLaid Tryz.prog 600 os).forCall (fun _ _=>0) ⟨#[],args,[]⟩).memory:=
 laidMetH_of_parts3 (fuel:=8) (laidMet_of_run' 8 (by kernel_rfl) (by kernel_rfl)) (by kernel_rfl) (by kernel_rfl)
end Go.Proofs.YtifnpljmjhnbaaaGreatDoor
