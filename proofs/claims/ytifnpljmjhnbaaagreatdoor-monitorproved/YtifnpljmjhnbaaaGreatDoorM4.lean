/-
 A part of the proof of the statement that the claim names: see the last file.
-/
import Derived.Test.YtifnpljmjhnbaaaGreatDoorM1
import Derived.Test.YtifnpljmjhnbaaaGreatDoorM2
import Derived.Test.YtifnpljmjhnbaaaGreatDoorM3
import Derived.Test.YtifnpljmjhnbaaaGreatDoorAm5
import Derived.Shelf.Strconv.Itoa0
import Derived.Shelf.Strconv.Itoa1
import Derived.Shelf.LaysM
import Derived.Shelf.Strconv.Itoa2
import Derived.Shelf.Strconv.Itoa3
import Derived.Shelf.Small.Bits
import Derived.Ground.Names2Prog
import Derived.Test.YtifnpljmjhnbaaaGreatDoorProg
import Derived.Laws.Externs
import Derived.WalkKit
import Derived.Laws.BitsAllLaws
namespace Go.Proofs.YtifnpljmjhnbaaaGreatDoor
open Go Go.Am
set_option maxRecDepth 100000
abbrev I (n:Int):D:=.val (iv n)
abbrev Bo (b:Bool):D:=.val (.bool b)
abbrev Str (s:ByteArray):D:=.val (.string s)
structure Ctr where
 g:Nat
 F:List D→Option (Bool × D)
noncomputable def modeC (cs:List Ctr) (f:FuncId):Am.Mode:=
 match cs with
 | []=>modeF f
 | c :: r=>match Nat.beq f c.g with
   | true=>.specG c.F
   | false=>modeC r f
noncomputable def cfgC (w0:World) (cs:List Ctr):Cfg:={ cfg w0 with mode:=modeC cs }
theorem cfgC_ok (w0:World) (cs:List Ctr):CfgOk (cfgC w0 cs):=
 ⟨fun _ _ h=>Tr.get_all tyTr_all h,fun _ _ h=>Tr.get_all fnTr_all h,by kernel_rfl⟩
def Good (w0:World) (c:Ctr):Prop:=∀ ds d,c.F ds = some (true,d)→FnD (cfg w0) c.g ds d
def Lib0 (w0:World):Prop:=SpecOK (cfg w0)
def Goods (w0:World):List Ctr→Prop
 | []=>True
 | c :: cs=>Good w0 c∧Goods w0 cs
theorem specs_ok {w0:World} (h0:Lib0 w0):∀ {cs:List Ctr},Goods w0 cs→SpecOK (cfgC w0 cs)
 | [],_=>h0
 | c :: cs,⟨h1,h2⟩=>by
   have ih:=specs_ok h0 (cs:=cs) h2
   refine ⟨fun g Fn hm=>?_,fun g Fn hm=>?_,fun g Fn hm=>?_,fun g Fn hm=>?_⟩
   ·have hm:modeC (c :: cs) g = .spec Fn:=hm
    unfold modeC at hm
    split at hm
    ·cases hm
    ·exact ih.1 g Fn hm
   ·have hm:modeC (c :: cs) g = .specG Fn:=hm
    unfold modeC at hm
    split at hm
    ·rename_i e
     rw [Nat.beq_eq] at e
     cases hm
     intro ds d hd
     rw [e]
     exact h1 ds d hd
    ·exact ih.2.1 g Fn hm
   ·have hm:modeC (c :: cs) g = .specT Fn:=hm
    unfold modeC at hm
    split at hm
    ·cases hm
    ·exact ih.2.2.1 g Fn hm
   ·have hm:modeC (c :: cs) g = .specH Fn:=hm
    unfold modeC at hm
    split at hm
    ·cases hm
    ·exact ih.2.2.2 g Fn hm
theorem good_body {w0:World} (h0:Lib0 w0) {cs:List Ctr} (hcs:Goods w0 cs) (c:Ctr) (fd:AFn) (hfd:fnTr.get c.g = some fd)
  (H:∀ ds d,c.F ds = some (true,d)→∃ n,bodyK (cfgC w0 cs) n fd ds = some d):Good w0 c:=fun ds d hd=>by
 obtain ⟨n,hn⟩:=H ds d hd
 rw [bodyK_eq] at hn
 exact bodyD_sound (C:=cfgC w0 cs) (cfgC_ok w0 cs) (ev_sound (cfgC_ok w0 cs) (specs_ok h0 hcs) n) hfd hn
noncomputable section
def g1 (b:Bool) (k:Option D):Option D:=bif b then k else none
def an (b:Bool) (k:Option D):Option D:=bif b then k else some (Bo false)
def no (b:Bool) (k:Option D):Option D:=bif b then some (Bo false) else k
end
variable {w0:World}
def tG (F:List D→Option (Bool × D)) (ds:List D):FT D:=
 match F ds with
 | some (b,d)=>.br b (.leaf d) .bad
 | none=>.bad
noncomputable def old (cs:List Ctr):List Ct:=cs.map fun c=>⟨c.g,tG c.F⟩
theorem cfg_ok (w0:World):CfgOk (cfg w0):=⟨fun _ _ h=>Tr.get_all tyTr_all h,fun _ _ h=>Tr.get_all fnTr_all h,by kernel_rfl⟩
abbrev ik:Kd:=.int .i64
abbrev intK:List Kd:=[ik]
def t1 (n:Int):Tup intK:=(n,())
theorem lt_t {j n:Nat} (h:j < n):decide ((j:Int) < (n:Int)) = true:=by simp [h]
theorem ge_f (n:Nat):decide ((n:Int) < (n:Int)) = false:=by simp
theorem inb {j n:Nat} (z:Nat) (h:j < n):(Nat.beq z z && (decide (0 ≤ (j:Int)) && decide ((j:Int) < (n:Int)))) = true:=by
 simp [h]
theorem room {α:Type} {out:List α} {x:α} {k:Nat} (h:out.length ≤ 1000000) (hk:k ≤ 1000):(Nat.ble ((out++[x]).length * k) 1000000000000 && Nat.ble (out++[x]).length 1000000000000) = true:=by
 simp only [List.length_append,List.length_singleton,Bool.and_eq_true,Nat.ble_eq]
 have:(out.length + 1) * k ≤ 1000001 * 1000:=Nat.mul_le_mul (by omega) hk
 omega
theorem br_run {b:Bool} {x:FT D} {d:D} (h:(FT.br b x .bad).run = some d):b = true∧x.run = some d:=by
 cases b with
 | true=>exact ⟨rfl,h⟩
 | false=>cases h
def onX (x:X) (a b:D):D:=
 match x with
 | .ret=>a
 | _=>b
theorem fn_ls (h0:Lib0 w0) {cs:List Ct} (hcs:Gds (cfg w0) cs) {g:FuncId} {fd:AFn} (hfd:fnTr.get g = some fd) (rel:List (Nat × Cv)) {ks:List Kd} (l:List (Tup ks)) (hlen:l.length ≤ 1000000) {α:Type} (st:Int × α→List D)
  (f:Tup ks→α→X × α) (inv:Nat→α→Prop) {a0:α} (hi:inv 0 a0)
  (hr:∀ (j:Nat) a,j < l.length→inv j a→RdOK ((cfg w0).at cs) fd.ntmps rel (lpB 0 fd.body) (st ((j:Int),a)) (f (nth l j) a).1 (st (nx j (f (nth l j) a))))
  (hn:∀ (j:Nat) a a',j < l.length→inv j a→f (nth l j) a = (.normal,a')→inv (j + 1) a')
  (he:∀ a,inv l.length a→RdOK ((cfg w0).at cs) fd.ntmps rel (lpB 0 fd.body) (st ((l.length:Int),a)) (.exit 0) (st ((l.length:Int),a)))
  {ds:List D} {d:D} (hb:∀ x p,lsRun 0 f l 0 a0 = (x,p)→bodyT ((cfg w0).at cs) 40 [ldP 0 fd.ntmps rel (outX 0 x) (st p)] 40 fd ds = some ([(ldP 0 fd.ntmps rel (outX 0 x) (st p),.loop (lpB 0 fd.body),st (0,a0))],d)):FnD (cfg w0) g ds d:=by
 cases hx:lsRun 0 f l 0 a0 with
 | mk x p=>exact fnD_lp (cfg_ok w0) h0 hcs hfd (hb x p hx) (ldT_ls (at_ok (cfg_ok w0) cs) (at_sp h0 hcs) l (by omega) st f inv hr hn he hi hx)
theorem fn_rg (h0:Lib0 w0) {cs:List Ct} (hcs:Gds (cfg w0) cs) {g:FuncId} {fd:AFn} (hfd:fnTr.get g = some fd) (rel:List (Nat × Cv)) (k:Nat) (hk:k ≤ 1000000) {α:Type} (st:Int × α→List D)
  (f:Nat→α→X × α) (inv:Nat→α→Prop) {a0:α} (hi:inv 0 a0)
  (hr:∀ (j:Nat) a,j < k→inv j a→RdOK ((cfg w0).at cs) fd.ntmps rel (lpB 0 fd.body) (st ((j:Int),a)) (f j a).1 (st (nx j (f j a))))
  (hn:∀ (j:Nat) a a',j < k→inv j a→f j a = (.normal,a')→inv (j + 1) a')
  (he:∀ a,inv k a→RdOK ((cfg w0).at cs) fd.ntmps rel (lpB 0 fd.body) (st ((k:Int),a)) (.exit 0) (st ((k:Int),a)))
  {ds:List D} {d:D} (hb:∀ x p,rgRun 0 f k 0 a0 = (x,p)→bodyT ((cfg w0).at cs) 40 [ldP 0 fd.ntmps rel (outX 0 x) (st p)] 40 fd ds = some ([(ldP 0 fd.ntmps rel (outX 0 x) (st p),.loop (lpB 0 fd.body),st (0,a0))],d)):FnD (cfg w0) g ds d:=by
 cases hx:rgRun 0 f k 0 a0 with
 | mk x p=>exact fnD_lp (cfg_ok w0) h0 hcs hfd (hb x p hx) (ldT_rg (at_ok (cfg_ok w0) cs) (at_sp h0 hcs) (by omega) st f inv hr hn he hi hx)
end Go.Proofs.YtifnpljmjhnbaaaGreatDoor
namespace Go.Proofs
open Go.Shelf
def Tryz.laysM171_ren:Go.Shelf.Ren:=⟨fun | 171=>135 | 243=>169 | 246=>191 | 283=>207 | 284=>208 | 285=>209 | 286=>210 | 129=>183 | 317=>220 | 318=>221 | 319=>222 | 320=>223 | 337=>231 | 338=>232 | n=>n,fun | 3=>3 | 9=>9 | 2=>2 | 4=>4 | 171=>272 | 0=>0 | 53=>253 | 37=>243 | 5=>5 | 173=>274 | 212=>285 | 51=>132 | 20=>20 | 213=>286 | 46=>220 | 232=>297 | 233=>298 | n=>n,fun | 17=>1 | 18=>6 | 19=>7 | n=>n⟩
theorem Tryz.laysM171:Go.Proofs.LaysM.n171 Tryz.prog Tryz.laysM171_ren:={
 mixed:=by kernel_rfl
 f129:=Tryz.func183.trans (congrArg some (by kernel_rfl))
 f171:=Tryz.func135.trans (congrArg some (by kernel_rfl))
 f243:=Tryz.func169.trans (congrArg some (by kernel_rfl))
 f246:=Tryz.func191.trans (congrArg some (by kernel_rfl))
 f283:=Tryz.func207.trans (congrArg some (by kernel_rfl))
 f284:=Tryz.func208.trans (congrArg some (by kernel_rfl))
 f285:=Tryz.func209.trans (congrArg some (by kernel_rfl))
 f286:=Tryz.func210.trans (congrArg some (by kernel_rfl))
 f317:=Tryz.func220.trans (congrArg some (by kernel_rfl))
 f318:=Tryz.func221.trans (congrArg some (by kernel_rfl))
 f319:=Tryz.func222.trans (congrArg some (by kernel_rfl))
 f320:=Tryz.func223.trans (congrArg some (by kernel_rfl))
 f337:=Tryz.func231.trans (congrArg some (by kernel_rfl))
 f338:=Tryz.func232.trans (congrArg some (by kernel_rfl))
 t0:=Tryz.underlying0
 a0:=Tryz.isAgg0
 z0:=Tryz.sizeOf0
 v0:=Tryz.zeroValue0
 t2:=Tryz.underlying2
 a2:=Tryz.isAgg2
 z2:=Tryz.sizeOf2
 v2:=Tryz.zeroValue2
 t3:=Tryz.underlying3
 a3:=Tryz.isAgg3
 z3:=Tryz.sizeOf3
 v3:=Tryz.zeroValue3
 t4:=Tryz.underlying4
 a4:=Tryz.isAgg4
 z4:=Tryz.sizeOf4
 v4:=Tryz.zeroValue4
 t5:=Tryz.underlying5
 a5:=Tryz.isAgg5
 z5:=Tryz.sizeOf5
 v5:=Tryz.zeroValue5
 t9:=Tryz.underlying9
 a9:=Tryz.isAgg9
 z9:=Tryz.sizeOf9
 v9:=Tryz.zeroValue9
 t20:=Tryz.underlying20
 a20:=Tryz.isAgg20
 z20:=Tryz.sizeOf20
 v20:=Tryz.zeroValue20
 t37:=Tryz.underlying243
 a37:=Tryz.isAgg243
 z37:=Tryz.sizeOf243
 v37:=Tryz.zeroValue243
 t46:=Tryz.underlying220
 a46:=Tryz.isAgg220
 z46:=Tryz.sizeOf220
 v46:=Tryz.zeroValue220
 t51:=Tryz.underlying132
 a51:=Tryz.isAgg132
 z51:=Tryz.sizeOf132
 v51:=Tryz.zeroValue132
 t53:=Tryz.underlying253
 a53:=Tryz.isAgg253
 z53:=Tryz.sizeOf253
 v53:=Tryz.zeroValue253
 t171:=Tryz.underlying272
 a171:=Tryz.isAgg272
 z171:=Tryz.sizeOf272
 v171:=Tryz.zeroValue272
 t173:=Tryz.underlying274
 a173:=Tryz.isAgg274
 z173:=Tryz.sizeOf274
 v173:=Tryz.zeroValue274
 t212:=Tryz.underlying285
 a212:=Tryz.isAgg285
 z212:=Tryz.sizeOf285
 v212:=Tryz.zeroValue285
 t213:=Tryz.underlying286
 a213:=Tryz.isAgg286
 z213:=Tryz.sizeOf286
 t232:=Tryz.underlying297
 a232:=Tryz.isAgg297
 z232:=Tryz.sizeOf297
 v232:=Tryz.zeroValue297
 t233:=Tryz.underlying298
 a233:=Tryz.isAgg298
 z233:=Tryz.sizeOf298
 v233:=Tryz.zeroValue298
 g17:=by kernel_rfl
 g18:=by kernel_rfl
 g19:=by kernel_rfl
 i0:=by kernel_rfl
 i2:=by kernel_rfl
 i3:=by kernel_rfl
 i4:=by kernel_rfl
 i5:=by kernel_rfl
 i9:=by kernel_rfl
 i20:=by kernel_rfl
 i37:=by kernel_rfl
 i46:=by kernel_rfl
 i51:=by kernel_rfl
 i53:=by kernel_rfl
 i171:=by kernel_rfl
 i173:=by kernel_rfl
 i212:=by kernel_rfl
 i232:=by kernel_rfl
 i233:=by kernel_rfl
 m17:=by kernel_rfl
 m18:=by kernel_rfl
 m19:=by kernel_rfl }
end Go.Proofs
namespace Go.Proofs
open Go.RowKit
theorem Tryz.run229 (x:Nat) (hx:∀ s t,FloatKind.f64.decode x ≠ .nan s t) (w:World) :
  (callFunc 229 #[.float .f64 x]).run Tryz.prog w = .ok (.value (.float .f64 (FloatKind.f64.encode ((FloatKind.f64.decode x).integral .down)))) w:=by
 rw [run_callFunc_extern Tryz.func229 (by kernel_rfl) (by kernel_rfl) (by kernel_rfl) (e := Extern.MathFloor.toIntegral "math.archFloor" .down) (by kernel_rfl)]
 have : (Extern.MathFloor.toIntegral "math.archFloor" .down #[.float .f64 x]).run Tryz.prog w = .ok (.float .f64 (FloatKind.f64.encode ((FloatKind.f64.decode x).integral .down))) w := by
  show Sem.run Tryz.prog (match FloatKind.f64.decode x with
   | .nan s t=>_
   | d=>_) w = _
  split
  ·rename_i s t h;exact absurd h (hx s t)
  ·rfl
 rw [this]
 rfl
theorem Tryz.run235 (x:Nat) (w:World):(callFunc 235 #[.float .f64 x]).run Tryz.prog w = .ok (.value (.int .u64 x)) w:=by
 rw [run_callFunc_extern Tryz.func235 (by kernel_rfl) (by kernel_rfl) (by kernel_rfl) (e:=Extern.MathFloatBits.float64bits) (by kernel_rfl)]
 rfl
theorem Tryz.run234 (x:Int) (w:World):(callFunc 234 #[.int .u64 x]).run Tryz.prog w = .ok (.value (.float .f64 x.toNat)) w:=by
 rw [run_callFunc_extern Tryz.func234 (by kernel_rfl) (by kernel_rfl) (by kernel_rfl) (e:=Extern.MathFloatBits.float64frombits) (by kernel_rfl)]
 rfl
theorem Tryz.floor219 (x:Nat) (w:World) (hx:∀ s t,FloatKind.f64.decode x ≠ .nan s t) :
  Calls Tryz.prog 219 #[.float .f64 x] w fun e w'=>e = .returned (.float .f64 (FloatKind.f64.encode ((FloatKind.f64.decode x).integral .down)))∧w' = w:=by
 have hr:=Tryz.run229 x hx
 go_enter Tryz.func219,Tryz.ntmps219
 go_wp2
 go_ret
 exact ⟨rfl,rfl⟩
theorem Tryz.abs228 (x:Nat) (w:World) (hx:x < 9223372036854775808) :
  Calls Tryz.prog 228 #[.float .f64 x] w fun e w'=>e = .returned (.float .f64 x)∧w' = w:=by
 have h1:=Tryz.run235 x
 have h2:=Tryz.run234
 have hb:(bits .andNot .u64 (x:Int) 9223372036854775808).toNat = x:=by
  rw [u64_andNot (x:Int) 9223372036854775808 (by omega) (by omega) (by omega) (by omega)]
  show ((x &&& (18446744073709551615 - 9223372036854775808):Nat):Int).toNat = x
  rw [Int.toNat_natCast,show 18446744073709551615 - 9223372036854775808 = 2 ^ 63 - 1 from rfl,Nat.and_two_pow_sub_one_eq_mod,Nat.mod_eq_of_lt (by omega)]
 go_enter Tryz.func228,Tryz.ntmps228
 go_wp2
 go_ret
 exact ⟨rfl,rfl⟩
end Go.Proofs
