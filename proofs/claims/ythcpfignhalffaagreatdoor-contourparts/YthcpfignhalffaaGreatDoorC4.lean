/-
 A part of the proof of the statement that the claim names: see the last file.
-/
import Derived.Test.YthcpfignhalffaaGreatDoorC1
import Derived.Test.YthcpfignhalffaaGreatDoorC2
import Derived.Test.YthcpfignhalffaaGreatDoorC3
import Derived.Test.YthcpfignhalffaaGreatDoorAm5
import Derived.Shelf.Strings.Builder1
import Derived.Shelf.Strings.Builder2
import Derived.Shelf.Strings.OnBuilder
import Derived.Shelf.Small.Bits
import Derived.Shelf.Small.Strs
import Derived.Shelf.Strings.BuilderF
import Derived.Shelf.Strings.BuilderK
import Derived.Shelf.Utf8.RuneCount
import Derived.Shelf.Strings.Builder2Cap
import Derived.Shelf.Strconv.Itoa0
import Derived.Shelf.Strconv.Itoa1
import Derived.Shelf.LaysM
import Derived.Shelf.Strconv.Itoa2
import Derived.Shelf.Strconv.Itoa3
import Derived.Shelf.Strings.Search1
import Derived.Shelf.Strings.Search2
import Derived.Shelf.Strings.Search3
import Derived.Shelf.Strings.Count
import Derived.Shelf.Strings.Shaped
import Derived.Shelf.Strings.Prefix
import Derived.Shelf.Strings.Split
import Derived.Shelf.Strings.SplitShaped
import Derived.Shelf.Unicode.Decode
import Derived.Shelf.Strings.RuneCount
import Derived.Shelf.Strings.Explode
import Derived.Shelf.Unicode.DecodeSlow
import Derived.Shelf.Unicode.DecodeAny
import Derived.Shelf.Strings.BuilderCap
import Derived.Ground.Names2Prog
import Derived.Shelf.Slices.SearchI
import Derived.Test.YthcpfignhalffaaGreatDoorProg
namespace Go.Proofs.YthcpfignhalffaaGreatDoor
open Go Go.Am
set_option maxRecDepth 100000
abbrev I (n : Int) : D := .val (iv n)
abbrev Bo (b : Bool) : D := .val (.bool b)
structure Ctr where
 g : Nat
 F : List D → Option (Bool × D)
def Lib0 (w0 : World) : Prop := SpecOK (cfg w0)
noncomputable section
def g1 (b : Bool) (k : Option D) : Option D := bif b then k else none
def an (b : Bool) (k : Option D) : Option D := bif b then k else some (Bo false)
def no (b : Bool) (k : Option D) : Option D := bif b then some (Bo false) else k
end
variable {w0 : World}
def tG (F : List D → Option (Bool × D)) (ds : List D) : FT D :=
 match F ds with
 | some (b, d) => .br b (.leaf d) .bad
 | none => .bad
noncomputable def old (cs : List Ctr) : List Ct := cs.map fun c => ⟨c.g, tG c.F⟩
theorem cfg_ok (w0 : World) : CfgOk (cfg w0) := ⟨fun _ _ h => Tr.get_all tyTr_all h, fun _ _ h => Tr.get_all fnTr_all h, by kernel_rfl⟩
abbrev ik : Kd := .int .i64
abbrev intK : List Kd := [ik]
def t1 (n : Int) : Tup intK := (n, ())
theorem lt_t {j n : Nat} (h : j < n) : decide ((j : Int) < (n : Int)) = true := by simp [h]
theorem ge_f (n : Nat) : decide ((n : Int) < (n : Int)) = false := by simp
theorem inb {j n : Nat} (z : Nat) (h : j < n) : (Nat.beq z z && (decide (0 ≤ (j : Int)) && decide ((j : Int) < (n : Int)))) = true := by
 simp [h]
theorem room {α : Type} {out : List α} {x : α} {k : Nat} (h : out.length ≤ 1000000) (hk : k ≤ 1000) : (Nat.ble ((out ++ [x]).length * k) 1000000000000 && Nat.ble (out ++ [x]).length 1000000000000) = true := by
 simp only [List.length_append, List.length_singleton, Bool.and_eq_true, Nat.ble_eq]
 have : (out.length + 1) * k ≤ 1000001 * 1000 := Nat.mul_le_mul (by omega) hk
 omega
theorem br_run {b : Bool} {x : FT D} {d : D} (h : (FT.br b x .bad).run = some d) : b = true ∧ x.run = some d := by
 cases b with
 | true => exact ⟨rfl, h⟩
 | false => cases h
def onX (x : X) (a b : D) : D :=
 match x with
 | .ret => a
 | _ => b
theorem fn_ls (h0 : Lib0 w0) {cs : List Ct} (hcs : Gds (cfg w0) cs) {g : FuncId} {fd : AFn} (hfd : fnTr.get g = some fd) (rel : List (Nat × Cv)) {ks : List Kd} (l : List (Tup ks)) (hlen : l.length ≤ 1000000) {α : Type} (st : Int × α → List D)
  (f : Tup ks → α → X × α) (inv : Nat → α → Prop) {a0 : α} (hi : inv 0 a0)
  (hr : ∀ (j : Nat) a, j < l.length → inv j a → RdOK ((cfg w0).at cs) fd.ntmps rel (lpB 0 fd.body) (st ((j : Int), a)) (f (nth l j) a).1 (st (nx j (f (nth l j) a))))
  (hn : ∀ (j : Nat) a a', j < l.length → inv j a → f (nth l j) a = (.normal, a') → inv (j + 1) a')
  (he : ∀ a, inv l.length a → RdOK ((cfg w0).at cs) fd.ntmps rel (lpB 0 fd.body) (st ((l.length : Int), a)) (.exit 0) (st ((l.length : Int), a)))
  {ds : List D} {d : D} (hb : ∀ x p, lsRun 0 f l 0 a0 = (x, p) → bodyT ((cfg w0).at cs) 40 [ldP 0 fd.ntmps rel (outX 0 x) (st p)] 40 fd ds = some ([(ldP 0 fd.ntmps rel (outX 0 x) (st p), .loop (lpB 0 fd.body), st (0, a0))], d)) : FnD (cfg w0) g ds d := by
 cases hx : lsRun 0 f l 0 a0 with
 | mk x p => exact fnD_lp (cfg_ok w0) h0 hcs hfd (hb x p hx) (ldT_ls (at_ok (cfg_ok w0) cs) (at_sp h0 hcs) l (by omega) st f inv hr hn he hi hx)
theorem fn_rg (h0 : Lib0 w0) {cs : List Ct} (hcs : Gds (cfg w0) cs) {g : FuncId} {fd : AFn} (hfd : fnTr.get g = some fd) (rel : List (Nat × Cv)) (k : Nat) (hk : k ≤ 1000000) {α : Type} (st : Int × α → List D)
  (f : Nat → α → X × α) (inv : Nat → α → Prop) {a0 : α} (hi : inv 0 a0)
  (hr : ∀ (j : Nat) a, j < k → inv j a → RdOK ((cfg w0).at cs) fd.ntmps rel (lpB 0 fd.body) (st ((j : Int), a)) (f j a).1 (st (nx j (f j a))))
  (hn : ∀ (j : Nat) a a', j < k → inv j a → f j a = (.normal, a') → inv (j + 1) a')
  (he : ∀ a, inv k a → RdOK ((cfg w0).at cs) fd.ntmps rel (lpB 0 fd.body) (st ((k : Int), a)) (.exit 0) (st ((k : Int), a)))
  {ds : List D} {d : D} (hb : ∀ x p, rgRun 0 f k 0 a0 = (x, p) → bodyT ((cfg w0).at cs) 40 [ldP 0 fd.ntmps rel (outX 0 x) (st p)] 40 fd ds = some ([(ldP 0 fd.ntmps rel (outX 0 x) (st p), .loop (lpB 0 fd.body), st (0, a0))], d)) : FnD (cfg w0) g ds d := by
 cases hx : rgRun 0 f k 0 a0 with
 | mk x p => exact fnD_lp (cfg_ok w0) h0 hcs hfd (hb x p hx) (ldT_rg (at_ok (cfg_ok w0) cs) (at_sp h0 hcs) (by omega) st f inv hr hn he hi hx)
end Go.Proofs.YthcpfignhalffaaGreatDoor
namespace Go.Proofs
open Go.Shelf
def Tryz.lays156_ren : Go.Shelf.Ren := ⟨fun | 156 => 187 | 165 => 220 | 166 => 221 | 169 => 222 | 240 => 238 | 241 => 239 | 276 => 248 | 277 => 249 | n => n, fun | 31 => 162 | 9 => 9 | 3 => 3 | 4 => 4 | 0 => 0 | 20 => 20 | 72 => 299 | 76 => 303 | 70 => 297 | 37 => 279 | 75 => 302 | 127 => 317 | 164 => 327 | 5 => 5 | 80 => 305 | n => n, fun | n => n⟩
theorem Tryz.lays156 : Go.Proofs.Lays.n156 Tryz.prog Tryz.lays156_ren := {
 mixed := by kernel_rfl
 f156 := Tryz.func187.trans (congrArg some (by kernel_rfl))
 f165 := Tryz.func220.trans (congrArg some (by kernel_rfl))
 f166 := Tryz.func221.trans (congrArg some (by kernel_rfl))
 f169 := Tryz.func222.trans (congrArg some (by kernel_rfl))
 f240 := Tryz.func238.trans (congrArg some (by kernel_rfl))
 f241 := Tryz.func239.trans (congrArg some (by kernel_rfl))
 f276 := Tryz.func248.trans (congrArg some (by kernel_rfl))
 f277 := Tryz.func249.trans (congrArg some (by kernel_rfl))
 t0 := Tryz.underlying0
 a0 := Tryz.isAgg0
 z0 := Tryz.sizeOf0
 v0 := Tryz.zeroValue0
 t3 := Tryz.underlying3
 a3 := Tryz.isAgg3
 z3 := Tryz.sizeOf3
 v3 := Tryz.zeroValue3
 t4 := Tryz.underlying4
 a4 := Tryz.isAgg4
 z4 := Tryz.sizeOf4
 v4 := Tryz.zeroValue4
 t9 := Tryz.underlying9
 a9 := Tryz.isAgg9
 z9 := Tryz.sizeOf9
 v9 := Tryz.zeroValue9
 t20 := Tryz.underlying20
 a20 := Tryz.isAgg20
 z20 := Tryz.sizeOf20
 v20 := Tryz.zeroValue20
 t31 := Tryz.underlying162
 a31 := Tryz.isAgg162
 z31 := Tryz.sizeOf162
 v31 := Tryz.zeroValue162
 t37 := Tryz.underlying279
 a37 := Tryz.isAgg279
 z37 := Tryz.sizeOf279
 v37 := Tryz.zeroValue279
 t70 := Tryz.underlying297
 a70 := Tryz.isAgg297
 z70 := Tryz.sizeOf297
 v70 := Tryz.zeroValue297
 t72 := Tryz.underlying299
 a72 := Tryz.isAgg299
 z72 := Tryz.sizeOf299
 v72 := Tryz.zeroValue299
 t75 := Tryz.underlying302
 a75 := Tryz.isAgg302
 z75 := Tryz.sizeOf302
 v75 := Tryz.zeroValue302
 t76 := Tryz.underlying303
 a76 := Tryz.isAgg303
 z76 := Tryz.sizeOf303
 v76 := Tryz.zeroValue303
 t127 := Tryz.underlying317
 a127 := Tryz.isAgg317
 z127 := Tryz.sizeOf317
 v127 := Tryz.zeroValue317
 t164 := Tryz.underlying327
 a164 := Tryz.isAgg327
 z164 := Tryz.sizeOf327
 v164 := Tryz.zeroValue327 }
theorem Tryz.Builder_Extra_156 : Builder.Extra Tryz.prog Tryz.lays156_ren := {
 sizeBuilder := by kernel_rfl
 liesBuilder := by kernel_rfl
 t5 := Tryz.underlying5
 a5 := Tryz.isAgg5
 z5 := Tryz.sizeOf5
 v5 := Tryz.zeroValue5
 infoByte := by kernel_rfl
 cellsByte := by kernel_rfl
 sizeByte := by kernel_rfl
 neB5 := by decide }
open Go.RowKit in
theorem Tryz.strings_Join (bk o c : Nat) (xs : List ByteArray) (sep : ByteArray) (w : World) (hcells : ∀ (j : Nat) x, xs[j]? = some x → w.cell? ⟨bk, o + j, none⟩ = some (.string x)) (hbk : bk < w.heap.size) (hN : xs.length ≤ 140737488355328) (hcap : xs.length ≤ c) (hlen : (Lib.join (xs.map (·.data.toList)) sep.data.toList).length ≤ 140737488355328) :
  Calls Tryz.prog 187 #[.slice (some ⟨bk, o, none⟩) xs.length c, .string sep] w fun e w' => e = .returned (.string ⟨(Lib.join (xs.map (·.data.toList)) sep.data.toList).toArray⟩) ∧ Below w.heap.size w w' := Any.strings_Join Tryz.lays156 Tryz.Builder_Extra_156 bk o c xs sep w hcells hbk hN hcap hlen
def Tryz.laysM171_ren : Go.Shelf.Ren := ⟨fun | 171 => 189 | 243 => 223 | 246 => 240 | 283 => 250 | 284 => 251 | 285 => 252 | 286 => 253 | 129 => 208 | 317 => 258 | 318 => 259 | 319 => 260 | 320 => 261 | 337 => 263 | 338 => 264 | n => n, fun | 3 => 3 | 9 => 9 | 2 => 2 | 4 => 4 | 171 => 330 | 0 => 0 | 53 => 291 | 37 => 279 | 5 => 5 | 173 => 332 | 212 => 335 | 51 => 289 | 20 => 20 | 213 => 336 | 46 => 263 | 232 => 343 | 233 => 344 | n => n, fun | 17 => 3 | 18 => 6 | 19 => 7 | n => n⟩
theorem Tryz.laysM171 : Go.Proofs.LaysM.n171 Tryz.prog Tryz.laysM171_ren := {
 mixed := by kernel_rfl
 f129 := Tryz.func208.trans (congrArg some (by kernel_rfl))
 f171 := Tryz.func189.trans (congrArg some (by kernel_rfl))
 f243 := Tryz.func223.trans (congrArg some (by kernel_rfl))
 f246 := Tryz.func240.trans (congrArg some (by kernel_rfl))
 f283 := Tryz.func250.trans (congrArg some (by kernel_rfl))
 f284 := Tryz.func251.trans (congrArg some (by kernel_rfl))
 f285 := Tryz.func252.trans (congrArg some (by kernel_rfl))
 f286 := Tryz.func253.trans (congrArg some (by kernel_rfl))
 f317 := Tryz.func258.trans (congrArg some (by kernel_rfl))
 f318 := Tryz.func259.trans (congrArg some (by kernel_rfl))
 f319 := Tryz.func260.trans (congrArg some (by kernel_rfl))
 f320 := Tryz.func261.trans (congrArg some (by kernel_rfl))
 f337 := Tryz.func263.trans (congrArg some (by kernel_rfl))
 f338 := Tryz.func264.trans (congrArg some (by kernel_rfl))
 t0 := Tryz.underlying0
 a0 := Tryz.isAgg0
 z0 := Tryz.sizeOf0
 v0 := Tryz.zeroValue0
 t2 := Tryz.underlying2
 a2 := Tryz.isAgg2
 z2 := Tryz.sizeOf2
 v2 := Tryz.zeroValue2
 t3 := Tryz.underlying3
 a3 := Tryz.isAgg3
 z3 := Tryz.sizeOf3
 v3 := Tryz.zeroValue3
 t4 := Tryz.underlying4
 a4 := Tryz.isAgg4
 z4 := Tryz.sizeOf4
 v4 := Tryz.zeroValue4
 t5 := Tryz.underlying5
 a5 := Tryz.isAgg5
 z5 := Tryz.sizeOf5
 v5 := Tryz.zeroValue5
 t9 := Tryz.underlying9
 a9 := Tryz.isAgg9
 z9 := Tryz.sizeOf9
 v9 := Tryz.zeroValue9
 t20 := Tryz.underlying20
 a20 := Tryz.isAgg20
 z20 := Tryz.sizeOf20
 v20 := Tryz.zeroValue20
 t37 := Tryz.underlying279
 a37 := Tryz.isAgg279
 z37 := Tryz.sizeOf279
 v37 := Tryz.zeroValue279
 t46 := Tryz.underlying263
 a46 := Tryz.isAgg263
 z46 := Tryz.sizeOf263
 v46 := Tryz.zeroValue263
 t51 := Tryz.underlying289
 a51 := Tryz.isAgg289
 z51 := Tryz.sizeOf289
 v51 := Tryz.zeroValue289
 t53 := Tryz.underlying291
 a53 := Tryz.isAgg291
 z53 := Tryz.sizeOf291
 v53 := Tryz.zeroValue291
 t171 := Tryz.underlying330
 a171 := Tryz.isAgg330
 z171 := Tryz.sizeOf330
 v171 := Tryz.zeroValue330
 t173 := Tryz.underlying332
 a173 := Tryz.isAgg332
 z173 := Tryz.sizeOf332
 v173 := Tryz.zeroValue332
 t212 := Tryz.underlying335
 a212 := Tryz.isAgg335
 z212 := Tryz.sizeOf335
 v212 := Tryz.zeroValue335
 t213 := Tryz.underlying336
 a213 := Tryz.isAgg336
 z213 := Tryz.sizeOf336
 t232 := Tryz.underlying343
 a232 := Tryz.isAgg343
 z232 := Tryz.sizeOf343
 v232 := Tryz.zeroValue343
 t233 := Tryz.underlying344
 a233 := Tryz.isAgg344
 z233 := Tryz.sizeOf344
 v233 := Tryz.zeroValue344
 g17 := by kernel_rfl
 g18 := by kernel_rfl
 g19 := by kernel_rfl
 i0 := by kernel_rfl
 i2 := by kernel_rfl
 i3 := by kernel_rfl
 i4 := by kernel_rfl
 i5 := by kernel_rfl
 i9 := by kernel_rfl
 i20 := by kernel_rfl
 i37 := by kernel_rfl
 i46 := by kernel_rfl
 i51 := by kernel_rfl
 i53 := by kernel_rfl
 i171 := by kernel_rfl
 i173 := by kernel_rfl
 i212 := by kernel_rfl
 i232 := by kernel_rfl
 i233 := by kernel_rfl
 m17 := by kernel_rfl
 m18 := by kernel_rfl
 m19 := by kernel_rfl }
def Tryz.laysNm237_ren : Go.Shelf.Ren := ⟨fun | 37 => 210 | n => n, fun | 3 => 3 | 4 => 4 | n => n, fun | n => n⟩
theorem Tryz.laysNm237 : Go.Proofs.Lays2.n37 Tryz.prog Tryz.laysNm237_ren := {
 mixed := by kernel_rfl
 f37 := Tryz.func210.trans (congrArg some (by kernel_rfl))
 t3 := Tryz.underlying3
 a3 := Tryz.isAgg3
 z3 := Tryz.sizeOf3
 v3 := Tryz.zeroValue3
 t4 := Tryz.underlying4
 a4 := Tryz.isAgg4
 z4 := Tryz.sizeOf4
 v4 := Tryz.zeroValue4 }
open Go.RowKit Go.Lib in
theorem Tryz.cmp_isNaN_int2 (x : Int) (w : World) :
  Calls Tryz.prog 210 #[.int .i64 x] w fun e w' => e = .returned (.bool false) ∧ w' = w := Any.cmp_isNaN_int2 Tryz.laysNm237 x w
end Go.Proofs
