/-
 A part of the proof of the statement that the claim names: see the last file.
-/
import Derived.Shelf.Strings.Builder1
import Derived.Shelf.Strings.Builder2
import Derived.Shelf.Strings.OnBuilder
import Derived.Shelf.Small.Bits
import Derived.Shelf.Small.Strs
import Derived.Shelf.Strings.BuilderF
import Derived.Shelf.Utf8.RuneCount
import Derived.Shelf.Strings.Builder2Cap
import Derived.Shelf.Strconv.Itoa0
import Derived.Shelf.Strconv.Itoa1
import Derived.Shelf.LaysM
import Derived.Shelf.Strconv.Itoa2
import Derived.Shelf.Strconv.Itoa3
import Derived.Shelf.Strings.Search1
import Derived.Shelf.Strings.Search2
import Derived.Shelf.Strings.Search3
import Derived.Shelf.Strings.Count
import Derived.Shelf.Strings.Shaped
import Derived.Shelf.Strings.Prefix
import Derived.Shelf.Strings.Split
import Derived.Shelf.Strings.SplitShaped
import Derived.Shelf.Unicode.Decode
import Derived.Shelf.Strings.RuneCount
import Derived.Shelf.Strings.Explode
import Derived.Shelf.Unicode.DecodeSlow
import Derived.Shelf.Unicode.DecodeAny
import Derived.Ground.Names2Prog
import Derived.Shelf.Slices.SearchI
import Derived.Test.YtmlglimahbjgbaaGreatDoorProg
namespace Go.Proofs
open Go.Shelf
def Tryz.lays156_ren : Go.Shelf.Ren := ⟨fun | 156 => 148 | 165 => 182 | 166 => 183 | 169 => 184 | 240 => 202 | 241 => 203 | 276 => 216 | 277 => 217 | n => n, fun | 31 => 164 | 9 => 9 | 3 => 3 | 4 => 4 | 0 => 0 | 20 => 20 | 72 => 271 | 76 => 275 | 70 => 268 | 37 => 269 | 75 => 274 | 127 => 290 | 164 => 301 | 5 => 5 | 80 => 245 | n => n, fun | n => n⟩
theorem Tryz.lays156 : Go.Proofs.Lays.n156 Tryz.prog Tryz.lays156_ren := {
 mixed := by kernel_rfl
 f156 := Tryz.func148.trans (congrArg some (by kernel_rfl))
 f165 := Tryz.func182.trans (congrArg some (by kernel_rfl))
 f166 := Tryz.func183.trans (congrArg some (by kernel_rfl))
 f169 := Tryz.func184.trans (congrArg some (by kernel_rfl))
 f240 := Tryz.func202.trans (congrArg some (by kernel_rfl))
 f241 := Tryz.func203.trans (congrArg some (by kernel_rfl))
 f276 := Tryz.func216.trans (congrArg some (by kernel_rfl))
 f277 := Tryz.func217.trans (congrArg some (by kernel_rfl))
 t0 := Tryz.underlying0
 a0 := Tryz.isAgg0
 z0 := Tryz.sizeOf0
 v0 := Tryz.zeroValue0
 t3 := Tryz.underlying3
 a3 := Tryz.isAgg3
 z3 := Tryz.sizeOf3
 v3 := Tryz.zeroValue3
 t4 := Tryz.underlying4
 a4 := Tryz.isAgg4
 z4 := Tryz.sizeOf4
 v4 := Tryz.zeroValue4
 t9 := Tryz.underlying9
 a9 := Tryz.isAgg9
 z9 := Tryz.sizeOf9
 v9 := Tryz.zeroValue9
 t20 := Tryz.underlying20
 a20 := Tryz.isAgg20
 z20 := Tryz.sizeOf20
 v20 := Tryz.zeroValue20
 t31 := Tryz.underlying164
 a31 := Tryz.isAgg164
 z31 := Tryz.sizeOf164
 v31 := Tryz.zeroValue164
 t37 := Tryz.underlying269
 a37 := Tryz.isAgg269
 z37 := Tryz.sizeOf269
 v37 := Tryz.zeroValue269
 t70 := Tryz.underlying268
 a70 := Tryz.isAgg268
 z70 := Tryz.sizeOf268
 v70 := Tryz.zeroValue268
 t72 := Tryz.underlying271
 a72 := Tryz.isAgg271
 z72 := Tryz.sizeOf271
 v72 := Tryz.zeroValue271
 t75 := Tryz.underlying274
 a75 := Tryz.isAgg274
 z75 := Tryz.sizeOf274
 v75 := Tryz.zeroValue274
 t76 := Tryz.underlying275
 a76 := Tryz.isAgg275
 z76 := Tryz.sizeOf275
 v76 := Tryz.zeroValue275
 t127 := Tryz.underlying290
 a127 := Tryz.isAgg290
 z127 := Tryz.sizeOf290
 v127 := Tryz.zeroValue290
 t164 := Tryz.underlying301
 a164 := Tryz.isAgg301
 z164 := Tryz.sizeOf301
 v164 := Tryz.zeroValue301 }
theorem Tryz.Builder_Extra_156 : Builder.Extra Tryz.prog Tryz.lays156_ren := {
 sizeBuilder := by kernel_rfl
 liesBuilder := by kernel_rfl
 t5 := Tryz.underlying5
 a5 := Tryz.isAgg5
 z5 := Tryz.sizeOf5
 v5 := Tryz.zeroValue5
 infoByte := by kernel_rfl
 cellsByte := by kernel_rfl
 sizeByte := by kernel_rfl
 neB5 := by decide }
open Go.RowKit in
theorem Tryz.strings_Join (bk o c : Nat) (xs : List ByteArray) (sep : ByteArray) (w : World) (hcells : ∀ (j : Nat) x, xs[j]? = some x → w.cell? ⟨bk, o + j, none⟩ = some (.string x)) (hbk : bk < w.heap.size) (hN : xs.length ≤ 140737488355328) (hcap : xs.length ≤ c) (hlen : (Lib.join (xs.map (·.data.toList)) sep.data.toList).length ≤ 140737488355328) :
  Calls Tryz.prog 148 #[.slice (some ⟨bk, o, none⟩) xs.length c, .string sep] w fun e w' => e = .returned (.string ⟨(Lib.join (xs.map (·.data.toList)) sep.data.toList).toArray⟩) ∧ Below w.heap.size w w' := Any.strings_Join Tryz.lays156 Tryz.Builder_Extra_156 bk o c xs sep w hcells hbk hN hcap hlen
def Tryz.laysM171_ren : Go.Shelf.Ren := ⟨fun | 171 => 150 | 243 => 185 | 246 => 204 | 283 => 218 | 284 => 219 | 285 => 220 | 286 => 221 | 129 => 201 | 317 => 229 | 318 => 230 | 319 => 231 | 320 => 232 | 337 => 238 | 338 => 239 | n => n, fun | 3 => 3 | 9 => 9 | 2 => 2 | 4 => 4 | 171 => 304 | 0 => 0 | 53 => 289 | 37 => 269 | 5 => 5 | 173 => 306 | 212 => 314 | 51 => 287 | 20 => 20 | 213 => 315 | 46 => 261 | 232 => 322 | 233 => 323 | n => n, fun | 17 => 2 | 18 => 5 | 19 => 6 | n => n⟩
theorem Tryz.laysM171 : Go.Proofs.LaysM.n171 Tryz.prog Tryz.laysM171_ren := {
 mixed := by kernel_rfl
 f129 := Tryz.func201.trans (congrArg some (by kernel_rfl))
 f171 := Tryz.func150.trans (congrArg some (by kernel_rfl))
 f243 := Tryz.func185.trans (congrArg some (by kernel_rfl))
 f246 := Tryz.func204.trans (congrArg some (by kernel_rfl))
 f283 := Tryz.func218.trans (congrArg some (by kernel_rfl))
 f284 := Tryz.func219.trans (congrArg some (by kernel_rfl))
 f285 := Tryz.func220.trans (congrArg some (by kernel_rfl))
 f286 := Tryz.func221.trans (congrArg some (by kernel_rfl))
 f317 := Tryz.func229.trans (congrArg some (by kernel_rfl))
 f318 := Tryz.func230.trans (congrArg some (by kernel_rfl))
 f319 := Tryz.func231.trans (congrArg some (by kernel_rfl))
 f320 := Tryz.func232.trans (congrArg some (by kernel_rfl))
 f337 := Tryz.func238.trans (congrArg some (by kernel_rfl))
 f338 := Tryz.func239.trans (congrArg some (by kernel_rfl))
 t0 := Tryz.underlying0
 a0 := Tryz.isAgg0
 z0 := Tryz.sizeOf0
 v0 := Tryz.zeroValue0
 t2 := Tryz.underlying2
 a2 := Tryz.isAgg2
 z2 := Tryz.sizeOf2
 v2 := Tryz.zeroValue2
 t3 := Tryz.underlying3
 a3 := Tryz.isAgg3
 z3 := Tryz.sizeOf3
 v3 := Tryz.zeroValue3
 t4 := Tryz.underlying4
 a4 := Tryz.isAgg4
 z4 := Tryz.sizeOf4
 v4 := Tryz.zeroValue4
 t5 := Tryz.underlying5
 a5 := Tryz.isAgg5
 z5 := Tryz.sizeOf5
 v5 := Tryz.zeroValue5
 t9 := Tryz.underlying9
 a9 := Tryz.isAgg9
 z9 := Tryz.sizeOf9
 v9 := Tryz.zeroValue9
 t20 := Tryz.underlying20
 a20 := Tryz.isAgg20
 z20 := Tryz.sizeOf20
 v20 := Tryz.zeroValue20
 t37 := Tryz.underlying269
 a37 := Tryz.isAgg269
 z37 := Tryz.sizeOf269
 v37 := Tryz.zeroValue269
 t46 := Tryz.underlying261
 a46 := Tryz.isAgg261
 z46 := Tryz.sizeOf261
 v46 := Tryz.zeroValue261
 t51 := Tryz.underlying287
 a51 := Tryz.isAgg287
 z51 := Tryz.sizeOf287
 v51 := Tryz.zeroValue287
 t53 := Tryz.underlying289
 a53 := Tryz.isAgg289
 z53 := Tryz.sizeOf289
 v53 := Tryz.zeroValue289
 t171 := Tryz.underlying304
 a171 := Tryz.isAgg304
 z171 := Tryz.sizeOf304
 v171 := Tryz.zeroValue304
 t173 := Tryz.underlying306
 a173 := Tryz.isAgg306
 z173 := Tryz.sizeOf306
 v173 := Tryz.zeroValue306
 t212 := Tryz.underlying314
 a212 := Tryz.isAgg314
 z212 := Tryz.sizeOf314
 v212 := Tryz.zeroValue314
 t213 := Tryz.underlying315
 a213 := Tryz.isAgg315
 z213 := Tryz.sizeOf315
 t232 := Tryz.underlying322
 a232 := Tryz.isAgg322
 z232 := Tryz.sizeOf322
 v232 := Tryz.zeroValue322
 t233 := Tryz.underlying323
 a233 := Tryz.isAgg323
 z233 := Tryz.sizeOf323
 v233 := Tryz.zeroValue323
 g17 := by kernel_rfl
 g18 := by kernel_rfl
 g19 := by kernel_rfl
 i0 := by kernel_rfl
 i2 := by kernel_rfl
 i3 := by kernel_rfl
 i4 := by kernel_rfl
 i5 := by kernel_rfl
 i9 := by kernel_rfl
 i20 := by kernel_rfl
 i37 := by kernel_rfl
 i46 := by kernel_rfl
 i51 := by kernel_rfl
 i53 := by kernel_rfl
 i171 := by kernel_rfl
 i173 := by kernel_rfl
 i212 := by kernel_rfl
 i232 := by kernel_rfl
 i233 := by kernel_rfl
 m17 := by kernel_rfl
 m18 := by kernel_rfl
 m19 := by kernel_rfl }
end Go.Proofs
