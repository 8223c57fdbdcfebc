/-
  NARROWER THAN 'FOR EVERY INPUT', by the rows' own cells (each row's printed sentence says how): TownPaths: laid · TownDepths: laid · TownLosses: laid · TownMirrors: laid · TownBuildings: laid · TownReturns: laid · TownGrows: laid · TownImages: laid · TownStrings: laid · TownWithin: laid.
  DERIVED. THE GIVEN ROWS OF THIS SEAT. 10 by the template 'for every input the law returns true; each argument reads behind the call as it read before'; 0 by the template 'total and deterministic' (their statements: YtmlglimahbjgbaaGreatDoorTotals.lean).
  GIVEN WITH THE SEED: the statements are not yours to turn. If you find one false, say at which input.
  Laid BY PROGRAM, IN A SANDBOX (cutbox-rows.mjs): the forced cells as the released guide's own fill.sh prints them over the translation 1fed43ee65ae4db1… (all of the seat's roots in one cut). By AI agents, Wed Nov 11 2026. No macro, syntax, notation, axiom, sorry.
-/
import Derived.Test.YtmlglimahbjgbaaGreatDoorChecked
import GoSem.PinnedTables
import GoSem.Claim
import GoSem.ClaimJoined
import GoSem.ClaimMapViews
import Derived.JoinedTies
import Derived.KernelRfl
namespace Go.Proofs.YtmlglimahbjgbaaGreatDoor
/- THE CELL 'sum', in the pinned program and in every row, IS THE sha256 OF THE DUMP (.gsa) THAT YtmlglimahbjgbaaGreatDoorProg.lean LOADS. Nothing in Lean hashes anything: it is a label: what it is worth is what the hold of that sum in a sandbox is worth. -/
noncomputable def Tryz.pinned : Pinned := { name := "ytmlglimahbjgbaagreatdoor", sum := "1fed43ee65ae4db1b3852bc0b0575457f5419b012c259c8574bf9d3613d52247", checked := Tryz.checked }
namespace Rows
def none {H : Type} : Left H := { results := [], args := [] }

/- WHAT THE LISTED PACKAGE-LEVEL VARIABLES READ AS WHEN THE CALL BEGINS. Each datum BY PROGRAM (the guide's laid-datum.mjs) off the statement by which the dump's own 'gosem.cut.vars' lays the variable. In a bare row this is a premise. The card (YtmlglimahbjgbaaGreatDoorCards.lean) ties it to the program's text. -/
def laid_math_bits_deBruijn32tab {H : Type} : DataW H := .agg [.lit (.int .u8 0), .lit (.int .u8 1), .lit (.int .u8 28), .lit (.int .u8 2), .lit (.int .u8 29), .lit (.int .u8 14), .lit (.int .u8 24), .lit (.int .u8 3), .lit (.int .u8 30), .lit (.int .u8 22), .lit (.int .u8 20), .lit (.int .u8 15), .lit (.int .u8 25), .lit (.int .u8 17), .lit (.int .u8 4), .lit (.int .u8 8), .lit (.int .u8 31), .lit (.int .u8 27), .lit (.int .u8 13), .lit (.int .u8 23), .lit (.int .u8 21), .lit (.int .u8 19), .lit (.int .u8 16), .lit (.int .u8 7), .lit (.int .u8 26), .lit (.int .u8 12), .lit (.int .u8 18), .lit (.int .u8 6), .lit (.int .u8 11), .lit (.int .u8 5), .lit (.int .u8 10), .lit (.int .u8 9)]
def laid_math_bits_deBruijn64tab {H : Type} : DataW H := .agg [.lit (.int .u8 0), .lit (.int .u8 1), .lit (.int .u8 56), .lit (.int .u8 2), .lit (.int .u8 57), .lit (.int .u8 49), .lit (.int .u8 28), .lit (.int .u8 3), .lit (.int .u8 61), .lit (.int .u8 58), .lit (.int .u8 42), .lit (.int .u8 50), .lit (.int .u8 38), .lit (.int .u8 29), .lit (.int .u8 17), .lit (.int .u8 4), .lit (.int .u8 62), .lit (.int .u8 47), .lit (.int .u8 59), .lit (.int .u8 36), .lit (.int .u8 45), .lit (.int .u8 43), .lit (.int .u8 51), .lit (.int .u8 22), .lit (.int .u8 53), .lit (.int .u8 39), .lit (.int .u8 33), .lit (.int .u8 30), .lit (.int .u8 24), .lit (.int .u8 18), .lit (.int .u8 12), .lit (.int .u8 5), .lit (.int .u8 63), .lit (.int .u8 55), .lit (.int .u8 48), .lit (.int .u8 27), .lit (.int .u8 60), .lit (.int .u8 41), .lit (.int .u8 37), .lit (.int .u8 16), .lit (.int .u8 46), .lit (.int .u8 35), .lit (.int .u8 44), .lit (.int .u8 21), .lit (.int .u8 52), .lit (.int .u8 32), .lit (.int .u8 23), .lit (.int .u8 11), .lit (.int .u8 54), .lit (.int .u8 26), .lit (.int .u8 40), .lit (.int .u8 15), .lit (.int .u8 34), .lit (.int .u8 20), .lit (.int .u8 31), .lit (.int .u8 10), .lit (.int .u8 25), .lit (.int .u8 14), .lit (.int .u8 19), .lit (.int .u8 9), .lit (.int .u8 13), .lit (.int .u8 8), .lit (.int .u8 7), .lit (.int .u8 6)]
def laid_internal_strconv_uint64pow10 {H : Type} : DataW H := .agg [.lit (.int .u64 1), .lit (.int .u64 10), .lit (.int .u64 100), .lit (.int .u64 1000), .lit (.int .u64 10000), .lit (.int .u64 100000), .lit (.int .u64 1000000), .lit (.int .u64 10000000), .lit (.int .u64 100000000), .lit (.int .u64 1000000000), .lit (.int .u64 10000000000), .lit (.int .u64 100000000000), .lit (.int .u64 1000000000000), .lit (.int .u64 10000000000000), .lit (.int .u64 100000000000000), .lit (.int .u64 1000000000000000), .lit (.int .u64 10000000000000000), .lit (.int .u64 100000000000000000), .lit (.int .u64 1000000000000000000), .lit (.int .u64 10000000000000000000)]
def laid_flyover_town_places {H : Type} : DataW H := .iface "func table" (.agg [.agg [.iface "func" (.lit (.string [102, 108, 121, 111, 118, 101, 114, 47, 116, 111, 119, 110, 46, 112, 108, 97, 99, 101, 115, 36, 49])), .lit (.int .i64 (-1000)), .lit (.int .i64 1000)], .agg [.iface "func" (.lit (.string [102, 108, 121, 111, 118, 101, 114, 47, 116, 111, 119, 110, 46, 112, 108, 97, 99, 101, 115, 36, 50])), .lit (.int .i64 (-1000)), .lit (.int .i64 1000)], .agg [.iface "func" (.lit (.string [102, 108, 121, 111, 118, 101, 114, 47, 116, 111, 119, 110, 46, 112, 108, 97, 99, 101, 115, 36, 51])), .lit (.int .i64 (-1000)), .lit (.int .i64 1000)], .agg [.iface "func" (.lit (.string [102, 108, 121, 111, 118, 101, 114, 47, 116, 111, 119, 110, 46, 112, 108, 97, 99, 101, 115, 36, 52])), .lit (.int .i64 (-1000)), .lit (.int .i64 1000)]])
def laid_unicode_utf8_acceptRanges {H : Type} : DataW H := .agg [.agg [.lit (.int .u8 128), .lit (.int .u8 191)], .agg [.lit (.int .u8 160), .lit (.int .u8 191)], .agg [.lit (.int .u8 128), .lit (.int .u8 159)], .agg [.lit (.int .u8 144), .lit (.int .u8 191)], .agg [.lit (.int .u8 128), .lit (.int .u8 143)], .agg [.lit (.int .u8 0), .lit (.int .u8 0)], .agg [.lit (.int .u8 0), .lit (.int .u8 0)], .agg [.lit (.int .u8 0), .lit (.int .u8 0)], .agg [.lit (.int .u8 0), .lit (.int .u8 0)], .agg [.lit (.int .u8 0), .lit (.int .u8 0)], .agg [.lit (.int .u8 0), .lit (.int .u8 0)], .agg [.lit (.int .u8 0), .lit (.int .u8 0)], .agg [.lit (.int .u8 0), .lit (.int .u8 0)], .agg [.lit (.int .u8 0), .lit (.int .u8 0)], .agg [.lit (.int .u8 0), .lit (.int .u8 0)], .agg [.lit (.int .u8 0), .lit (.int .u8 0)]]
/-- One of Go's own tables, pinned by name: the form's constant. -/
def laid_unicode_utf8_first : DataW Unit := Go.Pinned.utf8First

/-- 'flyoverlaw04.TownPaths': WHATEVER THE INPUT: true; the input reads as it did. -/
def townPathsSpec : ChangeSpec := { name := "townPaths", fn := fun _ => fun
  | [d1, d2, d3] => { results := [.lit (.bool true)], args := [d1, d2, d3] }
  | _ => none }
def townPathsRow : OpenClaim := { program := "ytmlglimahbjgbaagreatdoor", sum := "1fed43ee65ae4db1b3852bc0b0575457f5419b012c259c8574bf9d3613d52247", func := "flyover/flyoverlaw04.TownPaths", spec := "townPaths", inPlace := ["internal/abi.NoEscape", "internal/bytealg.MakeNoZero"], unfollowed := true, recurses := true, named := ["flyover/town.places", "internal/strconv.uint64pow10", "math/bits.deBruijn32tab", "math/bits.deBruijn64tab"], apart := false, laid := [("math/bits.deBruijn32tab", laid_math_bits_deBruijn32tab), ("math/bits.deBruijn64tab", laid_math_bits_deBruijn64tab), ("internal/strconv.uint64pow10", laid_internal_strconv_uint64pow10), ("flyover/town.places", laid_flyover_town_places)] }
def TownPathsSaid : Prop := townPathsRow.holds Tryz.pinned (OpenSpec.ofChange townPathsSpec)

/-- ITS FALSE NEIGHBOUR: 'it returns false'. Refute it at one input. -/
def townPathsWrong : ChangeSpec := { name := "townPaths", fn := fun _ => fun
  | [d1, d2, d3] => { results := [.lit (.bool false)], args := [d1, d2, d3] }
  | _ => none }
def TownPathsWrongFalsely : Prop := townPathsRow.holds Tryz.pinned (OpenSpec.ofChange townPathsWrong)

/-- 'flyoverlaw04.TownDepths': WHATEVER THE INPUT: true; the input reads as it did. -/
def townDepthsSpec : ChangeSpec := { name := "townDepths", fn := fun _ => fun
  | [d1, d2, d3] => { results := [.lit (.bool true)], args := [d1, d2, d3] }
  | _ => none }
def townDepthsRow : OpenClaim := { program := "ytmlglimahbjgbaagreatdoor", sum := "1fed43ee65ae4db1b3852bc0b0575457f5419b012c259c8574bf9d3613d52247", func := "flyover/flyoverlaw04.TownDepths", spec := "townDepths", inPlace := ["internal/abi.NoEscape", "internal/bytealg.MakeNoZero"], unfollowed := true, recurses := true, named := ["flyover/town.places", "internal/strconv.uint64pow10", "math/bits.deBruijn32tab", "math/bits.deBruijn64tab"], apart := false, laid := [("math/bits.deBruijn32tab", laid_math_bits_deBruijn32tab), ("math/bits.deBruijn64tab", laid_math_bits_deBruijn64tab), ("internal/strconv.uint64pow10", laid_internal_strconv_uint64pow10), ("flyover/town.places", laid_flyover_town_places)] }
def TownDepthsSaid : Prop := townDepthsRow.holds Tryz.pinned (OpenSpec.ofChange townDepthsSpec)

/-- ITS FALSE NEIGHBOUR: 'it returns false'. Refute it at one input. -/
def townDepthsWrong : ChangeSpec := { name := "townDepths", fn := fun _ => fun
  | [d1, d2, d3] => { results := [.lit (.bool false)], args := [d1, d2, d3] }
  | _ => none }
def TownDepthsWrongFalsely : Prop := townDepthsRow.holds Tryz.pinned (OpenSpec.ofChange townDepthsWrong)

/-- 'flyoverlaw04.TownLosses': WHATEVER THE INPUT: true; the input reads as it did. -/
def townLossesSpec : ChangeSpec := { name := "townLosses", fn := fun _ => fun
  | [d1, d2, d3] => { results := [.lit (.bool true)], args := [d1, d2, d3] }
  | _ => none }
def townLossesRow : OpenClaim := { program := "ytmlglimahbjgbaagreatdoor", sum := "1fed43ee65ae4db1b3852bc0b0575457f5419b012c259c8574bf9d3613d52247", func := "flyover/flyoverlaw04.TownLosses", spec := "townLosses", inPlace := ["internal/abi.NoEscape", "internal/bytealg.MakeNoZero"], unfollowed := true, recurses := true, named := ["flyover/town.places", "internal/strconv.uint64pow10", "math/bits.deBruijn32tab", "math/bits.deBruijn64tab"], apart := false, laid := [("math/bits.deBruijn32tab", laid_math_bits_deBruijn32tab), ("math/bits.deBruijn64tab", laid_math_bits_deBruijn64tab), ("internal/strconv.uint64pow10", laid_internal_strconv_uint64pow10), ("flyover/town.places", laid_flyover_town_places)] }
def TownLossesSaid : Prop := townLossesRow.holds Tryz.pinned (OpenSpec.ofChange townLossesSpec)

/-- ITS FALSE NEIGHBOUR: 'it returns false'. Refute it at one input. -/
def townLossesWrong : ChangeSpec := { name := "townLosses", fn := fun _ => fun
  | [d1, d2, d3] => { results := [.lit (.bool false)], args := [d1, d2, d3] }
  | _ => none }
def TownLossesWrongFalsely : Prop := townLossesRow.holds Tryz.pinned (OpenSpec.ofChange townLossesWrong)

/-- 'flyoverlaw04.TownMirrors': WHATEVER THE INPUT: true; the input reads as it did. -/
def townMirrorsSpec : ChangeSpec := { name := "townMirrors", fn := fun _ => fun
  | [d1, d2, d3] => { results := [.lit (.bool true)], args := [d1, d2, d3] }
  | _ => none }
def townMirrorsRow : OpenClaim := { program := "ytmlglimahbjgbaagreatdoor", sum := "1fed43ee65ae4db1b3852bc0b0575457f5419b012c259c8574bf9d3613d52247", func := "flyover/flyoverlaw04.TownMirrors", spec := "townMirrors", inPlace := ["internal/abi.NoEscape", "internal/bytealg.MakeNoZero"], unfollowed := true, recurses := true, named := ["flyover/town.places", "internal/strconv.uint64pow10", "math/bits.deBruijn32tab", "math/bits.deBruijn64tab"], apart := false, laid := [("math/bits.deBruijn32tab", laid_math_bits_deBruijn32tab), ("math/bits.deBruijn64tab", laid_math_bits_deBruijn64tab), ("internal/strconv.uint64pow10", laid_internal_strconv_uint64pow10), ("flyover/town.places", laid_flyover_town_places)] }
def TownMirrorsSaid : Prop := townMirrorsRow.holds Tryz.pinned (OpenSpec.ofChange townMirrorsSpec)

/-- ITS FALSE NEIGHBOUR: 'it returns false'. Refute it at one input. -/
def townMirrorsWrong : ChangeSpec := { name := "townMirrors", fn := fun _ => fun
  | [d1, d2, d3] => { results := [.lit (.bool false)], args := [d1, d2, d3] }
  | _ => none }
def TownMirrorsWrongFalsely : Prop := townMirrorsRow.holds Tryz.pinned (OpenSpec.ofChange townMirrorsWrong)

/-- 'flyoverlaw04.TownBuildings': WHATEVER THE INPUT: true; the input reads as it did. -/
def townBuildingsSpec : ChangeSpec := { name := "townBuildings", fn := fun _ => fun
  | [d1, d2, d3] => { results := [.lit (.bool true)], args := [d1, d2, d3] }
  | _ => none }
def townBuildingsRow : OpenClaim := { program := "ytmlglimahbjgbaagreatdoor", sum := "1fed43ee65ae4db1b3852bc0b0575457f5419b012c259c8574bf9d3613d52247", func := "flyover/flyoverlaw04.TownBuildings", spec := "townBuildings", inPlace := ["internal/abi.NoEscape", "internal/bytealg.MakeNoZero"], unfollowed := true, recurses := true, named := ["flyover/town.places", "internal/strconv.uint64pow10", "math/bits.deBruijn32tab", "math/bits.deBruijn64tab"], apart := false, laid := [("math/bits.deBruijn32tab", laid_math_bits_deBruijn32tab), ("math/bits.deBruijn64tab", laid_math_bits_deBruijn64tab), ("internal/strconv.uint64pow10", laid_internal_strconv_uint64pow10), ("flyover/town.places", laid_flyover_town_places)] }
def TownBuildingsSaid : Prop := townBuildingsRow.holds Tryz.pinned (OpenSpec.ofChange townBuildingsSpec)

/-- ITS FALSE NEIGHBOUR: 'it returns false'. Refute it at one input. -/
def townBuildingsWrong : ChangeSpec := { name := "townBuildings", fn := fun _ => fun
  | [d1, d2, d3] => { results := [.lit (.bool false)], args := [d1, d2, d3] }
  | _ => none }
def TownBuildingsWrongFalsely : Prop := townBuildingsRow.holds Tryz.pinned (OpenSpec.ofChange townBuildingsWrong)

/-- 'flyoverlaw04.TownReturns': WHATEVER THE INPUT: true; the input reads as it did. -/
def townReturnsSpec : ChangeSpec := { name := "townReturns", fn := fun _ => fun
  | [d1, d2, d3] => { results := [.lit (.bool true)], args := [d1, d2, d3] }
  | _ => none }
def townReturnsRow : OpenClaim := { program := "ytmlglimahbjgbaagreatdoor", sum := "1fed43ee65ae4db1b3852bc0b0575457f5419b012c259c8574bf9d3613d52247", func := "flyover/flyoverlaw04.TownReturns", spec := "townReturns", inPlace := ["internal/abi.NoEscape", "internal/bytealg.MakeNoZero"], unfollowed := true, recurses := true, named := ["flyover/town.places", "internal/strconv.uint64pow10", "math/bits.deBruijn32tab", "math/bits.deBruijn64tab"], apart := false, laid := [("math/bits.deBruijn32tab", laid_math_bits_deBruijn32tab), ("math/bits.deBruijn64tab", laid_math_bits_deBruijn64tab), ("internal/strconv.uint64pow10", laid_internal_strconv_uint64pow10), ("flyover/town.places", laid_flyover_town_places)] }
def TownReturnsSaid : Prop := townReturnsRow.holds Tryz.pinned (OpenSpec.ofChange townReturnsSpec)

/-- ITS FALSE NEIGHBOUR: 'it returns false'. Refute it at one input. -/
def townReturnsWrong : ChangeSpec := { name := "townReturns", fn := fun _ => fun
  | [d1, d2, d3] => { results := [.lit (.bool false)], args := [d1, d2, d3] }
  | _ => none }
def TownReturnsWrongFalsely : Prop := townReturnsRow.holds Tryz.pinned (OpenSpec.ofChange townReturnsWrong)

/-- 'flyoverlaw04.TownGrows': WHATEVER THE INPUT: true; the input reads as it did. -/
def townGrowsSpec : ChangeSpec := { name := "townGrows", fn := fun _ => fun
  | [d1, d2, d3] => { results := [.lit (.bool true)], args := [d1, d2, d3] }
  | _ => none }
def townGrowsRow : OpenClaim := { program := "ytmlglimahbjgbaagreatdoor", sum := "1fed43ee65ae4db1b3852bc0b0575457f5419b012c259c8574bf9d3613d52247", func := "flyover/flyoverlaw04.TownGrows", spec := "townGrows", inPlace := ["internal/abi.NoEscape", "internal/bytealg.MakeNoZero"], unfollowed := true, recurses := true, named := ["flyover/town.places", "internal/strconv.uint64pow10", "math/bits.deBruijn32tab", "math/bits.deBruijn64tab"], apart := false, laid := [("math/bits.deBruijn32tab", laid_math_bits_deBruijn32tab), ("math/bits.deBruijn64tab", laid_math_bits_deBruijn64tab), ("internal/strconv.uint64pow10", laid_internal_strconv_uint64pow10), ("flyover/town.places", laid_flyover_town_places)] }
def TownGrowsSaid : Prop := townGrowsRow.holds Tryz.pinned (OpenSpec.ofChange townGrowsSpec)

/-- ITS FALSE NEIGHBOUR: 'it returns false'. Refute it at one input. -/
def townGrowsWrong : ChangeSpec := { name := "townGrows", fn := fun _ => fun
  | [d1, d2, d3] => { results := [.lit (.bool false)], args := [d1, d2, d3] }
  | _ => none }
def TownGrowsWrongFalsely : Prop := townGrowsRow.holds Tryz.pinned (OpenSpec.ofChange townGrowsWrong)

/-- 'flyoverlaw04.TownImages': WHATEVER THE INPUT: true; the input reads as it did. -/
def townImagesSpec : ChangeSpec := { name := "townImages", fn := fun _ => fun
  | [d1, d2] => { results := [.lit (.bool true)], args := [d1, d2] }
  | _ => none }
def townImagesRow : OpenClaim := { program := "ytmlglimahbjgbaagreatdoor", sum := "1fed43ee65ae4db1b3852bc0b0575457f5419b012c259c8574bf9d3613d52247", func := "flyover/flyoverlaw04.TownImages", spec := "townImages", inPlace := ["internal/abi.NoEscape", "internal/bytealg.MakeNoZero"], unfollowed := true, recurses := true, named := ["flyover/town.places", "internal/strconv.uint64pow10", "math/bits.deBruijn32tab", "math/bits.deBruijn64tab"], apart := false, laid := [("math/bits.deBruijn32tab", laid_math_bits_deBruijn32tab), ("math/bits.deBruijn64tab", laid_math_bits_deBruijn64tab), ("internal/strconv.uint64pow10", laid_internal_strconv_uint64pow10), ("flyover/town.places", laid_flyover_town_places)] }
def TownImagesSaid : Prop := townImagesRow.holds Tryz.pinned (OpenSpec.ofChange townImagesSpec)

/-- ITS FALSE NEIGHBOUR: 'it returns false'. Refute it at one input. -/
def townImagesWrong : ChangeSpec := { name := "townImages", fn := fun _ => fun
  | [d1, d2] => { results := [.lit (.bool false)], args := [d1, d2] }
  | _ => none }
def TownImagesWrongFalsely : Prop := townImagesRow.holds Tryz.pinned (OpenSpec.ofChange townImagesWrong)

/-- 'flyoverlaw04.TownStrings': WHATEVER THE INPUT: true; the input reads as it did. -/
def townStringsSpec : ChangeSpec := { name := "townStrings", fn := fun _ => fun
  | [d1, d2] => { results := [.lit (.bool true)], args := [d1, d2] }
  | _ => none }
def townStringsRow : OpenClaim := { program := "ytmlglimahbjgbaagreatdoor", sum := "1fed43ee65ae4db1b3852bc0b0575457f5419b012c259c8574bf9d3613d52247", func := "flyover/flyoverlaw04.TownStrings", spec := "townStrings", inPlace := ["internal/abi.NoEscape", "internal/bytealg.MakeNoZero", "internal/bytealg.IndexByteString", "internal/bytealg.CountString", "internal/bytealg.IndexString"], unfollowed := true, recurses := true, named := ["flyover/town.places", "internal/strconv.uint64pow10", "math/bits.deBruijn32tab", "math/bits.deBruijn64tab", "unicode/utf8.first", "unicode/utf8.acceptRanges", "internal/bytealg.MaxLen"], apart := false, laid := [("math/bits.deBruijn32tab", laid_math_bits_deBruijn32tab), ("math/bits.deBruijn64tab", laid_math_bits_deBruijn64tab), ("internal/strconv.uint64pow10", laid_internal_strconv_uint64pow10), ("unicode/utf8.acceptRanges", laid_unicode_utf8_acceptRanges), ("flyover/town.places", laid_flyover_town_places), ("unicode/utf8.first", laid_unicode_utf8_first)] }
def TownStringsSaid : Prop := townStringsRow.holds Tryz.pinned (OpenSpec.ofChange townStringsSpec)

/-- ITS FALSE NEIGHBOUR: 'it returns false'. Refute it at one input. -/
def townStringsWrong : ChangeSpec := { name := "townStrings", fn := fun _ => fun
  | [d1, d2] => { results := [.lit (.bool false)], args := [d1, d2] }
  | _ => none }
def TownStringsWrongFalsely : Prop := townStringsRow.holds Tryz.pinned (OpenSpec.ofChange townStringsWrong)

/-- 'flyoverlaw04.TownWithin': WHATEVER THE INPUT: true; the input reads as it did. -/
def townWithinSpec : ChangeSpec := { name := "townWithin", fn := fun _ => fun
  | [d1, d2, d3] => { results := [.lit (.bool true)], args := [d1, d2, d3] }
  | _ => none }
def townWithinRow : OpenClaim := { program := "ytmlglimahbjgbaagreatdoor", sum := "1fed43ee65ae4db1b3852bc0b0575457f5419b012c259c8574bf9d3613d52247", func := "flyover/flyoverlaw04.TownWithin", spec := "townWithin", inPlace := ["internal/abi.NoEscape", "internal/bytealg.MakeNoZero", "internal/bytealg.IndexByteString", "internal/bytealg.CountString", "internal/bytealg.IndexString"], unfollowed := true, recurses := true, named := ["flyover/town.places", "internal/strconv.uint64pow10", "math/bits.deBruijn32tab", "math/bits.deBruijn64tab", "unicode/utf8.first", "unicode/utf8.acceptRanges", "internal/bytealg.MaxLen"], apart := false, laid := [("math/bits.deBruijn32tab", laid_math_bits_deBruijn32tab), ("math/bits.deBruijn64tab", laid_math_bits_deBruijn64tab), ("internal/strconv.uint64pow10", laid_internal_strconv_uint64pow10), ("unicode/utf8.acceptRanges", laid_unicode_utf8_acceptRanges), ("flyover/town.places", laid_flyover_town_places), ("unicode/utf8.first", laid_unicode_utf8_first)] }
def TownWithinSaid : Prop := townWithinRow.holds Tryz.pinned (OpenSpec.ofChange townWithinSpec)

/-- ITS FALSE NEIGHBOUR: 'it returns false'. Refute it at one input. -/
def townWithinWrong : ChangeSpec := { name := "townWithin", fn := fun _ => fun
  | [d1, d2, d3] => { results := [.lit (.bool false)], args := [d1, d2, d3] }
  | _ => none }
def TownWithinWrongFalsely : Prop := townWithinRow.holds Tryz.pinned (OpenSpec.ofChange townWithinWrong)

/- THE SECOND FORM. 'bulk': how many values and letters a reading holds, each counted each time it is reached (what is shared counts as often as it is met; a slice's spare places count too). A statement '..UptoSaid' is the law's where the arguments, and the package variables that the reading takes, are together of bulk at most 1048576: NARROWER than '..Said'. Prove '..Said' where nothing that the law and all that it calls make is longer than what came in: it says more and counts as full. Else prove '..UptoSaid'. A law counts once. -/
mutual
def uptoBulk {H : Type} : DataW H → Nat
  | .lit (.string bytes) => bytes.length + 1
  | .lit _ => 1
  | .nil => 1
  | .ptr d => uptoBulk d + 1
  | .slice elems spare => uptoBulkAll elems + uptoBulkAll spare + 1
  | .agg parts => uptoBulkAll parts + 1
  | .iface _ d => uptoBulk d + 1
  | .map entries => uptoBulkEntries entries + 1
  | .held _ => 1
def uptoBulkAll {H : Type} : List (DataW H) → Nat
  | [] => 0
  | d :: r => uptoBulk d + uptoBulkAll r
def uptoBulkEntries {H : Type} : List (Lit × DataW H) → Nat
  | [] => 0
  | x :: r => uptoBulkEntry x + uptoBulkEntries r
def uptoBulkEntry {H : Type} : Lit × DataW H → Nat
  | (.string bytes, d) => bytes.length + uptoBulk d + 1
  | (_, d) => uptoBulk d + 1
 end
def uptoSmall : (H : Type) → List (DataW H) → Bool := fun _ ds => decide (uptoBulkAll ds ≤ 1048576)
def OpenSpec.upto (s : _root_.Go.ChangeSpec) : _root_.Go.OpenSpec := { _root_.Go.OpenSpec.ofChange s with cond := some uptoSmall }

/-- 'flyoverlaw04.TownPaths', WHERE WHAT IT READS IS OF BULK AT MOST 1048576: true; the input reads as it did. -/
def townPathsUptoRow : OpenClaim := { program := "ytmlglimahbjgbaagreatdoor", sum := "1fed43ee65ae4db1b3852bc0b0575457f5419b012c259c8574bf9d3613d52247", func := "flyover/flyoverlaw04.TownPaths", spec := "townPaths", inPlace := ["internal/abi.NoEscape", "internal/bytealg.MakeNoZero"], unfollowed := true, recurses := true, named := ["flyover/town.places", "internal/strconv.uint64pow10", "math/bits.deBruijn32tab", "math/bits.deBruijn64tab"], apart := false, laid := [("math/bits.deBruijn32tab", laid_math_bits_deBruijn32tab), ("math/bits.deBruijn64tab", laid_math_bits_deBruijn64tab), ("internal/strconv.uint64pow10", laid_internal_strconv_uint64pow10), ("flyover/town.places", laid_flyover_town_places)], narrowed := true }
def TownPathsUptoSaid : Prop := townPathsUptoRow.holds Tryz.pinned (OpenSpec.upto townPathsSpec)

/-- 'flyoverlaw04.TownDepths', WHERE WHAT IT READS IS OF BULK AT MOST 1048576: true; the input reads as it did. -/
def townDepthsUptoRow : OpenClaim := { program := "ytmlglimahbjgbaagreatdoor", sum := "1fed43ee65ae4db1b3852bc0b0575457f5419b012c259c8574bf9d3613d52247", func := "flyover/flyoverlaw04.TownDepths", spec := "townDepths", inPlace := ["internal/abi.NoEscape", "internal/bytealg.MakeNoZero"], unfollowed := true, recurses := true, named := ["flyover/town.places", "internal/strconv.uint64pow10", "math/bits.deBruijn32tab", "math/bits.deBruijn64tab"], apart := false, laid := [("math/bits.deBruijn32tab", laid_math_bits_deBruijn32tab), ("math/bits.deBruijn64tab", laid_math_bits_deBruijn64tab), ("internal/strconv.uint64pow10", laid_internal_strconv_uint64pow10), ("flyover/town.places", laid_flyover_town_places)], narrowed := true }
def TownDepthsUptoSaid : Prop := townDepthsUptoRow.holds Tryz.pinned (OpenSpec.upto townDepthsSpec)

/-- 'flyoverlaw04.TownLosses', WHERE WHAT IT READS IS OF BULK AT MOST 1048576: true; the input reads as it did. -/
def townLossesUptoRow : OpenClaim := { program := "ytmlglimahbjgbaagreatdoor", sum := "1fed43ee65ae4db1b3852bc0b0575457f5419b012c259c8574bf9d3613d52247", func := "flyover/flyoverlaw04.TownLosses", spec := "townLosses", inPlace := ["internal/abi.NoEscape", "internal/bytealg.MakeNoZero"], unfollowed := true, recurses := true, named := ["flyover/town.places", "internal/strconv.uint64pow10", "math/bits.deBruijn32tab", "math/bits.deBruijn64tab"], apart := false, laid := [("math/bits.deBruijn32tab", laid_math_bits_deBruijn32tab), ("math/bits.deBruijn64tab", laid_math_bits_deBruijn64tab), ("internal/strconv.uint64pow10", laid_internal_strconv_uint64pow10), ("flyover/town.places", laid_flyover_town_places)], narrowed := true }
def TownLossesUptoSaid : Prop := townLossesUptoRow.holds Tryz.pinned (OpenSpec.upto townLossesSpec)

/-- 'flyoverlaw04.TownMirrors', WHERE WHAT IT READS IS OF BULK AT MOST 1048576: true; the input reads as it did. -/
def townMirrorsUptoRow : OpenClaim := { program := "ytmlglimahbjgbaagreatdoor", sum := "1fed43ee65ae4db1b3852bc0b0575457f5419b012c259c8574bf9d3613d52247", func := "flyover/flyoverlaw04.TownMirrors", spec := "townMirrors", inPlace := ["internal/abi.NoEscape", "internal/bytealg.MakeNoZero"], unfollowed := true, recurses := true, named := ["flyover/town.places", "internal/strconv.uint64pow10", "math/bits.deBruijn32tab", "math/bits.deBruijn64tab"], apart := false, laid := [("math/bits.deBruijn32tab", laid_math_bits_deBruijn32tab), ("math/bits.deBruijn64tab", laid_math_bits_deBruijn64tab), ("internal/strconv.uint64pow10", laid_internal_strconv_uint64pow10), ("flyover/town.places", laid_flyover_town_places)], narrowed := true }
def TownMirrorsUptoSaid : Prop := townMirrorsUptoRow.holds Tryz.pinned (OpenSpec.upto townMirrorsSpec)

/-- 'flyoverlaw04.TownBuildings', WHERE WHAT IT READS IS OF BULK AT MOST 1048576: true; the input reads as it did. -/
def townBuildingsUptoRow : OpenClaim := { program := "ytmlglimahbjgbaagreatdoor", sum := "1fed43ee65ae4db1b3852bc0b0575457f5419b012c259c8574bf9d3613d52247", func := "flyover/flyoverlaw04.TownBuildings", spec := "townBuildings", inPlace := ["internal/abi.NoEscape", "internal/bytealg.MakeNoZero"], unfollowed := true, recurses := true, named := ["flyover/town.places", "internal/strconv.uint64pow10", "math/bits.deBruijn32tab", "math/bits.deBruijn64tab"], apart := false, laid := [("math/bits.deBruijn32tab", laid_math_bits_deBruijn32tab), ("math/bits.deBruijn64tab", laid_math_bits_deBruijn64tab), ("internal/strconv.uint64pow10", laid_internal_strconv_uint64pow10), ("flyover/town.places", laid_flyover_town_places)], narrowed := true }
def TownBuildingsUptoSaid : Prop := townBuildingsUptoRow.holds Tryz.pinned (OpenSpec.upto townBuildingsSpec)

/-- 'flyoverlaw04.TownReturns', WHERE WHAT IT READS IS OF BULK AT MOST 1048576: true; the input reads as it did. -/
def townReturnsUptoRow : OpenClaim := { program := "ytmlglimahbjgbaagreatdoor", sum := "1fed43ee65ae4db1b3852bc0b0575457f5419b012c259c8574bf9d3613d52247", func := "flyover/flyoverlaw04.TownReturns", spec := "townReturns", inPlace := ["internal/abi.NoEscape", "internal/bytealg.MakeNoZero"], unfollowed := true, recurses := true, named := ["flyover/town.places", "internal/strconv.uint64pow10", "math/bits.deBruijn32tab", "math/bits.deBruijn64tab"], apart := false, laid := [("math/bits.deBruijn32tab", laid_math_bits_deBruijn32tab), ("math/bits.deBruijn64tab", laid_math_bits_deBruijn64tab), ("internal/strconv.uint64pow10", laid_internal_strconv_uint64pow10), ("flyover/town.places", laid_flyover_town_places)], narrowed := true }
def TownReturnsUptoSaid : Prop := townReturnsUptoRow.holds Tryz.pinned (OpenSpec.upto townReturnsSpec)

/-- 'flyoverlaw04.TownGrows', WHERE WHAT IT READS IS OF BULK AT MOST 1048576: true; the input reads as it did. -/
def townGrowsUptoRow : OpenClaim := { program := "ytmlglimahbjgbaagreatdoor", sum := "1fed43ee65ae4db1b3852bc0b0575457f5419b012c259c8574bf9d3613d52247", func := "flyover/flyoverlaw04.TownGrows", spec := "townGrows", inPlace := ["internal/abi.NoEscape", "internal/bytealg.MakeNoZero"], unfollowed := true, recurses := true, named := ["flyover/town.places", "internal/strconv.uint64pow10", "math/bits.deBruijn32tab", "math/bits.deBruijn64tab"], apart := false, laid := [("math/bits.deBruijn32tab", laid_math_bits_deBruijn32tab), ("math/bits.deBruijn64tab", laid_math_bits_deBruijn64tab), ("internal/strconv.uint64pow10", laid_internal_strconv_uint64pow10), ("flyover/town.places", laid_flyover_town_places)], narrowed := true }
def TownGrowsUptoSaid : Prop := townGrowsUptoRow.holds Tryz.pinned (OpenSpec.upto townGrowsSpec)

/-- 'flyoverlaw04.TownImages', WHERE WHAT IT READS IS OF BULK AT MOST 1048576: true; the input reads as it did. -/
def townImagesUptoRow : OpenClaim := { program := "ytmlglimahbjgbaagreatdoor", sum := "1fed43ee65ae4db1b3852bc0b0575457f5419b012c259c8574bf9d3613d52247", func := "flyover/flyoverlaw04.TownImages", spec := "townImages", inPlace := ["internal/abi.NoEscape", "internal/bytealg.MakeNoZero"], unfollowed := true, recurses := true, named := ["flyover/town.places", "internal/strconv.uint64pow10", "math/bits.deBruijn32tab", "math/bits.deBruijn64tab"], apart := false, laid := [("math/bits.deBruijn32tab", laid_math_bits_deBruijn32tab), ("math/bits.deBruijn64tab", laid_math_bits_deBruijn64tab), ("internal/strconv.uint64pow10", laid_internal_strconv_uint64pow10), ("flyover/town.places", laid_flyover_town_places)], narrowed := true }
def TownImagesUptoSaid : Prop := townImagesUptoRow.holds Tryz.pinned (OpenSpec.upto townImagesSpec)

/-- 'flyoverlaw04.TownStrings', WHERE WHAT IT READS IS OF BULK AT MOST 1048576: true; the input reads as it did. -/
def townStringsUptoRow : OpenClaim := { program := "ytmlglimahbjgbaagreatdoor", sum := "1fed43ee65ae4db1b3852bc0b0575457f5419b012c259c8574bf9d3613d52247", func := "flyover/flyoverlaw04.TownStrings", spec := "townStrings", inPlace := ["internal/abi.NoEscape", "internal/bytealg.MakeNoZero", "internal/bytealg.IndexByteString", "internal/bytealg.CountString", "internal/bytealg.IndexString"], unfollowed := true, recurses := true, named := ["flyover/town.places", "internal/strconv.uint64pow10", "math/bits.deBruijn32tab", "math/bits.deBruijn64tab", "unicode/utf8.first", "unicode/utf8.acceptRanges", "internal/bytealg.MaxLen"], apart := false, laid := [("math/bits.deBruijn32tab", laid_math_bits_deBruijn32tab), ("math/bits.deBruijn64tab", laid_math_bits_deBruijn64tab), ("internal/strconv.uint64pow10", laid_internal_strconv_uint64pow10), ("unicode/utf8.acceptRanges", laid_unicode_utf8_acceptRanges), ("flyover/town.places", laid_flyover_town_places), ("unicode/utf8.first", laid_unicode_utf8_first)], narrowed := true }
def TownStringsUptoSaid : Prop := townStringsUptoRow.holds Tryz.pinned (OpenSpec.upto townStringsSpec)

/-- 'flyoverlaw04.TownWithin', WHERE WHAT IT READS IS OF BULK AT MOST 1048576: true; the input reads as it did. -/
def townWithinUptoRow : OpenClaim := { program := "ytmlglimahbjgbaagreatdoor", sum := "1fed43ee65ae4db1b3852bc0b0575457f5419b012c259c8574bf9d3613d52247", func := "flyover/flyoverlaw04.TownWithin", spec := "townWithin", inPlace := ["internal/abi.NoEscape", "internal/bytealg.MakeNoZero", "internal/bytealg.IndexByteString", "internal/bytealg.CountString", "internal/bytealg.IndexString"], unfollowed := true, recurses := true, named := ["flyover/town.places", "internal/strconv.uint64pow10", "math/bits.deBruijn32tab", "math/bits.deBruijn64tab", "unicode/utf8.first", "unicode/utf8.acceptRanges", "internal/bytealg.MaxLen"], apart := false, laid := [("math/bits.deBruijn32tab", laid_math_bits_deBruijn32tab), ("math/bits.deBruijn64tab", laid_math_bits_deBruijn64tab), ("internal/strconv.uint64pow10", laid_internal_strconv_uint64pow10), ("unicode/utf8.acceptRanges", laid_unicode_utf8_acceptRanges), ("flyover/town.places", laid_flyover_town_places), ("unicode/utf8.first", laid_unicode_utf8_first)], narrowed := true }
def TownWithinUptoSaid : Prop := townWithinUptoRow.holds Tryz.pinned (OpenSpec.upto townWithinSpec)

end Rows
end Go.Proofs.YtmlglimahbjgbaaGreatDoor
