/-
  NARROWER THAN 'FOR EVERY INPUT', by the rows' own cells (each row's printed sentence says how): ContourRings: laid · ContourAreas: laid · ContourSums: laid · ContourGrows: laid · ContourGrids: laid · ContourCloses: laid · ContourTiles: laid · ContourStrings: laid · ContourParts: laid.
  DERIVED. THE GIVEN ROWS OF THIS SEAT. 9 by the template 'for every input the law returns true; each argument reads behind the call as it read before'; 0 by the template 'total and deterministic' (their statements: YthcpfignhalffaaGreatDoorTotals.lean).
  GIVEN WITH THE SEED: the statements are not yours to turn. If you find one false, say at which input.
  Laid BY PROGRAM, IN A SANDBOX (cutbox-rows.mjs): the forced cells as the released guide's own fill.sh prints them over the translation 7a86a5dec2a65b4c… (all of the seat's roots in one cut). By AI agents, Wed Nov 11 2026. No macro, syntax, notation, axiom, sorry.
-/
import Derived.Test.YthcpfignhalffaaGreatDoorChecked
import GoSem.PinnedTables
import GoSem.Claim
import GoSem.ClaimJoined
import GoSem.ClaimMapViews
import Derived.JoinedTies
import Derived.KernelRfl
namespace Go.Proofs.YthcpfignhalffaaGreatDoor
/- THE CELL 'sum', in the pinned program and in every row, IS THE sha256 OF THE DUMP (.gsa) THAT YthcpfignhalffaaGreatDoorProg.lean LOADS. Nothing in Lean hashes anything: it is a label: what it is worth is what the hold of that sum in a sandbox is worth. -/
noncomputable def Tryz.pinned : Pinned := { name := "ythcpfignhalffaagreatdoor", sum := "7a86a5dec2a65b4c1d8b70ca9bf9a45206aa67e333bfc8bfa2a0c4d25722d279", checked := Tryz.checked }
namespace Rows
def none {H : Type} : Left H := { results := [], args := [] }

/- WHAT THE LISTED PACKAGE-LEVEL VARIABLES READ AS WHEN THE CALL BEGINS. Each datum BY PROGRAM (the guide's laid-datum.mjs) off the statement by which the dump's own 'gosem.cut.vars' lays the variable. In a bare row this is a premise. The card (YthcpfignhalffaaGreatDoorCards.lean) ties it to the program's text. -/
def laid_math_bits_deBruijn32tab {H : Type} : DataW H := .agg [.lit (.int .u8 0), .lit (.int .u8 1), .lit (.int .u8 28), .lit (.int .u8 2), .lit (.int .u8 29), .lit (.int .u8 14), .lit (.int .u8 24), .lit (.int .u8 3), .lit (.int .u8 30), .lit (.int .u8 22), .lit (.int .u8 20), .lit (.int .u8 15), .lit (.int .u8 25), .lit (.int .u8 17), .lit (.int .u8 4), .lit (.int .u8 8), .lit (.int .u8 31), .lit (.int .u8 27), .lit (.int .u8 13), .lit (.int .u8 23), .lit (.int .u8 21), .lit (.int .u8 19), .lit (.int .u8 16), .lit (.int .u8 7), .lit (.int .u8 26), .lit (.int .u8 12), .lit (.int .u8 18), .lit (.int .u8 6), .lit (.int .u8 11), .lit (.int .u8 5), .lit (.int .u8 10), .lit (.int .u8 9)]
def laid_math_bits_deBruijn64tab {H : Type} : DataW H := .agg [.lit (.int .u8 0), .lit (.int .u8 1), .lit (.int .u8 56), .lit (.int .u8 2), .lit (.int .u8 57), .lit (.int .u8 49), .lit (.int .u8 28), .lit (.int .u8 3), .lit (.int .u8 61), .lit (.int .u8 58), .lit (.int .u8 42), .lit (.int .u8 50), .lit (.int .u8 38), .lit (.int .u8 29), .lit (.int .u8 17), .lit (.int .u8 4), .lit (.int .u8 62), .lit (.int .u8 47), .lit (.int .u8 59), .lit (.int .u8 36), .lit (.int .u8 45), .lit (.int .u8 43), .lit (.int .u8 51), .lit (.int .u8 22), .lit (.int .u8 53), .lit (.int .u8 39), .lit (.int .u8 33), .lit (.int .u8 30), .lit (.int .u8 24), .lit (.int .u8 18), .lit (.int .u8 12), .lit (.int .u8 5), .lit (.int .u8 63), .lit (.int .u8 55), .lit (.int .u8 48), .lit (.int .u8 27), .lit (.int .u8 60), .lit (.int .u8 41), .lit (.int .u8 37), .lit (.int .u8 16), .lit (.int .u8 46), .lit (.int .u8 35), .lit (.int .u8 44), .lit (.int .u8 21), .lit (.int .u8 52), .lit (.int .u8 32), .lit (.int .u8 23), .lit (.int .u8 11), .lit (.int .u8 54), .lit (.int .u8 26), .lit (.int .u8 40), .lit (.int .u8 15), .lit (.int .u8 34), .lit (.int .u8 20), .lit (.int .u8 31), .lit (.int .u8 10), .lit (.int .u8 25), .lit (.int .u8 14), .lit (.int .u8 19), .lit (.int .u8 9), .lit (.int .u8 13), .lit (.int .u8 8), .lit (.int .u8 7), .lit (.int .u8 6)]
def laid_internal_strconv_uint64pow10 {H : Type} : DataW H := .agg [.lit (.int .u64 1), .lit (.int .u64 10), .lit (.int .u64 100), .lit (.int .u64 1000), .lit (.int .u64 10000), .lit (.int .u64 100000), .lit (.int .u64 1000000), .lit (.int .u64 10000000), .lit (.int .u64 100000000), .lit (.int .u64 1000000000), .lit (.int .u64 10000000000), .lit (.int .u64 100000000000), .lit (.int .u64 1000000000000), .lit (.int .u64 10000000000000), .lit (.int .u64 100000000000000), .lit (.int .u64 1000000000000000), .lit (.int .u64 10000000000000000), .lit (.int .u64 100000000000000000), .lit (.int .u64 1000000000000000000), .lit (.int .u64 10000000000000000000)]
def laid_flyover_sound_base {H : Type} : DataW H := .agg [.lit (.int .i64 10), .lit (.int .i64 13), .lit (.int .i64 16), .lit (.int .i64 20), .lit (.int .i64 25), .lit (.int .i64 32), .lit (.int .i64 40), .lit (.int .i64 50), .lit (.int .i64 63), .lit (.int .i64 79)]
def laid_flyover_contour_sides {H : Type} : DataW H := .agg [.agg [.agg [.agg [.lit (.int .i64 0), .lit (.int .i64 0)], .agg [.lit (.int .i64 1), .lit (.int .i64 0)]], .agg [.lit (.int .i64 0), .lit (.int .i64 (-1))]], .agg [.agg [.agg [.lit (.int .i64 1), .lit (.int .i64 0)], .agg [.lit (.int .i64 1), .lit (.int .i64 1)]], .agg [.lit (.int .i64 1), .lit (.int .i64 0)]], .agg [.agg [.agg [.lit (.int .i64 1), .lit (.int .i64 1)], .agg [.lit (.int .i64 0), .lit (.int .i64 1)]], .agg [.lit (.int .i64 0), .lit (.int .i64 1)]], .agg [.agg [.agg [.lit (.int .i64 0), .lit (.int .i64 1)], .agg [.lit (.int .i64 0), .lit (.int .i64 0)]], .agg [.lit (.int .i64 (-1)), .lit (.int .i64 0)]]]
def laid_unicode_utf8_acceptRanges {H : Type} : DataW H := .agg [.agg [.lit (.int .u8 128), .lit (.int .u8 191)], .agg [.lit (.int .u8 160), .lit (.int .u8 191)], .agg [.lit (.int .u8 128), .lit (.int .u8 159)], .agg [.lit (.int .u8 144), .lit (.int .u8 191)], .agg [.lit (.int .u8 128), .lit (.int .u8 143)], .agg [.lit (.int .u8 0), .lit (.int .u8 0)], .agg [.lit (.int .u8 0), .lit (.int .u8 0)], .agg [.lit (.int .u8 0), .lit (.int .u8 0)], .agg [.lit (.int .u8 0), .lit (.int .u8 0)], .agg [.lit (.int .u8 0), .lit (.int .u8 0)], .agg [.lit (.int .u8 0), .lit (.int .u8 0)], .agg [.lit (.int .u8 0), .lit (.int .u8 0)], .agg [.lit (.int .u8 0), .lit (.int .u8 0)], .agg [.lit (.int .u8 0), .lit (.int .u8 0)], .agg [.lit (.int .u8 0), .lit (.int .u8 0)], .agg [.lit (.int .u8 0), .lit (.int .u8 0)]]
/-- One of Go's own tables, pinned by name: the form's constant. -/
def laid_unicode_utf8_first : DataW Unit := Go.Pinned.utf8First

/-- 'flyoverlaw06.ContourRings': WHATEVER THE INPUT: true; the input reads as it did. -/
def contourRingsSpec : ChangeSpec := { name := "contourRings", fn := fun _ => fun
  | [d1, d2, d3] => { results := [.lit (.bool true)], args := [d1, d2, d3] }
  | _ => none }
def contourRingsRow : OpenClaim := { program := "ythcpfignhalffaagreatdoor", sum := "7a86a5dec2a65b4c1d8b70ca9bf9a45206aa67e333bfc8bfa2a0c4d25722d279", func := "flyover/flyoverlaw06.ContourRings", spec := "contourRings", inPlace := ["internal/abi.NoEscape", "internal/bytealg.MakeNoZero"], unfollowed := true, recurses := true, named := ["flyover/sound.base", "flyover/contour.sides", "internal/strconv.uint64pow10", "math/bits.deBruijn32tab", "math/bits.deBruijn64tab"], plainKeys := false, apart := false, laid := [("math/bits.deBruijn32tab", laid_math_bits_deBruijn32tab), ("math/bits.deBruijn64tab", laid_math_bits_deBruijn64tab), ("internal/strconv.uint64pow10", laid_internal_strconv_uint64pow10), ("flyover/sound.base", laid_flyover_sound_base), ("flyover/contour.sides", laid_flyover_contour_sides)] }
def ContourRingsSaid : Prop := contourRingsRow.holds Tryz.pinned (OpenSpec.ofChange contourRingsSpec)

/-- ITS FALSE NEIGHBOUR: 'it returns false'. Refute it at one input. -/
def contourRingsWrong : ChangeSpec := { name := "contourRings", fn := fun _ => fun
  | [d1, d2, d3] => { results := [.lit (.bool false)], args := [d1, d2, d3] }
  | _ => none }
def ContourRingsWrongFalsely : Prop := contourRingsRow.holds Tryz.pinned (OpenSpec.ofChange contourRingsWrong)

/-- 'flyoverlaw06.ContourAreas': WHATEVER THE INPUT: true; the input reads as it did. -/
def contourAreasSpec : ChangeSpec := { name := "contourAreas", fn := fun _ => fun
  | [d1, d2, d3] => { results := [.lit (.bool true)], args := [d1, d2, d3] }
  | _ => none }
def contourAreasRow : OpenClaim := { program := "ythcpfignhalffaagreatdoor", sum := "7a86a5dec2a65b4c1d8b70ca9bf9a45206aa67e333bfc8bfa2a0c4d25722d279", func := "flyover/flyoverlaw06.ContourAreas", spec := "contourAreas", inPlace := ["internal/abi.NoEscape", "internal/bytealg.MakeNoZero"], unfollowed := true, recurses := true, named := ["flyover/sound.base", "flyover/contour.sides", "internal/strconv.uint64pow10", "math/bits.deBruijn32tab", "math/bits.deBruijn64tab"], plainKeys := false, apart := false, laid := [("math/bits.deBruijn32tab", laid_math_bits_deBruijn32tab), ("math/bits.deBruijn64tab", laid_math_bits_deBruijn64tab), ("internal/strconv.uint64pow10", laid_internal_strconv_uint64pow10), ("flyover/sound.base", laid_flyover_sound_base), ("flyover/contour.sides", laid_flyover_contour_sides)] }
def ContourAreasSaid : Prop := contourAreasRow.holds Tryz.pinned (OpenSpec.ofChange contourAreasSpec)

/-- ITS FALSE NEIGHBOUR: 'it returns false'. Refute it at one input. -/
def contourAreasWrong : ChangeSpec := { name := "contourAreas", fn := fun _ => fun
  | [d1, d2, d3] => { results := [.lit (.bool false)], args := [d1, d2, d3] }
  | _ => none }
def ContourAreasWrongFalsely : Prop := contourAreasRow.holds Tryz.pinned (OpenSpec.ofChange contourAreasWrong)

/-- 'flyoverlaw06.ContourSums': WHATEVER THE INPUT: true; the input reads as it did. -/
def contourSumsSpec : ChangeSpec := { name := "contourSums", fn := fun _ => fun
  | [d1, d2, d3] => { results := [.lit (.bool true)], args := [d1, d2, d3] }
  | _ => none }
def contourSumsRow : OpenClaim := { program := "ythcpfignhalffaagreatdoor", sum := "7a86a5dec2a65b4c1d8b70ca9bf9a45206aa67e333bfc8bfa2a0c4d25722d279", func := "flyover/flyoverlaw06.ContourSums", spec := "contourSums", inPlace := ["internal/abi.NoEscape", "internal/bytealg.MakeNoZero"], unfollowed := true, recurses := true, named := ["flyover/sound.base", "flyover/contour.sides", "internal/strconv.uint64pow10", "math/bits.deBruijn32tab", "math/bits.deBruijn64tab"], plainKeys := false, apart := false, laid := [("math/bits.deBruijn32tab", laid_math_bits_deBruijn32tab), ("math/bits.deBruijn64tab", laid_math_bits_deBruijn64tab), ("internal/strconv.uint64pow10", laid_internal_strconv_uint64pow10), ("flyover/sound.base", laid_flyover_sound_base), ("flyover/contour.sides", laid_flyover_contour_sides)] }
def ContourSumsSaid : Prop := contourSumsRow.holds Tryz.pinned (OpenSpec.ofChange contourSumsSpec)

/-- ITS FALSE NEIGHBOUR: 'it returns false'. Refute it at one input. -/
def contourSumsWrong : ChangeSpec := { name := "contourSums", fn := fun _ => fun
  | [d1, d2, d3] => { results := [.lit (.bool false)], args := [d1, d2, d3] }
  | _ => none }
def ContourSumsWrongFalsely : Prop := contourSumsRow.holds Tryz.pinned (OpenSpec.ofChange contourSumsWrong)

/-- 'flyoverlaw06.ContourGrows': WHATEVER THE INPUT: true; the input reads as it did. -/
def contourGrowsSpec : ChangeSpec := { name := "contourGrows", fn := fun _ => fun
  | [d1, d2, d3] => { results := [.lit (.bool true)], args := [d1, d2, d3] }
  | _ => none }
def contourGrowsRow : OpenClaim := { program := "ythcpfignhalffaagreatdoor", sum := "7a86a5dec2a65b4c1d8b70ca9bf9a45206aa67e333bfc8bfa2a0c4d25722d279", func := "flyover/flyoverlaw06.ContourGrows", spec := "contourGrows", inPlace := ["internal/abi.NoEscape", "internal/bytealg.MakeNoZero"], unfollowed := true, recurses := true, named := ["flyover/sound.base", "flyover/contour.sides", "internal/strconv.uint64pow10", "math/bits.deBruijn32tab", "math/bits.deBruijn64tab"], plainKeys := false, apart := false, laid := [("math/bits.deBruijn32tab", laid_math_bits_deBruijn32tab), ("math/bits.deBruijn64tab", laid_math_bits_deBruijn64tab), ("internal/strconv.uint64pow10", laid_internal_strconv_uint64pow10), ("flyover/sound.base", laid_flyover_sound_base), ("flyover/contour.sides", laid_flyover_contour_sides)] }
def ContourGrowsSaid : Prop := contourGrowsRow.holds Tryz.pinned (OpenSpec.ofChange contourGrowsSpec)

/-- ITS FALSE NEIGHBOUR: 'it returns false'. Refute it at one input. -/
def contourGrowsWrong : ChangeSpec := { name := "contourGrows", fn := fun _ => fun
  | [d1, d2, d3] => { results := [.lit (.bool false)], args := [d1, d2, d3] }
  | _ => none }
def ContourGrowsWrongFalsely : Prop := contourGrowsRow.holds Tryz.pinned (OpenSpec.ofChange contourGrowsWrong)

/-- 'flyoverlaw06.ContourGrids': WHATEVER THE INPUT: true; the input reads as it did. -/
def contourGridsSpec : ChangeSpec := { name := "contourGrids", fn := fun _ => fun
  | [d1, d2, d3] => { results := [.lit (.bool true)], args := [d1, d2, d3] }
  | _ => none }
def contourGridsRow : OpenClaim := { program := "ythcpfignhalffaagreatdoor", sum := "7a86a5dec2a65b4c1d8b70ca9bf9a45206aa67e333bfc8bfa2a0c4d25722d279", func := "flyover/flyoverlaw06.ContourGrids", spec := "contourGrids", inPlace := ["internal/abi.NoEscape", "internal/bytealg.MakeNoZero"], unfollowed := true, recurses := true, named := ["flyover/sound.base", "flyover/contour.sides", "internal/strconv.uint64pow10", "math/bits.deBruijn32tab", "math/bits.deBruijn64tab"], plainKeys := false, apart := false, laid := [("math/bits.deBruijn32tab", laid_math_bits_deBruijn32tab), ("math/bits.deBruijn64tab", laid_math_bits_deBruijn64tab), ("internal/strconv.uint64pow10", laid_internal_strconv_uint64pow10), ("flyover/sound.base", laid_flyover_sound_base), ("flyover/contour.sides", laid_flyover_contour_sides)] }
def ContourGridsSaid : Prop := contourGridsRow.holds Tryz.pinned (OpenSpec.ofChange contourGridsSpec)

/-- ITS FALSE NEIGHBOUR: 'it returns false'. Refute it at one input. -/
def contourGridsWrong : ChangeSpec := { name := "contourGrids", fn := fun _ => fun
  | [d1, d2, d3] => { results := [.lit (.bool false)], args := [d1, d2, d3] }
  | _ => none }
def ContourGridsWrongFalsely : Prop := contourGridsRow.holds Tryz.pinned (OpenSpec.ofChange contourGridsWrong)

/-- 'flyoverlaw06.ContourCloses': WHATEVER THE INPUT: true; the input reads as it did. -/
def contourClosesSpec : ChangeSpec := { name := "contourCloses", fn := fun _ => fun
  | [d1, d2] => { results := [.lit (.bool true)], args := [d1, d2] }
  | _ => none }
def contourClosesRow : OpenClaim := { program := "ythcpfignhalffaagreatdoor", sum := "7a86a5dec2a65b4c1d8b70ca9bf9a45206aa67e333bfc8bfa2a0c4d25722d279", func := "flyover/flyoverlaw06.ContourCloses", spec := "contourCloses", inPlace := ["internal/abi.NoEscape", "internal/bytealg.MakeNoZero"], unfollowed := true, recurses := true, named := ["flyover/sound.base", "flyover/contour.sides", "internal/strconv.uint64pow10", "math/bits.deBruijn32tab", "math/bits.deBruijn64tab"], plainKeys := false, apart := false, laid := [("math/bits.deBruijn32tab", laid_math_bits_deBruijn32tab), ("math/bits.deBruijn64tab", laid_math_bits_deBruijn64tab), ("internal/strconv.uint64pow10", laid_internal_strconv_uint64pow10), ("flyover/sound.base", laid_flyover_sound_base), ("flyover/contour.sides", laid_flyover_contour_sides)] }
def ContourClosesSaid : Prop := contourClosesRow.holds Tryz.pinned (OpenSpec.ofChange contourClosesSpec)

/-- ITS FALSE NEIGHBOUR: 'it returns false'. Refute it at one input. -/
def contourClosesWrong : ChangeSpec := { name := "contourCloses", fn := fun _ => fun
  | [d1, d2] => { results := [.lit (.bool false)], args := [d1, d2] }
  | _ => none }
def ContourClosesWrongFalsely : Prop := contourClosesRow.holds Tryz.pinned (OpenSpec.ofChange contourClosesWrong)

/-- 'flyoverlaw06.ContourTiles': WHATEVER THE INPUT: true; the input reads as it did. -/
def contourTilesSpec : ChangeSpec := { name := "contourTiles", fn := fun _ => fun
  | [d1, d2, d3] => { results := [.lit (.bool true)], args := [d1, d2, d3] }
  | _ => none }
def contourTilesRow : OpenClaim := { program := "ythcpfignhalffaagreatdoor", sum := "7a86a5dec2a65b4c1d8b70ca9bf9a45206aa67e333bfc8bfa2a0c4d25722d279", func := "flyover/flyoverlaw06.ContourTiles", spec := "contourTiles", inPlace := ["internal/abi.NoEscape", "internal/bytealg.MakeNoZero"], unfollowed := true, recurses := true, named := ["flyover/sound.base", "flyover/contour.sides", "internal/strconv.uint64pow10", "math/bits.deBruijn32tab", "math/bits.deBruijn64tab"], plainKeys := false, apart := false, laid := [("math/bits.deBruijn32tab", laid_math_bits_deBruijn32tab), ("math/bits.deBruijn64tab", laid_math_bits_deBruijn64tab), ("internal/strconv.uint64pow10", laid_internal_strconv_uint64pow10), ("flyover/sound.base", laid_flyover_sound_base), ("flyover/contour.sides", laid_flyover_contour_sides)] }
def ContourTilesSaid : Prop := contourTilesRow.holds Tryz.pinned (OpenSpec.ofChange contourTilesSpec)

/-- ITS FALSE NEIGHBOUR: 'it returns false'. Refute it at one input. -/
def contourTilesWrong : ChangeSpec := { name := "contourTiles", fn := fun _ => fun
  | [d1, d2, d3] => { results := [.lit (.bool false)], args := [d1, d2, d3] }
  | _ => none }
def ContourTilesWrongFalsely : Prop := contourTilesRow.holds Tryz.pinned (OpenSpec.ofChange contourTilesWrong)

/-- 'flyoverlaw06.ContourStrings': WHATEVER THE INPUT: true; the input reads as it did. -/
def contourStringsSpec : ChangeSpec := { name := "contourStrings", fn := fun _ => fun
  | [d1, d2] => { results := [.lit (.bool true)], args := [d1, d2] }
  | _ => none }
def contourStringsRow : OpenClaim := { program := "ythcpfignhalffaagreatdoor", sum := "7a86a5dec2a65b4c1d8b70ca9bf9a45206aa67e333bfc8bfa2a0c4d25722d279", func := "flyover/flyoverlaw06.ContourStrings", spec := "contourStrings", inPlace := ["internal/abi.NoEscape", "internal/bytealg.MakeNoZero", "internal/bytealg.IndexByteString", "internal/bytealg.CountString", "internal/bytealg.IndexString"], unfollowed := true, recurses := true, named := ["flyover/sound.base", "flyover/contour.sides", "internal/strconv.uint64pow10", "math/bits.deBruijn32tab", "math/bits.deBruijn64tab", "unicode/utf8.first", "unicode/utf8.acceptRanges", "internal/bytealg.MaxLen"], plainKeys := false, apart := false, laid := [("math/bits.deBruijn32tab", laid_math_bits_deBruijn32tab), ("math/bits.deBruijn64tab", laid_math_bits_deBruijn64tab), ("internal/strconv.uint64pow10", laid_internal_strconv_uint64pow10), ("unicode/utf8.acceptRanges", laid_unicode_utf8_acceptRanges), ("flyover/sound.base", laid_flyover_sound_base), ("flyover/contour.sides", laid_flyover_contour_sides), ("unicode/utf8.first", laid_unicode_utf8_first)] }
def ContourStringsSaid : Prop := contourStringsRow.holds Tryz.pinned (OpenSpec.ofChange contourStringsSpec)

/-- ITS FALSE NEIGHBOUR: 'it returns false'. Refute it at one input. -/
def contourStringsWrong : ChangeSpec := { name := "contourStrings", fn := fun _ => fun
  | [d1, d2] => { results := [.lit (.bool false)], args := [d1, d2] }
  | _ => none }
def ContourStringsWrongFalsely : Prop := contourStringsRow.holds Tryz.pinned (OpenSpec.ofChange contourStringsWrong)

/-- 'flyoverlaw06.ContourParts': WHATEVER THE INPUT: true; the input reads as it did. -/
def contourPartsSpec : ChangeSpec := { name := "contourParts", fn := fun _ => fun
  | [d1, d2] => { results := [.lit (.bool true)], args := [d1, d2] }
  | _ => none }
def contourPartsRow : OpenClaim := { program := "ythcpfignhalffaagreatdoor", sum := "7a86a5dec2a65b4c1d8b70ca9bf9a45206aa67e333bfc8bfa2a0c4d25722d279", func := "flyover/flyoverlaw06.ContourParts", spec := "contourParts", inPlace := ["internal/abi.NoEscape", "internal/bytealg.MakeNoZero", "internal/bytealg.IndexByteString", "internal/bytealg.CountString", "internal/bytealg.IndexString"], unfollowed := true, recurses := true, named := ["flyover/sound.base", "flyover/contour.sides", "internal/strconv.uint64pow10", "math/bits.deBruijn32tab", "math/bits.deBruijn64tab", "unicode/utf8.first", "unicode/utf8.acceptRanges", "internal/bytealg.MaxLen"], plainKeys := false, apart := false, laid := [("math/bits.deBruijn32tab", laid_math_bits_deBruijn32tab), ("math/bits.deBruijn64tab", laid_math_bits_deBruijn64tab), ("internal/strconv.uint64pow10", laid_internal_strconv_uint64pow10), ("unicode/utf8.acceptRanges", laid_unicode_utf8_acceptRanges), ("flyover/sound.base", laid_flyover_sound_base), ("flyover/contour.sides", laid_flyover_contour_sides), ("unicode/utf8.first", laid_unicode_utf8_first)] }
def ContourPartsSaid : Prop := contourPartsRow.holds Tryz.pinned (OpenSpec.ofChange contourPartsSpec)

/-- ITS FALSE NEIGHBOUR: 'it returns false'. Refute it at one input. -/
def contourPartsWrong : ChangeSpec := { name := "contourParts", fn := fun _ => fun
  | [d1, d2] => { results := [.lit (.bool false)], args := [d1, d2] }
  | _ => none }
def ContourPartsWrongFalsely : Prop := contourPartsRow.holds Tryz.pinned (OpenSpec.ofChange contourPartsWrong)

/- THE SECOND FORM. 'bulk': how many values and letters a reading holds, each counted each time it is reached (what is shared counts as often as it is met; a slice's spare places count too). A statement '..UptoSaid' is the law's where the arguments, and the package variables that the reading takes, are together of bulk at most 1048576: NARROWER than '..Said'. Prove '..Said' where nothing that the law and all that it calls make is longer than what came in: it says more and counts as full. Else prove '..UptoSaid'. A law counts once. -/
mutual
def uptoBulk {H : Type} : DataW H → Nat
  | .lit (.string bytes) => bytes.length + 1
  | .lit _ => 1
  | .nil => 1
  | .ptr d => uptoBulk d + 1
  | .slice elems spare => uptoBulkAll elems + uptoBulkAll spare + 1
  | .agg parts => uptoBulkAll parts + 1
  | .iface _ d => uptoBulk d + 1
  | .map entries => uptoBulkEntries entries + 1
  | .held _ => 1
def uptoBulkAll {H : Type} : List (DataW H) → Nat
  | [] => 0
  | d :: r => uptoBulk d + uptoBulkAll r
def uptoBulkEntries {H : Type} : List (Lit × DataW H) → Nat
  | [] => 0
  | x :: r => uptoBulkEntry x + uptoBulkEntries r
def uptoBulkEntry {H : Type} : Lit × DataW H → Nat
  | (.string bytes, d) => bytes.length + uptoBulk d + 1
  | (_, d) => uptoBulk d + 1
 end
def uptoSmall : (H : Type) → List (DataW H) → Bool := fun _ ds => decide (uptoBulkAll ds ≤ 1048576)
def OpenSpec.upto (s : _root_.Go.ChangeSpec) : _root_.Go.OpenSpec := { _root_.Go.OpenSpec.ofChange s with cond := some uptoSmall }

/-- 'flyoverlaw06.ContourRings', WHERE WHAT IT READS IS OF BULK AT MOST 1048576: true; the input reads as it did. -/
def contourRingsUptoRow : OpenClaim := { program := "ythcpfignhalffaagreatdoor", sum := "7a86a5dec2a65b4c1d8b70ca9bf9a45206aa67e333bfc8bfa2a0c4d25722d279", func := "flyover/flyoverlaw06.ContourRings", spec := "contourRings", inPlace := ["internal/abi.NoEscape", "internal/bytealg.MakeNoZero"], unfollowed := true, recurses := true, named := ["flyover/sound.base", "flyover/contour.sides", "internal/strconv.uint64pow10", "math/bits.deBruijn32tab", "math/bits.deBruijn64tab"], plainKeys := false, apart := false, laid := [("math/bits.deBruijn32tab", laid_math_bits_deBruijn32tab), ("math/bits.deBruijn64tab", laid_math_bits_deBruijn64tab), ("internal/strconv.uint64pow10", laid_internal_strconv_uint64pow10), ("flyover/sound.base", laid_flyover_sound_base), ("flyover/contour.sides", laid_flyover_contour_sides)], narrowed := true }
def ContourRingsUptoSaid : Prop := contourRingsUptoRow.holds Tryz.pinned (OpenSpec.upto contourRingsSpec)

/-- 'flyoverlaw06.ContourAreas', WHERE WHAT IT READS IS OF BULK AT MOST 1048576: true; the input reads as it did. -/
def contourAreasUptoRow : OpenClaim := { program := "ythcpfignhalffaagreatdoor", sum := "7a86a5dec2a65b4c1d8b70ca9bf9a45206aa67e333bfc8bfa2a0c4d25722d279", func := "flyover/flyoverlaw06.ContourAreas", spec := "contourAreas", inPlace := ["internal/abi.NoEscape", "internal/bytealg.MakeNoZero"], unfollowed := true, recurses := true, named := ["flyover/sound.base", "flyover/contour.sides", "internal/strconv.uint64pow10", "math/bits.deBruijn32tab", "math/bits.deBruijn64tab"], plainKeys := false, apart := false, laid := [("math/bits.deBruijn32tab", laid_math_bits_deBruijn32tab), ("math/bits.deBruijn64tab", laid_math_bits_deBruijn64tab), ("internal/strconv.uint64pow10", laid_internal_strconv_uint64pow10), ("flyover/sound.base", laid_flyover_sound_base), ("flyover/contour.sides", laid_flyover_contour_sides)], narrowed := true }
def ContourAreasUptoSaid : Prop := contourAreasUptoRow.holds Tryz.pinned (OpenSpec.upto contourAreasSpec)

/-- 'flyoverlaw06.ContourSums', WHERE WHAT IT READS IS OF BULK AT MOST 1048576: true; the input reads as it did. -/
def contourSumsUptoRow : OpenClaim := { program := "ythcpfignhalffaagreatdoor", sum := "7a86a5dec2a65b4c1d8b70ca9bf9a45206aa67e333bfc8bfa2a0c4d25722d279", func := "flyover/flyoverlaw06.ContourSums", spec := "contourSums", inPlace := ["internal/abi.NoEscape", "internal/bytealg.MakeNoZero"], unfollowed := true, recurses := true, named := ["flyover/sound.base", "flyover/contour.sides", "internal/strconv.uint64pow10", "math/bits.deBruijn32tab", "math/bits.deBruijn64tab"], plainKeys := false, apart := false, laid := [("math/bits.deBruijn32tab", laid_math_bits_deBruijn32tab), ("math/bits.deBruijn64tab", laid_math_bits_deBruijn64tab), ("internal/strconv.uint64pow10", laid_internal_strconv_uint64pow10), ("flyover/sound.base", laid_flyover_sound_base), ("flyover/contour.sides", laid_flyover_contour_sides)], narrowed := true }
def ContourSumsUptoSaid : Prop := contourSumsUptoRow.holds Tryz.pinned (OpenSpec.upto contourSumsSpec)

/-- 'flyoverlaw06.ContourGrows', WHERE WHAT IT READS IS OF BULK AT MOST 1048576: true; the input reads as it did. -/
def contourGrowsUptoRow : OpenClaim := { program := "ythcpfignhalffaagreatdoor", sum := "7a86a5dec2a65b4c1d8b70ca9bf9a45206aa67e333bfc8bfa2a0c4d25722d279", func := "flyover/flyoverlaw06.ContourGrows", spec := "contourGrows", inPlace := ["internal/abi.NoEscape", "internal/bytealg.MakeNoZero"], unfollowed := true, recurses := true, named := ["flyover/sound.base", "flyover/contour.sides", "internal/strconv.uint64pow10", "math/bits.deBruijn32tab", "math/bits.deBruijn64tab"], plainKeys := false, apart := false, laid := [("math/bits.deBruijn32tab", laid_math_bits_deBruijn32tab), ("math/bits.deBruijn64tab", laid_math_bits_deBruijn64tab), ("internal/strconv.uint64pow10", laid_internal_strconv_uint64pow10), ("flyover/sound.base", laid_flyover_sound_base), ("flyover/contour.sides", laid_flyover_contour_sides)], narrowed := true }
def ContourGrowsUptoSaid : Prop := contourGrowsUptoRow.holds Tryz.pinned (OpenSpec.upto contourGrowsSpec)

/-- 'flyoverlaw06.ContourGrids', WHERE WHAT IT READS IS OF BULK AT MOST 1048576: true; the input reads as it did. -/
def contourGridsUptoRow : OpenClaim := { program := "ythcpfignhalffaagreatdoor", sum := "7a86a5dec2a65b4c1d8b70ca9bf9a45206aa67e333bfc8bfa2a0c4d25722d279", func := "flyover/flyoverlaw06.ContourGrids", spec := "contourGrids", inPlace := ["internal/abi.NoEscape", "internal/bytealg.MakeNoZero"], unfollowed := true, recurses := true, named := ["flyover/sound.base", "flyover/contour.sides", "internal/strconv.uint64pow10", "math/bits.deBruijn32tab", "math/bits.deBruijn64tab"], plainKeys := false, apart := false, laid := [("math/bits.deBruijn32tab", laid_math_bits_deBruijn32tab), ("math/bits.deBruijn64tab", laid_math_bits_deBruijn64tab), ("internal/strconv.uint64pow10", laid_internal_strconv_uint64pow10), ("flyover/sound.base", laid_flyover_sound_base), ("flyover/contour.sides", laid_flyover_contour_sides)], narrowed := true }
def ContourGridsUptoSaid : Prop := contourGridsUptoRow.holds Tryz.pinned (OpenSpec.upto contourGridsSpec)

/-- 'flyoverlaw06.ContourCloses', WHERE WHAT IT READS IS OF BULK AT MOST 1048576: true; the input reads as it did. -/
def contourClosesUptoRow : OpenClaim := { program := "ythcpfignhalffaagreatdoor", sum := "7a86a5dec2a65b4c1d8b70ca9bf9a45206aa67e333bfc8bfa2a0c4d25722d279", func := "flyover/flyoverlaw06.ContourCloses", spec := "contourCloses", inPlace := ["internal/abi.NoEscape", "internal/bytealg.MakeNoZero"], unfollowed := true, recurses := true, named := ["flyover/sound.base", "flyover/contour.sides", "internal/strconv.uint64pow10", "math/bits.deBruijn32tab", "math/bits.deBruijn64tab"], plainKeys := false, apart := false, laid := [("math/bits.deBruijn32tab", laid_math_bits_deBruijn32tab), ("math/bits.deBruijn64tab", laid_math_bits_deBruijn64tab), ("internal/strconv.uint64pow10", laid_internal_strconv_uint64pow10), ("flyover/sound.base", laid_flyover_sound_base), ("flyover/contour.sides", laid_flyover_contour_sides)], narrowed := true }
def ContourClosesUptoSaid : Prop := contourClosesUptoRow.holds Tryz.pinned (OpenSpec.upto contourClosesSpec)

/-- 'flyoverlaw06.ContourTiles', WHERE WHAT IT READS IS OF BULK AT MOST 1048576: true; the input reads as it did. -/
def contourTilesUptoRow : OpenClaim := { program := "ythcpfignhalffaagreatdoor", sum := "7a86a5dec2a65b4c1d8b70ca9bf9a45206aa67e333bfc8bfa2a0c4d25722d279", func := "flyover/flyoverlaw06.ContourTiles", spec := "contourTiles", inPlace := ["internal/abi.NoEscape", "internal/bytealg.MakeNoZero"], unfollowed := true, recurses := true, named := ["flyover/sound.base", "flyover/contour.sides", "internal/strconv.uint64pow10", "math/bits.deBruijn32tab", "math/bits.deBruijn64tab"], plainKeys := false, apart := false, laid := [("math/bits.deBruijn32tab", laid_math_bits_deBruijn32tab), ("math/bits.deBruijn64tab", laid_math_bits_deBruijn64tab), ("internal/strconv.uint64pow10", laid_internal_strconv_uint64pow10), ("flyover/sound.base", laid_flyover_sound_base), ("flyover/contour.sides", laid_flyover_contour_sides)], narrowed := true }
def ContourTilesUptoSaid : Prop := contourTilesUptoRow.holds Tryz.pinned (OpenSpec.upto contourTilesSpec)

/-- 'flyoverlaw06.ContourStrings', WHERE WHAT IT READS IS OF BULK AT MOST 1048576: true; the input reads as it did. -/
def contourStringsUptoRow : OpenClaim := { program := "ythcpfignhalffaagreatdoor", sum := "7a86a5dec2a65b4c1d8b70ca9bf9a45206aa67e333bfc8bfa2a0c4d25722d279", func := "flyover/flyoverlaw06.ContourStrings", spec := "contourStrings", inPlace := ["internal/abi.NoEscape", "internal/bytealg.MakeNoZero", "internal/bytealg.IndexByteString", "internal/bytealg.CountString", "internal/bytealg.IndexString"], unfollowed := true, recurses := true, named := ["flyover/sound.base", "flyover/contour.sides", "internal/strconv.uint64pow10", "math/bits.deBruijn32tab", "math/bits.deBruijn64tab", "unicode/utf8.first", "unicode/utf8.acceptRanges", "internal/bytealg.MaxLen"], plainKeys := false, apart := false, laid := [("math/bits.deBruijn32tab", laid_math_bits_deBruijn32tab), ("math/bits.deBruijn64tab", laid_math_bits_deBruijn64tab), ("internal/strconv.uint64pow10", laid_internal_strconv_uint64pow10), ("unicode/utf8.acceptRanges", laid_unicode_utf8_acceptRanges), ("flyover/sound.base", laid_flyover_sound_base), ("flyover/contour.sides", laid_flyover_contour_sides), ("unicode/utf8.first", laid_unicode_utf8_first)], narrowed := true }
def ContourStringsUptoSaid : Prop := contourStringsUptoRow.holds Tryz.pinned (OpenSpec.upto contourStringsSpec)

/-- 'flyoverlaw06.ContourParts', WHERE WHAT IT READS IS OF BULK AT MOST 1048576: true; the input reads as it did. -/
def contourPartsUptoRow : OpenClaim := { program := "ythcpfignhalffaagreatdoor", sum := "7a86a5dec2a65b4c1d8b70ca9bf9a45206aa67e333bfc8bfa2a0c4d25722d279", func := "flyover/flyoverlaw06.ContourParts", spec := "contourParts", inPlace := ["internal/abi.NoEscape", "internal/bytealg.MakeNoZero", "internal/bytealg.IndexByteString", "internal/bytealg.CountString", "internal/bytealg.IndexString"], unfollowed := true, recurses := true, named := ["flyover/sound.base", "flyover/contour.sides", "internal/strconv.uint64pow10", "math/bits.deBruijn32tab", "math/bits.deBruijn64tab", "unicode/utf8.first", "unicode/utf8.acceptRanges", "internal/bytealg.MaxLen"], plainKeys := false, apart := false, laid := [("math/bits.deBruijn32tab", laid_math_bits_deBruijn32tab), ("math/bits.deBruijn64tab", laid_math_bits_deBruijn64tab), ("internal/strconv.uint64pow10", laid_internal_strconv_uint64pow10), ("unicode/utf8.acceptRanges", laid_unicode_utf8_acceptRanges), ("flyover/sound.base", laid_flyover_sound_base), ("flyover/contour.sides", laid_flyover_contour_sides), ("unicode/utf8.first", laid_unicode_utf8_first)], narrowed := true }
def ContourPartsUptoSaid : Prop := contourPartsUptoRow.holds Tryz.pinned (OpenSpec.upto contourPartsSpec)

end Rows
end Go.Proofs.YthcpfignhalffaaGreatDoor
