/-
  NARROWER THAN 'FOR EVERY INPUT', by the rows' own cells (each row's printed sentence says how): MonitorChecks: laid · MonitorRecords: laid · MonitorEvents: laid · MonitorLags: laid · MonitorReasons: laid · MonitorMatches: laid · MonitorBest: laid · MonitorKept: laid · MonitorMoved: laid · MonitorProved: laid · MonitorStrings: laid · MonitorBack: laid.
  DERIVED. THE GIVEN ROWS OF THIS SEAT. 12 by the template 'for every input the law returns true; each argument reads behind the call as it read before'; 0 by the template 'total and deterministic' (their statements: YtifnpljmjhnbaaaGreatDoorTotals.lean).
  GIVEN WITH THE SEED: the statements are not yours to turn. If you find one false, say at which input.
  Laid BY PROGRAM, IN A SANDBOX (cutbox-rows.mjs): the forced cells as the released guide's own fill.sh prints them over the translation bb81a6d46b777a9f… (all of the seat's roots in one cut). By AI agents, Wed Nov 11 2026. No macro, syntax, notation, axiom, sorry.
-/
import Derived.Test.YtifnpljmjhnbaaaGreatDoorChecked
import GoSem.PinnedTables
import GoSem.Claim
import GoSem.ClaimJoined
import GoSem.ClaimMapViews
import Derived.JoinedTies
import Derived.KernelRfl
namespace Go.Proofs.YtifnpljmjhnbaaaGreatDoor
/- THE CELL 'sum', in the pinned program and in every row, IS THE sha256 OF THE DUMP (.gsa) THAT YtifnpljmjhnbaaaGreatDoorProg.lean LOADS. Nothing in Lean hashes anything: it is a label: what it is worth is what the hold of that sum in a sandbox is worth. -/
noncomputable def Tryz.pinned : Pinned := { name := "ytifnpljmjhnbaaagreatdoor", sum := "bb81a6d46b777a9f94baa3a96868cb237358c078325c9c3e5ed1108f358e4880", checked := Tryz.checked }
namespace Rows
def none {H : Type} : Left H := { results := [], args := [] }

/- WHAT THE LISTED PACKAGE-LEVEL VARIABLES READ AS WHEN THE CALL BEGINS. Each datum BY PROGRAM (the guide's laid-datum.mjs) off the statement by which the dump's own 'gosem.cut.vars' lays the variable. In a bare row this is a premise. The card (YtifnpljmjhnbaaaGreatDoorCards.lean) ties it to the program's text. -/
def laid_math_bits_deBruijn32tab {H : Type} : DataW H := .agg [.lit (.int .u8 0), .lit (.int .u8 1), .lit (.int .u8 28), .lit (.int .u8 2), .lit (.int .u8 29), .lit (.int .u8 14), .lit (.int .u8 24), .lit (.int .u8 3), .lit (.int .u8 30), .lit (.int .u8 22), .lit (.int .u8 20), .lit (.int .u8 15), .lit (.int .u8 25), .lit (.int .u8 17), .lit (.int .u8 4), .lit (.int .u8 8), .lit (.int .u8 31), .lit (.int .u8 27), .lit (.int .u8 13), .lit (.int .u8 23), .lit (.int .u8 21), .lit (.int .u8 19), .lit (.int .u8 16), .lit (.int .u8 7), .lit (.int .u8 26), .lit (.int .u8 12), .lit (.int .u8 18), .lit (.int .u8 6), .lit (.int .u8 11), .lit (.int .u8 5), .lit (.int .u8 10), .lit (.int .u8 9)]
def laid_math_bits_deBruijn64tab {H : Type} : DataW H := .agg [.lit (.int .u8 0), .lit (.int .u8 1), .lit (.int .u8 56), .lit (.int .u8 2), .lit (.int .u8 57), .lit (.int .u8 49), .lit (.int .u8 28), .lit (.int .u8 3), .lit (.int .u8 61), .lit (.int .u8 58), .lit (.int .u8 42), .lit (.int .u8 50), .lit (.int .u8 38), .lit (.int .u8 29), .lit (.int .u8 17), .lit (.int .u8 4), .lit (.int .u8 62), .lit (.int .u8 47), .lit (.int .u8 59), .lit (.int .u8 36), .lit (.int .u8 45), .lit (.int .u8 43), .lit (.int .u8 51), .lit (.int .u8 22), .lit (.int .u8 53), .lit (.int .u8 39), .lit (.int .u8 33), .lit (.int .u8 30), .lit (.int .u8 24), .lit (.int .u8 18), .lit (.int .u8 12), .lit (.int .u8 5), .lit (.int .u8 63), .lit (.int .u8 55), .lit (.int .u8 48), .lit (.int .u8 27), .lit (.int .u8 60), .lit (.int .u8 41), .lit (.int .u8 37), .lit (.int .u8 16), .lit (.int .u8 46), .lit (.int .u8 35), .lit (.int .u8 44), .lit (.int .u8 21), .lit (.int .u8 52), .lit (.int .u8 32), .lit (.int .u8 23), .lit (.int .u8 11), .lit (.int .u8 54), .lit (.int .u8 26), .lit (.int .u8 40), .lit (.int .u8 15), .lit (.int .u8 34), .lit (.int .u8 20), .lit (.int .u8 31), .lit (.int .u8 10), .lit (.int .u8 25), .lit (.int .u8 14), .lit (.int .u8 19), .lit (.int .u8 9), .lit (.int .u8 13), .lit (.int .u8 8), .lit (.int .u8 7), .lit (.int .u8 6)]
def laid_internal_strconv_uint64pow10 {H : Type} : DataW H := .agg [.lit (.int .u64 1), .lit (.int .u64 10), .lit (.int .u64 100), .lit (.int .u64 1000), .lit (.int .u64 10000), .lit (.int .u64 100000), .lit (.int .u64 1000000), .lit (.int .u64 10000000), .lit (.int .u64 100000000), .lit (.int .u64 1000000000), .lit (.int .u64 10000000000), .lit (.int .u64 100000000000), .lit (.int .u64 1000000000000), .lit (.int .u64 10000000000000), .lit (.int .u64 100000000000000), .lit (.int .u64 1000000000000000), .lit (.int .u64 10000000000000000), .lit (.int .u64 100000000000000000), .lit (.int .u64 1000000000000000000), .lit (.int .u64 10000000000000000000)]
def laid_flyover_monitor_reasons {H : Type} : DataW H := .iface "func table" (.agg [.agg [.lit (.string [116, 105, 109, 101]), .iface "func" (.lit (.string [102, 108, 121, 111, 118, 101, 114, 47, 109, 111, 110, 105, 116, 111, 114, 46, 114, 101, 97, 115, 111, 110, 115, 36, 49]))], .agg [.lit (.string [101, 110, 101, 114, 103, 121]), .iface "func" (.lit (.string [102, 108, 121, 111, 118, 101, 114, 47, 109, 111, 110, 105, 116, 111, 114, 46, 114, 101, 97, 115, 111, 110, 115, 36, 50]))]])
def laid_unicode_utf8_acceptRanges {H : Type} : DataW H := .agg [.agg [.lit (.int .u8 128), .lit (.int .u8 191)], .agg [.lit (.int .u8 160), .lit (.int .u8 191)], .agg [.lit (.int .u8 128), .lit (.int .u8 159)], .agg [.lit (.int .u8 144), .lit (.int .u8 191)], .agg [.lit (.int .u8 128), .lit (.int .u8 143)], .agg [.lit (.int .u8 0), .lit (.int .u8 0)], .agg [.lit (.int .u8 0), .lit (.int .u8 0)], .agg [.lit (.int .u8 0), .lit (.int .u8 0)], .agg [.lit (.int .u8 0), .lit (.int .u8 0)], .agg [.lit (.int .u8 0), .lit (.int .u8 0)], .agg [.lit (.int .u8 0), .lit (.int .u8 0)], .agg [.lit (.int .u8 0), .lit (.int .u8 0)], .agg [.lit (.int .u8 0), .lit (.int .u8 0)], .agg [.lit (.int .u8 0), .lit (.int .u8 0)], .agg [.lit (.int .u8 0), .lit (.int .u8 0)], .agg [.lit (.int .u8 0), .lit (.int .u8 0)]]
/-- One of Go's own tables, pinned by name: the form's constant. -/
def laid_unicode_utf8_first : DataW Unit := Go.Pinned.utf8First

/-- 'flyoverlaw05.MonitorChecks': WHATEVER THE INPUT: true; the input reads as it did. -/
def monitorChecksSpec : ChangeSpec := { name := "monitorChecks", fn := fun _ => fun
  | [d1, d2, d3] => { results := [.lit (.bool true)], args := [d1, d2, d3] }
  | _ => none }
def monitorChecksRow : OpenClaim := { program := "ytifnpljmjhnbaaagreatdoor", sum := "bb81a6d46b777a9f94baa3a96868cb237358c078325c9c3e5ed1108f358e4880", func := "flyover/flyoverlaw05.MonitorChecks", spec := "monitorChecks", inPlace := ["math.Float64bits", "math.Float64frombits", "math.archFloor", "math.archTrunc"], unfollowed := true, recurses := true, named := ["flyover/monitor.reasons", "internal/strconv.uint64pow10", "math/bits.deBruijn32tab", "math/bits.deBruijn64tab"], apart := false, laid := [("math/bits.deBruijn32tab", laid_math_bits_deBruijn32tab), ("math/bits.deBruijn64tab", laid_math_bits_deBruijn64tab), ("internal/strconv.uint64pow10", laid_internal_strconv_uint64pow10), ("flyover/monitor.reasons", laid_flyover_monitor_reasons)] }
def MonitorChecksSaid : Prop := monitorChecksRow.holds Tryz.pinned (OpenSpec.ofChange monitorChecksSpec)

/-- ITS FALSE NEIGHBOUR: 'it returns false'. Refute it at one input. -/
def monitorChecksWrong : ChangeSpec := { name := "monitorChecks", fn := fun _ => fun
  | [d1, d2, d3] => { results := [.lit (.bool false)], args := [d1, d2, d3] }
  | _ => none }
def MonitorChecksWrongFalsely : Prop := monitorChecksRow.holds Tryz.pinned (OpenSpec.ofChange monitorChecksWrong)

/-- 'flyoverlaw05.MonitorRecords': WHATEVER THE INPUT: true; the input reads as it did. -/
def monitorRecordsSpec : ChangeSpec := { name := "monitorRecords", fn := fun _ => fun
  | [d1, d2, d3] => { results := [.lit (.bool true)], args := [d1, d2, d3] }
  | _ => none }
def monitorRecordsRow : OpenClaim := { program := "ytifnpljmjhnbaaagreatdoor", sum := "bb81a6d46b777a9f94baa3a96868cb237358c078325c9c3e5ed1108f358e4880", func := "flyover/flyoverlaw05.MonitorRecords", spec := "monitorRecords", inPlace := ["math.Float64bits", "math.Float64frombits", "math.archFloor", "math.archTrunc"], unfollowed := true, recurses := true, named := ["flyover/monitor.reasons", "internal/strconv.uint64pow10", "math/bits.deBruijn32tab", "math/bits.deBruijn64tab"], apart := false, laid := [("math/bits.deBruijn32tab", laid_math_bits_deBruijn32tab), ("math/bits.deBruijn64tab", laid_math_bits_deBruijn64tab), ("internal/strconv.uint64pow10", laid_internal_strconv_uint64pow10), ("flyover/monitor.reasons", laid_flyover_monitor_reasons)] }
def MonitorRecordsSaid : Prop := monitorRecordsRow.holds Tryz.pinned (OpenSpec.ofChange monitorRecordsSpec)

/-- ITS FALSE NEIGHBOUR: 'it returns false'. Refute it at one input. -/
def monitorRecordsWrong : ChangeSpec := { name := "monitorRecords", fn := fun _ => fun
  | [d1, d2, d3] => { results := [.lit (.bool false)], args := [d1, d2, d3] }
  | _ => none }
def MonitorRecordsWrongFalsely : Prop := monitorRecordsRow.holds Tryz.pinned (OpenSpec.ofChange monitorRecordsWrong)

/-- 'flyoverlaw05.MonitorEvents': WHATEVER THE INPUT: true; the input reads as it did. -/
def monitorEventsSpec : ChangeSpec := { name := "monitorEvents", fn := fun _ => fun
  | [d1, d2] => { results := [.lit (.bool true)], args := [d1, d2] }
  | _ => none }
def monitorEventsRow : OpenClaim := { program := "ytifnpljmjhnbaaagreatdoor", sum := "bb81a6d46b777a9f94baa3a96868cb237358c078325c9c3e5ed1108f358e4880", func := "flyover/flyoverlaw05.MonitorEvents", spec := "monitorEvents", inPlace := ["math.Float64bits", "math.Float64frombits", "math.archFloor", "math.archTrunc"], unfollowed := true, recurses := true, named := ["flyover/monitor.reasons", "internal/strconv.uint64pow10", "math/bits.deBruijn32tab", "math/bits.deBruijn64tab"], apart := false, laid := [("math/bits.deBruijn32tab", laid_math_bits_deBruijn32tab), ("math/bits.deBruijn64tab", laid_math_bits_deBruijn64tab), ("internal/strconv.uint64pow10", laid_internal_strconv_uint64pow10), ("flyover/monitor.reasons", laid_flyover_monitor_reasons)] }
def MonitorEventsSaid : Prop := monitorEventsRow.holds Tryz.pinned (OpenSpec.ofChange monitorEventsSpec)

/-- ITS FALSE NEIGHBOUR: 'it returns false'. Refute it at one input. -/
def monitorEventsWrong : ChangeSpec := { name := "monitorEvents", fn := fun _ => fun
  | [d1, d2] => { results := [.lit (.bool false)], args := [d1, d2] }
  | _ => none }
def MonitorEventsWrongFalsely : Prop := monitorEventsRow.holds Tryz.pinned (OpenSpec.ofChange monitorEventsWrong)

/-- 'flyoverlaw05.MonitorLags': WHATEVER THE INPUT: true; the input reads as it did. -/
def monitorLagsSpec : ChangeSpec := { name := "monitorLags", fn := fun _ => fun
  | [d1, d2, d3] => { results := [.lit (.bool true)], args := [d1, d2, d3] }
  | _ => none }
def monitorLagsRow : OpenClaim := { program := "ytifnpljmjhnbaaagreatdoor", sum := "bb81a6d46b777a9f94baa3a96868cb237358c078325c9c3e5ed1108f358e4880", func := "flyover/flyoverlaw05.MonitorLags", spec := "monitorLags", inPlace := ["math.Float64bits", "math.Float64frombits", "math.archFloor", "math.archTrunc"], unfollowed := true, recurses := true, named := ["flyover/monitor.reasons", "internal/strconv.uint64pow10", "math/bits.deBruijn32tab", "math/bits.deBruijn64tab"], apart := false, laid := [("math/bits.deBruijn32tab", laid_math_bits_deBruijn32tab), ("math/bits.deBruijn64tab", laid_math_bits_deBruijn64tab), ("internal/strconv.uint64pow10", laid_internal_strconv_uint64pow10), ("flyover/monitor.reasons", laid_flyover_monitor_reasons)] }
def MonitorLagsSaid : Prop := monitorLagsRow.holds Tryz.pinned (OpenSpec.ofChange monitorLagsSpec)

/-- ITS FALSE NEIGHBOUR: 'it returns false'. Refute it at one input. -/
def monitorLagsWrong : ChangeSpec := { name := "monitorLags", fn := fun _ => fun
  | [d1, d2, d3] => { results := [.lit (.bool false)], args := [d1, d2, d3] }
  | _ => none }
def MonitorLagsWrongFalsely : Prop := monitorLagsRow.holds Tryz.pinned (OpenSpec.ofChange monitorLagsWrong)

/-- 'flyoverlaw05.MonitorReasons': WHATEVER THE INPUT: true; the input reads as it did. -/
def monitorReasonsSpec : ChangeSpec := { name := "monitorReasons", fn := fun _ => fun
  | [d1, d2, d3] => { results := [.lit (.bool true)], args := [d1, d2, d3] }
  | _ => none }
def monitorReasonsRow : OpenClaim := { program := "ytifnpljmjhnbaaagreatdoor", sum := "bb81a6d46b777a9f94baa3a96868cb237358c078325c9c3e5ed1108f358e4880", func := "flyover/flyoverlaw05.MonitorReasons", spec := "monitorReasons", inPlace := ["math.Float64bits", "math.Float64frombits", "math.archFloor", "math.archTrunc"], unfollowed := true, recurses := true, named := ["flyover/monitor.reasons", "internal/strconv.uint64pow10", "math/bits.deBruijn32tab", "math/bits.deBruijn64tab"], apart := false, laid := [("math/bits.deBruijn32tab", laid_math_bits_deBruijn32tab), ("math/bits.deBruijn64tab", laid_math_bits_deBruijn64tab), ("internal/strconv.uint64pow10", laid_internal_strconv_uint64pow10), ("flyover/monitor.reasons", laid_flyover_monitor_reasons)] }
def MonitorReasonsSaid : Prop := monitorReasonsRow.holds Tryz.pinned (OpenSpec.ofChange monitorReasonsSpec)

/-- ITS FALSE NEIGHBOUR: 'it returns false'. Refute it at one input. -/
def monitorReasonsWrong : ChangeSpec := { name := "monitorReasons", fn := fun _ => fun
  | [d1, d2, d3] => { results := [.lit (.bool false)], args := [d1, d2, d3] }
  | _ => none }
def MonitorReasonsWrongFalsely : Prop := monitorReasonsRow.holds Tryz.pinned (OpenSpec.ofChange monitorReasonsWrong)

/-- 'flyoverlaw05.MonitorMatches': WHATEVER THE INPUT: true; the input reads as it did. -/
def monitorMatchesSpec : ChangeSpec := { name := "monitorMatches", fn := fun _ => fun
  | [d1, d2, d3] => { results := [.lit (.bool true)], args := [d1, d2, d3] }
  | _ => none }
def monitorMatchesRow : OpenClaim := { program := "ytifnpljmjhnbaaagreatdoor", sum := "bb81a6d46b777a9f94baa3a96868cb237358c078325c9c3e5ed1108f358e4880", func := "flyover/flyoverlaw05.MonitorMatches", spec := "monitorMatches", inPlace := ["math.Float64bits", "math.Float64frombits", "math.archFloor", "math.archTrunc"], unfollowed := true, recurses := true, named := ["flyover/monitor.reasons", "internal/strconv.uint64pow10", "math/bits.deBruijn32tab", "math/bits.deBruijn64tab"], apart := false, laid := [("math/bits.deBruijn32tab", laid_math_bits_deBruijn32tab), ("math/bits.deBruijn64tab", laid_math_bits_deBruijn64tab), ("internal/strconv.uint64pow10", laid_internal_strconv_uint64pow10), ("flyover/monitor.reasons", laid_flyover_monitor_reasons)] }
def MonitorMatchesSaid : Prop := monitorMatchesRow.holds Tryz.pinned (OpenSpec.ofChange monitorMatchesSpec)

/-- ITS FALSE NEIGHBOUR: 'it returns false'. Refute it at one input. -/
def monitorMatchesWrong : ChangeSpec := { name := "monitorMatches", fn := fun _ => fun
  | [d1, d2, d3] => { results := [.lit (.bool false)], args := [d1, d2, d3] }
  | _ => none }
def MonitorMatchesWrongFalsely : Prop := monitorMatchesRow.holds Tryz.pinned (OpenSpec.ofChange monitorMatchesWrong)

/-- 'flyoverlaw05.MonitorBest': WHATEVER THE INPUT: true; the input reads as it did. -/
def monitorBestSpec : ChangeSpec := { name := "monitorBest", fn := fun _ => fun
  | [d1, d2, d3] => { results := [.lit (.bool true)], args := [d1, d2, d3] }
  | _ => none }
def monitorBestRow : OpenClaim := { program := "ytifnpljmjhnbaaagreatdoor", sum := "bb81a6d46b777a9f94baa3a96868cb237358c078325c9c3e5ed1108f358e4880", func := "flyover/flyoverlaw05.MonitorBest", spec := "monitorBest", inPlace := ["math.Float64bits", "math.Float64frombits", "math.archFloor", "math.archTrunc"], unfollowed := true, recurses := true, named := ["flyover/monitor.reasons", "internal/strconv.uint64pow10", "math/bits.deBruijn32tab", "math/bits.deBruijn64tab"], apart := false, laid := [("math/bits.deBruijn32tab", laid_math_bits_deBruijn32tab), ("math/bits.deBruijn64tab", laid_math_bits_deBruijn64tab), ("internal/strconv.uint64pow10", laid_internal_strconv_uint64pow10), ("flyover/monitor.reasons", laid_flyover_monitor_reasons)] }
def MonitorBestSaid : Prop := monitorBestRow.holds Tryz.pinned (OpenSpec.ofChange monitorBestSpec)

/-- ITS FALSE NEIGHBOUR: 'it returns false'. Refute it at one input. -/
def monitorBestWrong : ChangeSpec := { name := "monitorBest", fn := fun _ => fun
  | [d1, d2, d3] => { results := [.lit (.bool false)], args := [d1, d2, d3] }
  | _ => none }
def MonitorBestWrongFalsely : Prop := monitorBestRow.holds Tryz.pinned (OpenSpec.ofChange monitorBestWrong)

/-- 'flyoverlaw05.MonitorKept': WHATEVER THE INPUT: true; the input reads as it did. -/
def monitorKeptSpec : ChangeSpec := { name := "monitorKept", fn := fun _ => fun
  | [d1, d2] => { results := [.lit (.bool true)], args := [d1, d2] }
  | _ => none }
def monitorKeptRow : OpenClaim := { program := "ytifnpljmjhnbaaagreatdoor", sum := "bb81a6d46b777a9f94baa3a96868cb237358c078325c9c3e5ed1108f358e4880", func := "flyover/flyoverlaw05.MonitorKept", spec := "monitorKept", inPlace := ["math.Float64bits", "math.Float64frombits", "math.archFloor", "math.archTrunc"], unfollowed := true, recurses := true, named := ["flyover/monitor.reasons", "internal/strconv.uint64pow10", "math/bits.deBruijn32tab", "math/bits.deBruijn64tab"], apart := false, laid := [("math/bits.deBruijn32tab", laid_math_bits_deBruijn32tab), ("math/bits.deBruijn64tab", laid_math_bits_deBruijn64tab), ("internal/strconv.uint64pow10", laid_internal_strconv_uint64pow10), ("flyover/monitor.reasons", laid_flyover_monitor_reasons)] }
def MonitorKeptSaid : Prop := monitorKeptRow.holds Tryz.pinned (OpenSpec.ofChange monitorKeptSpec)

/-- ITS FALSE NEIGHBOUR: 'it returns false'. Refute it at one input. -/
def monitorKeptWrong : ChangeSpec := { name := "monitorKept", fn := fun _ => fun
  | [d1, d2] => { results := [.lit (.bool false)], args := [d1, d2] }
  | _ => none }
def MonitorKeptWrongFalsely : Prop := monitorKeptRow.holds Tryz.pinned (OpenSpec.ofChange monitorKeptWrong)

/-- 'flyoverlaw05.MonitorMoved': WHATEVER THE INPUT: true; the input reads as it did. -/
def monitorMovedSpec : ChangeSpec := { name := "monitorMoved", fn := fun _ => fun
  | [d1, d2] => { results := [.lit (.bool true)], args := [d1, d2] }
  | _ => none }
def monitorMovedRow : OpenClaim := { program := "ytifnpljmjhnbaaagreatdoor", sum := "bb81a6d46b777a9f94baa3a96868cb237358c078325c9c3e5ed1108f358e4880", func := "flyover/flyoverlaw05.MonitorMoved", spec := "monitorMoved", inPlace := ["math.Float64bits", "math.Float64frombits", "math.archFloor", "math.archTrunc"], unfollowed := true, recurses := true, named := ["flyover/monitor.reasons", "internal/strconv.uint64pow10", "math/bits.deBruijn32tab", "math/bits.deBruijn64tab"], apart := false, laid := [("math/bits.deBruijn32tab", laid_math_bits_deBruijn32tab), ("math/bits.deBruijn64tab", laid_math_bits_deBruijn64tab), ("internal/strconv.uint64pow10", laid_internal_strconv_uint64pow10), ("flyover/monitor.reasons", laid_flyover_monitor_reasons)] }
def MonitorMovedSaid : Prop := monitorMovedRow.holds Tryz.pinned (OpenSpec.ofChange monitorMovedSpec)

/-- ITS FALSE NEIGHBOUR: 'it returns false'. Refute it at one input. -/
def monitorMovedWrong : ChangeSpec := { name := "monitorMoved", fn := fun _ => fun
  | [d1, d2] => { results := [.lit (.bool false)], args := [d1, d2] }
  | _ => none }
def MonitorMovedWrongFalsely : Prop := monitorMovedRow.holds Tryz.pinned (OpenSpec.ofChange monitorMovedWrong)

/-- 'flyoverlaw05.MonitorProved': WHATEVER THE INPUT: true; the input reads as it did. -/
def monitorProvedSpec : ChangeSpec := { name := "monitorProved", fn := fun _ => fun
  | [d1, d2, d3] => { results := [.lit (.bool true)], args := [d1, d2, d3] }
  | _ => none }
def monitorProvedRow : OpenClaim := { program := "ytifnpljmjhnbaaagreatdoor", sum := "bb81a6d46b777a9f94baa3a96868cb237358c078325c9c3e5ed1108f358e4880", func := "flyover/flyoverlaw05.MonitorProved", spec := "monitorProved", inPlace := ["math.Float64bits", "math.Float64frombits", "math.archFloor", "math.archTrunc"], unfollowed := true, recurses := true, named := ["flyover/monitor.reasons", "internal/strconv.uint64pow10", "math/bits.deBruijn32tab", "math/bits.deBruijn64tab"], apart := false, laid := [("math/bits.deBruijn32tab", laid_math_bits_deBruijn32tab), ("math/bits.deBruijn64tab", laid_math_bits_deBruijn64tab), ("internal/strconv.uint64pow10", laid_internal_strconv_uint64pow10), ("flyover/monitor.reasons", laid_flyover_monitor_reasons)] }
def MonitorProvedSaid : Prop := monitorProvedRow.holds Tryz.pinned (OpenSpec.ofChange monitorProvedSpec)

/-- ITS FALSE NEIGHBOUR: 'it returns false'. Refute it at one input. -/
def monitorProvedWrong : ChangeSpec := { name := "monitorProved", fn := fun _ => fun
  | [d1, d2, d3] => { results := [.lit (.bool false)], args := [d1, d2, d3] }
  | _ => none }
def MonitorProvedWrongFalsely : Prop := monitorProvedRow.holds Tryz.pinned (OpenSpec.ofChange monitorProvedWrong)

/-- 'flyoverlaw05.MonitorStrings': WHATEVER THE INPUT: true; the input reads as it did. -/
def monitorStringsSpec : ChangeSpec := { name := "monitorStrings", fn := fun _ => fun
  | [d1, d2] => { results := [.lit (.bool true)], args := [d1, d2] }
  | _ => none }
def monitorStringsRow : OpenClaim := { program := "ytifnpljmjhnbaaagreatdoor", sum := "bb81a6d46b777a9f94baa3a96868cb237358c078325c9c3e5ed1108f358e4880", func := "flyover/flyoverlaw05.MonitorStrings", spec := "monitorStrings", inPlace := ["math.Float64bits", "math.Float64frombits", "math.archFloor", "math.archTrunc", "internal/bytealg.IndexByteString", "internal/bytealg.CountString", "internal/bytealg.IndexString"], unfollowed := true, recurses := true, named := ["flyover/monitor.reasons", "internal/strconv.uint64pow10", "math/bits.deBruijn32tab", "math/bits.deBruijn64tab", "unicode/utf8.first", "unicode/utf8.acceptRanges", "internal/bytealg.MaxLen"], apart := false, laid := [("math/bits.deBruijn32tab", laid_math_bits_deBruijn32tab), ("math/bits.deBruijn64tab", laid_math_bits_deBruijn64tab), ("internal/strconv.uint64pow10", laid_internal_strconv_uint64pow10), ("unicode/utf8.acceptRanges", laid_unicode_utf8_acceptRanges), ("flyover/monitor.reasons", laid_flyover_monitor_reasons), ("unicode/utf8.first", laid_unicode_utf8_first)] }
def MonitorStringsSaid : Prop := monitorStringsRow.holds Tryz.pinned (OpenSpec.ofChange monitorStringsSpec)

/-- ITS FALSE NEIGHBOUR: 'it returns false'. Refute it at one input. -/
def monitorStringsWrong : ChangeSpec := { name := "monitorStrings", fn := fun _ => fun
  | [d1, d2] => { results := [.lit (.bool false)], args := [d1, d2] }
  | _ => none }
def MonitorStringsWrongFalsely : Prop := monitorStringsRow.holds Tryz.pinned (OpenSpec.ofChange monitorStringsWrong)

/-- 'flyoverlaw05.MonitorBack': WHATEVER THE INPUT: true; the input reads as it did. -/
def monitorBackSpec : ChangeSpec := { name := "monitorBack", fn := fun _ => fun
  | [d1, d2] => { results := [.lit (.bool true)], args := [d1, d2] }
  | _ => none }
def monitorBackRow : OpenClaim := { program := "ytifnpljmjhnbaaagreatdoor", sum := "bb81a6d46b777a9f94baa3a96868cb237358c078325c9c3e5ed1108f358e4880", func := "flyover/flyoverlaw05.MonitorBack", spec := "monitorBack", inPlace := ["math.Float64bits", "math.Float64frombits", "math.archFloor", "math.archTrunc", "internal/bytealg.IndexByteString", "internal/bytealg.CountString", "internal/bytealg.IndexString"], unfollowed := true, recurses := true, named := ["flyover/monitor.reasons", "internal/strconv.uint64pow10", "math/bits.deBruijn32tab", "math/bits.deBruijn64tab", "unicode/utf8.first", "unicode/utf8.acceptRanges", "internal/bytealg.MaxLen"], apart := false, laid := [("math/bits.deBruijn32tab", laid_math_bits_deBruijn32tab), ("math/bits.deBruijn64tab", laid_math_bits_deBruijn64tab), ("internal/strconv.uint64pow10", laid_internal_strconv_uint64pow10), ("unicode/utf8.acceptRanges", laid_unicode_utf8_acceptRanges), ("flyover/monitor.reasons", laid_flyover_monitor_reasons), ("unicode/utf8.first", laid_unicode_utf8_first)] }
def MonitorBackSaid : Prop := monitorBackRow.holds Tryz.pinned (OpenSpec.ofChange monitorBackSpec)

/-- ITS FALSE NEIGHBOUR: 'it returns false'. Refute it at one input. -/
def monitorBackWrong : ChangeSpec := { name := "monitorBack", fn := fun _ => fun
  | [d1, d2] => { results := [.lit (.bool false)], args := [d1, d2] }
  | _ => none }
def MonitorBackWrongFalsely : Prop := monitorBackRow.holds Tryz.pinned (OpenSpec.ofChange monitorBackWrong)

/- THE SECOND FORM. 'bulk': how many values and letters a reading holds, each counted each time it is reached (what is shared counts as often as it is met; a slice's spare places count too). A statement '..UptoSaid' is the law's where the arguments, and the package variables that the reading takes, are together of bulk at most 1048576: NARROWER than '..Said'. Prove '..Said' where nothing that the law and all that it calls make is longer than what came in: it says more and counts as full. Else prove '..UptoSaid'. A law counts once. -/
mutual
def uptoBulk {H : Type} : DataW H → Nat
  | .lit (.string bytes) => bytes.length + 1
  | .lit _ => 1
  | .nil => 1
  | .ptr d => uptoBulk d + 1
  | .slice elems spare => uptoBulkAll elems + uptoBulkAll spare + 1
  | .agg parts => uptoBulkAll parts + 1
  | .iface _ d => uptoBulk d + 1
  | .map entries => uptoBulkEntries entries + 1
  | .held _ => 1
def uptoBulkAll {H : Type} : List (DataW H) → Nat
  | [] => 0
  | d :: r => uptoBulk d + uptoBulkAll r
def uptoBulkEntries {H : Type} : List (Lit × DataW H) → Nat
  | [] => 0
  | x :: r => uptoBulkEntry x + uptoBulkEntries r
def uptoBulkEntry {H : Type} : Lit × DataW H → Nat
  | (.string bytes, d) => bytes.length + uptoBulk d + 1
  | (_, d) => uptoBulk d + 1
 end
def uptoSmall : (H : Type) → List (DataW H) → Bool := fun _ ds => decide (uptoBulkAll ds ≤ 1048576)
def OpenSpec.upto (s : _root_.Go.ChangeSpec) : _root_.Go.OpenSpec := { _root_.Go.OpenSpec.ofChange s with cond := some uptoSmall }

/-- 'flyoverlaw05.MonitorChecks', WHERE WHAT IT READS IS OF BULK AT MOST 1048576: true; the input reads as it did. -/
def monitorChecksUptoRow : OpenClaim := { program := "ytifnpljmjhnbaaagreatdoor", sum := "bb81a6d46b777a9f94baa3a96868cb237358c078325c9c3e5ed1108f358e4880", func := "flyover/flyoverlaw05.MonitorChecks", spec := "monitorChecks", inPlace := ["math.Float64bits", "math.Float64frombits", "math.archFloor", "math.archTrunc"], unfollowed := true, recurses := true, named := ["flyover/monitor.reasons", "internal/strconv.uint64pow10", "math/bits.deBruijn32tab", "math/bits.deBruijn64tab"], apart := false, laid := [("math/bits.deBruijn32tab", laid_math_bits_deBruijn32tab), ("math/bits.deBruijn64tab", laid_math_bits_deBruijn64tab), ("internal/strconv.uint64pow10", laid_internal_strconv_uint64pow10), ("flyover/monitor.reasons", laid_flyover_monitor_reasons)], narrowed := true }
def MonitorChecksUptoSaid : Prop := monitorChecksUptoRow.holds Tryz.pinned (OpenSpec.upto monitorChecksSpec)

/-- 'flyoverlaw05.MonitorRecords', WHERE WHAT IT READS IS OF BULK AT MOST 1048576: true; the input reads as it did. -/
def monitorRecordsUptoRow : OpenClaim := { program := "ytifnpljmjhnbaaagreatdoor", sum := "bb81a6d46b777a9f94baa3a96868cb237358c078325c9c3e5ed1108f358e4880", func := "flyover/flyoverlaw05.MonitorRecords", spec := "monitorRecords", inPlace := ["math.Float64bits", "math.Float64frombits", "math.archFloor", "math.archTrunc"], unfollowed := true, recurses := true, named := ["flyover/monitor.reasons", "internal/strconv.uint64pow10", "math/bits.deBruijn32tab", "math/bits.deBruijn64tab"], apart := false, laid := [("math/bits.deBruijn32tab", laid_math_bits_deBruijn32tab), ("math/bits.deBruijn64tab", laid_math_bits_deBruijn64tab), ("internal/strconv.uint64pow10", laid_internal_strconv_uint64pow10), ("flyover/monitor.reasons", laid_flyover_monitor_reasons)], narrowed := true }
def MonitorRecordsUptoSaid : Prop := monitorRecordsUptoRow.holds Tryz.pinned (OpenSpec.upto monitorRecordsSpec)

/-- 'flyoverlaw05.MonitorEvents', WHERE WHAT IT READS IS OF BULK AT MOST 1048576: true; the input reads as it did. -/
def monitorEventsUptoRow : OpenClaim := { program := "ytifnpljmjhnbaaagreatdoor", sum := "bb81a6d46b777a9f94baa3a96868cb237358c078325c9c3e5ed1108f358e4880", func := "flyover/flyoverlaw05.MonitorEvents", spec := "monitorEvents", inPlace := ["math.Float64bits", "math.Float64frombits", "math.archFloor", "math.archTrunc"], unfollowed := true, recurses := true, named := ["flyover/monitor.reasons", "internal/strconv.uint64pow10", "math/bits.deBruijn32tab", "math/bits.deBruijn64tab"], apart := false, laid := [("math/bits.deBruijn32tab", laid_math_bits_deBruijn32tab), ("math/bits.deBruijn64tab", laid_math_bits_deBruijn64tab), ("internal/strconv.uint64pow10", laid_internal_strconv_uint64pow10), ("flyover/monitor.reasons", laid_flyover_monitor_reasons)], narrowed := true }
def MonitorEventsUptoSaid : Prop := monitorEventsUptoRow.holds Tryz.pinned (OpenSpec.upto monitorEventsSpec)

/-- 'flyoverlaw05.MonitorLags', WHERE WHAT IT READS IS OF BULK AT MOST 1048576: true; the input reads as it did. -/
def monitorLagsUptoRow : OpenClaim := { program := "ytifnpljmjhnbaaagreatdoor", sum := "bb81a6d46b777a9f94baa3a96868cb237358c078325c9c3e5ed1108f358e4880", func := "flyover/flyoverlaw05.MonitorLags", spec := "monitorLags", inPlace := ["math.Float64bits", "math.Float64frombits", "math.archFloor", "math.archTrunc"], unfollowed := true, recurses := true, named := ["flyover/monitor.reasons", "internal/strconv.uint64pow10", "math/bits.deBruijn32tab", "math/bits.deBruijn64tab"], apart := false, laid := [("math/bits.deBruijn32tab", laid_math_bits_deBruijn32tab), ("math/bits.deBruijn64tab", laid_math_bits_deBruijn64tab), ("internal/strconv.uint64pow10", laid_internal_strconv_uint64pow10), ("flyover/monitor.reasons", laid_flyover_monitor_reasons)], narrowed := true }
def MonitorLagsUptoSaid : Prop := monitorLagsUptoRow.holds Tryz.pinned (OpenSpec.upto monitorLagsSpec)

/-- 'flyoverlaw05.MonitorReasons', WHERE WHAT IT READS IS OF BULK AT MOST 1048576: true; the input reads as it did. -/
def monitorReasonsUptoRow : OpenClaim := { program := "ytifnpljmjhnbaaagreatdoor", sum := "bb81a6d46b777a9f94baa3a96868cb237358c078325c9c3e5ed1108f358e4880", func := "flyover/flyoverlaw05.MonitorReasons", spec := "monitorReasons", inPlace := ["math.Float64bits", "math.Float64frombits", "math.archFloor", "math.archTrunc"], unfollowed := true, recurses := true, named := ["flyover/monitor.reasons", "internal/strconv.uint64pow10", "math/bits.deBruijn32tab", "math/bits.deBruijn64tab"], apart := false, laid := [("math/bits.deBruijn32tab", laid_math_bits_deBruijn32tab), ("math/bits.deBruijn64tab", laid_math_bits_deBruijn64tab), ("internal/strconv.uint64pow10", laid_internal_strconv_uint64pow10), ("flyover/monitor.reasons", laid_flyover_monitor_reasons)], narrowed := true }
def MonitorReasonsUptoSaid : Prop := monitorReasonsUptoRow.holds Tryz.pinned (OpenSpec.upto monitorReasonsSpec)

/-- 'flyoverlaw05.MonitorMatches', WHERE WHAT IT READS IS OF BULK AT MOST 1048576: true; the input reads as it did. -/
def monitorMatchesUptoRow : OpenClaim := { program := "ytifnpljmjhnbaaagreatdoor", sum := "bb81a6d46b777a9f94baa3a96868cb237358c078325c9c3e5ed1108f358e4880", func := "flyover/flyoverlaw05.MonitorMatches", spec := "monitorMatches", inPlace := ["math.Float64bits", "math.Float64frombits", "math.archFloor", "math.archTrunc"], unfollowed := true, recurses := true, named := ["flyover/monitor.reasons", "internal/strconv.uint64pow10", "math/bits.deBruijn32tab", "math/bits.deBruijn64tab"], apart := false, laid := [("math/bits.deBruijn32tab", laid_math_bits_deBruijn32tab), ("math/bits.deBruijn64tab", laid_math_bits_deBruijn64tab), ("internal/strconv.uint64pow10", laid_internal_strconv_uint64pow10), ("flyover/monitor.reasons", laid_flyover_monitor_reasons)], narrowed := true }
def MonitorMatchesUptoSaid : Prop := monitorMatchesUptoRow.holds Tryz.pinned (OpenSpec.upto monitorMatchesSpec)

/-- 'flyoverlaw05.MonitorBest', WHERE WHAT IT READS IS OF BULK AT MOST 1048576: true; the input reads as it did. -/
def monitorBestUptoRow : OpenClaim := { program := "ytifnpljmjhnbaaagreatdoor", sum := "bb81a6d46b777a9f94baa3a96868cb237358c078325c9c3e5ed1108f358e4880", func := "flyover/flyoverlaw05.MonitorBest", spec := "monitorBest", inPlace := ["math.Float64bits", "math.Float64frombits", "math.archFloor", "math.archTrunc"], unfollowed := true, recurses := true, named := ["flyover/monitor.reasons", "internal/strconv.uint64pow10", "math/bits.deBruijn32tab", "math/bits.deBruijn64tab"], apart := false, laid := [("math/bits.deBruijn32tab", laid_math_bits_deBruijn32tab), ("math/bits.deBruijn64tab", laid_math_bits_deBruijn64tab), ("internal/strconv.uint64pow10", laid_internal_strconv_uint64pow10), ("flyover/monitor.reasons", laid_flyover_monitor_reasons)], narrowed := true }
def MonitorBestUptoSaid : Prop := monitorBestUptoRow.holds Tryz.pinned (OpenSpec.upto monitorBestSpec)

/-- 'flyoverlaw05.MonitorKept', WHERE WHAT IT READS IS OF BULK AT MOST 1048576: true; the input reads as it did. -/
def monitorKeptUptoRow : OpenClaim := { program := "ytifnpljmjhnbaaagreatdoor", sum := "bb81a6d46b777a9f94baa3a96868cb237358c078325c9c3e5ed1108f358e4880", func := "flyover/flyoverlaw05.MonitorKept", spec := "monitorKept", inPlace := ["math.Float64bits", "math.Float64frombits", "math.archFloor", "math.archTrunc"], unfollowed := true, recurses := true, named := ["flyover/monitor.reasons", "internal/strconv.uint64pow10", "math/bits.deBruijn32tab", "math/bits.deBruijn64tab"], apart := false, laid := [("math/bits.deBruijn32tab", laid_math_bits_deBruijn32tab), ("math/bits.deBruijn64tab", laid_math_bits_deBruijn64tab), ("internal/strconv.uint64pow10", laid_internal_strconv_uint64pow10), ("flyover/monitor.reasons", laid_flyover_monitor_reasons)], narrowed := true }
def MonitorKeptUptoSaid : Prop := monitorKeptUptoRow.holds Tryz.pinned (OpenSpec.upto monitorKeptSpec)

/-- 'flyoverlaw05.MonitorMoved', WHERE WHAT IT READS IS OF BULK AT MOST 1048576: true; the input reads as it did. -/
def monitorMovedUptoRow : OpenClaim := { program := "ytifnpljmjhnbaaagreatdoor", sum := "bb81a6d46b777a9f94baa3a96868cb237358c078325c9c3e5ed1108f358e4880", func := "flyover/flyoverlaw05.MonitorMoved", spec := "monitorMoved", inPlace := ["math.Float64bits", "math.Float64frombits", "math.archFloor", "math.archTrunc"], unfollowed := true, recurses := true, named := ["flyover/monitor.reasons", "internal/strconv.uint64pow10", "math/bits.deBruijn32tab", "math/bits.deBruijn64tab"], apart := false, laid := [("math/bits.deBruijn32tab", laid_math_bits_deBruijn32tab), ("math/bits.deBruijn64tab", laid_math_bits_deBruijn64tab), ("internal/strconv.uint64pow10", laid_internal_strconv_uint64pow10), ("flyover/monitor.reasons", laid_flyover_monitor_reasons)], narrowed := true }
def MonitorMovedUptoSaid : Prop := monitorMovedUptoRow.holds Tryz.pinned (OpenSpec.upto monitorMovedSpec)

/-- 'flyoverlaw05.MonitorProved', WHERE WHAT IT READS IS OF BULK AT MOST 1048576: true; the input reads as it did. -/
def monitorProvedUptoRow : OpenClaim := { program := "ytifnpljmjhnbaaagreatdoor", sum := "bb81a6d46b777a9f94baa3a96868cb237358c078325c9c3e5ed1108f358e4880", func := "flyover/flyoverlaw05.MonitorProved", spec := "monitorProved", inPlace := ["math.Float64bits", "math.Float64frombits", "math.archFloor", "math.archTrunc"], unfollowed := true, recurses := true, named := ["flyover/monitor.reasons", "internal/strconv.uint64pow10", "math/bits.deBruijn32tab", "math/bits.deBruijn64tab"], apart := false, laid := [("math/bits.deBruijn32tab", laid_math_bits_deBruijn32tab), ("math/bits.deBruijn64tab", laid_math_bits_deBruijn64tab), ("internal/strconv.uint64pow10", laid_internal_strconv_uint64pow10), ("flyover/monitor.reasons", laid_flyover_monitor_reasons)], narrowed := true }
def MonitorProvedUptoSaid : Prop := monitorProvedUptoRow.holds Tryz.pinned (OpenSpec.upto monitorProvedSpec)

/-- 'flyoverlaw05.MonitorStrings', WHERE WHAT IT READS IS OF BULK AT MOST 1048576: true; the input reads as it did. -/
def monitorStringsUptoRow : OpenClaim := { program := "ytifnpljmjhnbaaagreatdoor", sum := "bb81a6d46b777a9f94baa3a96868cb237358c078325c9c3e5ed1108f358e4880", func := "flyover/flyoverlaw05.MonitorStrings", spec := "monitorStrings", inPlace := ["math.Float64bits", "math.Float64frombits", "math.archFloor", "math.archTrunc", "internal/bytealg.IndexByteString", "internal/bytealg.CountString", "internal/bytealg.IndexString"], unfollowed := true, recurses := true, named := ["flyover/monitor.reasons", "internal/strconv.uint64pow10", "math/bits.deBruijn32tab", "math/bits.deBruijn64tab", "unicode/utf8.first", "unicode/utf8.acceptRanges", "internal/bytealg.MaxLen"], apart := false, laid := [("math/bits.deBruijn32tab", laid_math_bits_deBruijn32tab), ("math/bits.deBruijn64tab", laid_math_bits_deBruijn64tab), ("internal/strconv.uint64pow10", laid_internal_strconv_uint64pow10), ("unicode/utf8.acceptRanges", laid_unicode_utf8_acceptRanges), ("flyover/monitor.reasons", laid_flyover_monitor_reasons), ("unicode/utf8.first", laid_unicode_utf8_first)], narrowed := true }
def MonitorStringsUptoSaid : Prop := monitorStringsUptoRow.holds Tryz.pinned (OpenSpec.upto monitorStringsSpec)

/-- 'flyoverlaw05.MonitorBack', WHERE WHAT IT READS IS OF BULK AT MOST 1048576: true; the input reads as it did. -/
def monitorBackUptoRow : OpenClaim := { program := "ytifnpljmjhnbaaagreatdoor", sum := "bb81a6d46b777a9f94baa3a96868cb237358c078325c9c3e5ed1108f358e4880", func := "flyover/flyoverlaw05.MonitorBack", spec := "monitorBack", inPlace := ["math.Float64bits", "math.Float64frombits", "math.archFloor", "math.archTrunc", "internal/bytealg.IndexByteString", "internal/bytealg.CountString", "internal/bytealg.IndexString"], unfollowed := true, recurses := true, named := ["flyover/monitor.reasons", "internal/strconv.uint64pow10", "math/bits.deBruijn32tab", "math/bits.deBruijn64tab", "unicode/utf8.first", "unicode/utf8.acceptRanges", "internal/bytealg.MaxLen"], apart := false, laid := [("math/bits.deBruijn32tab", laid_math_bits_deBruijn32tab), ("math/bits.deBruijn64tab", laid_math_bits_deBruijn64tab), ("internal/strconv.uint64pow10", laid_internal_strconv_uint64pow10), ("unicode/utf8.acceptRanges", laid_unicode_utf8_acceptRanges), ("flyover/monitor.reasons", laid_flyover_monitor_reasons), ("unicode/utf8.first", laid_unicode_utf8_first)], narrowed := true }
def MonitorBackUptoSaid : Prop := monitorBackUptoRow.holds Tryz.pinned (OpenSpec.upto monitorBackSpec)

end Rows
end Go.Proofs.YtifnpljmjhnbaaaGreatDoor
