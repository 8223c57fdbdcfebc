/-
  DERIVED. GIVEN WITH THE SEED: THE CARDS: each row of YtifnpljmjhnbaaaGreatDoorRows.lean that lists a variable, with what it lists TIED to the program's text (the seventh form; the later family's looks); each row that meets fmt, with fmt's text TOLD by the authors' own Lean function (tested against real Go, not proved from fmt's source: count such statements apart). THE CARD IS WHAT COUNTS. Prove the row's statement (the work); the ties are given (YtifnpljmjhnbaaaGreatDoorTie.lean); close each card by the builder's one call (the guide's Derived/Test/ToyasCard.lean, 'card_holds'). Laid BY PROGRAM, IN A SANDBOX (cutbox-door.mjs). By AI agents, Wed Nov 11 2026. No macro, syntax, notation, axiom, sorry.
-/
import Derived.Test.YtifnpljmjhnbaaaGreatDoorRows
import GoSem.ClaimSeven
namespace Go.Proofs.YtifnpljmjhnbaaaGreatDoor
namespace Rows

/-- THE TIED CARD OF 'flyoverlaw05.MonitorChecks'. -/
def monitorChecksCard : Claim7 := { stood := { row := monitorChecksRow, standIns := [], harness := (true, "3d69327d2b055f001f9b100202a58e9ea223d2e85f2dde3ab7fd4b4321137c31"), looks := false }, kinds := [], alts := [], laidByText := true, laidKinds := [.data, .data, .data, .funcs], laidTests := true, laidLooks := .later }
def MonitorChecksCardSaid : Prop := Claim7.holds Tryz.pinned (.plain (OpenSpec.ofChange monitorChecksSpec)) monitorChecksCard

/-- THE TIED CARD OF 'flyoverlaw05.MonitorRecords'. -/
def monitorRecordsCard : Claim7 := { stood := { row := monitorRecordsRow, standIns := [], harness := (true, "3d69327d2b055f001f9b100202a58e9ea223d2e85f2dde3ab7fd4b4321137c31"), looks := false }, kinds := [], alts := [], laidByText := true, laidKinds := [.data, .data, .data, .funcs], laidTests := true, laidLooks := .later }
def MonitorRecordsCardSaid : Prop := Claim7.holds Tryz.pinned (.plain (OpenSpec.ofChange monitorRecordsSpec)) monitorRecordsCard

/-- THE TIED CARD OF 'flyoverlaw05.MonitorEvents'. -/
def monitorEventsCard : Claim7 := { stood := { row := monitorEventsRow, standIns := [], harness := (true, "3d69327d2b055f001f9b100202a58e9ea223d2e85f2dde3ab7fd4b4321137c31"), looks := false }, kinds := [], alts := [], laidByText := true, laidKinds := [.data, .data, .data, .funcs], laidTests := true, laidLooks := .later }
def MonitorEventsCardSaid : Prop := Claim7.holds Tryz.pinned (.plain (OpenSpec.ofChange monitorEventsSpec)) monitorEventsCard

/-- THE TIED CARD OF 'flyoverlaw05.MonitorLags'. -/
def monitorLagsCard : Claim7 := { stood := { row := monitorLagsRow, standIns := [], harness := (true, "3d69327d2b055f001f9b100202a58e9ea223d2e85f2dde3ab7fd4b4321137c31"), looks := false }, kinds := [], alts := [], laidByText := true, laidKinds := [.data, .data, .data, .funcs], laidTests := true, laidLooks := .later }
def MonitorLagsCardSaid : Prop := Claim7.holds Tryz.pinned (.plain (OpenSpec.ofChange monitorLagsSpec)) monitorLagsCard

/-- THE TIED CARD OF 'flyoverlaw05.MonitorReasons'. -/
def monitorReasonsCard : Claim7 := { stood := { row := monitorReasonsRow, standIns := [], harness := (true, "3d69327d2b055f001f9b100202a58e9ea223d2e85f2dde3ab7fd4b4321137c31"), looks := false }, kinds := [], alts := [], laidByText := true, laidKinds := [.data, .data, .data, .funcs], laidTests := true, laidLooks := .later }
def MonitorReasonsCardSaid : Prop := Claim7.holds Tryz.pinned (.plain (OpenSpec.ofChange monitorReasonsSpec)) monitorReasonsCard

/-- THE TIED CARD OF 'flyoverlaw05.MonitorMatches'. -/
def monitorMatchesCard : Claim7 := { stood := { row := monitorMatchesRow, standIns := [], harness := (true, "3d69327d2b055f001f9b100202a58e9ea223d2e85f2dde3ab7fd4b4321137c31"), looks := false }, kinds := [], alts := [], laidByText := true, laidKinds := [.data, .data, .data, .funcs], laidTests := true, laidLooks := .later }
def MonitorMatchesCardSaid : Prop := Claim7.holds Tryz.pinned (.plain (OpenSpec.ofChange monitorMatchesSpec)) monitorMatchesCard

/-- THE TIED CARD OF 'flyoverlaw05.MonitorBest'. -/
def monitorBestCard : Claim7 := { stood := { row := monitorBestRow, standIns := [], harness := (true, "3d69327d2b055f001f9b100202a58e9ea223d2e85f2dde3ab7fd4b4321137c31"), looks := false }, kinds := [], alts := [], laidByText := true, laidKinds := [.data, .data, .data, .funcs], laidTests := true, laidLooks := .later }
def MonitorBestCardSaid : Prop := Claim7.holds Tryz.pinned (.plain (OpenSpec.ofChange monitorBestSpec)) monitorBestCard

/-- THE TIED CARD OF 'flyoverlaw05.MonitorKept'. -/
def monitorKeptCard : Claim7 := { stood := { row := monitorKeptRow, standIns := [], harness := (true, "3d69327d2b055f001f9b100202a58e9ea223d2e85f2dde3ab7fd4b4321137c31"), looks := false }, kinds := [], alts := [], laidByText := true, laidKinds := [.data, .data, .data, .funcs], laidTests := true, laidLooks := .later }
def MonitorKeptCardSaid : Prop := Claim7.holds Tryz.pinned (.plain (OpenSpec.ofChange monitorKeptSpec)) monitorKeptCard

/-- THE TIED CARD OF 'flyoverlaw05.MonitorMoved'. -/
def monitorMovedCard : Claim7 := { stood := { row := monitorMovedRow, standIns := [], harness := (true, "3d69327d2b055f001f9b100202a58e9ea223d2e85f2dde3ab7fd4b4321137c31"), looks := false }, kinds := [], alts := [], laidByText := true, laidKinds := [.data, .data, .data, .funcs], laidTests := true, laidLooks := .later }
def MonitorMovedCardSaid : Prop := Claim7.holds Tryz.pinned (.plain (OpenSpec.ofChange monitorMovedSpec)) monitorMovedCard

/-- THE TIED CARD OF 'flyoverlaw05.MonitorProved'. -/
def monitorProvedCard : Claim7 := { stood := { row := monitorProvedRow, standIns := [], harness := (true, "3d69327d2b055f001f9b100202a58e9ea223d2e85f2dde3ab7fd4b4321137c31"), looks := false }, kinds := [], alts := [], laidByText := true, laidKinds := [.data, .data, .data, .funcs], laidTests := true, laidLooks := .later }
def MonitorProvedCardSaid : Prop := Claim7.holds Tryz.pinned (.plain (OpenSpec.ofChange monitorProvedSpec)) monitorProvedCard

/-- THE TIED CARD OF 'flyoverlaw05.MonitorStrings'. -/
def monitorStringsCard : Claim7 := { stood := { row := monitorStringsRow, standIns := [], harness := (true, "3d69327d2b055f001f9b100202a58e9ea223d2e85f2dde3ab7fd4b4321137c31"), looks := false }, kinds := [], alts := [], laidByText := true, laidKinds := [.data, .data, .data, .data, .funcs, .pinned], laidTests := true, laidLooks := .later }
def MonitorStringsCardSaid : Prop := Claim7.holds Tryz.pinned (.plain (OpenSpec.ofChange monitorStringsSpec)) monitorStringsCard

/-- THE TIED CARD OF 'flyoverlaw05.MonitorBack'. -/
def monitorBackCard : Claim7 := { stood := { row := monitorBackRow, standIns := [], harness := (true, "3d69327d2b055f001f9b100202a58e9ea223d2e85f2dde3ab7fd4b4321137c31"), looks := false }, kinds := [], alts := [], laidByText := true, laidKinds := [.data, .data, .data, .data, .funcs, .pinned], laidTests := true, laidLooks := .later }
def MonitorBackCardSaid : Prop := Claim7.holds Tryz.pinned (.plain (OpenSpec.ofChange monitorBackSpec)) monitorBackCard

/-- THE SECOND FORM's CARD OF 'flyoverlaw05.MonitorChecks'. -/
def monitorChecksUptoCard : Claim7 := { stood := { row := monitorChecksUptoRow, standIns := [], harness := (true, "3d69327d2b055f001f9b100202a58e9ea223d2e85f2dde3ab7fd4b4321137c31"), looks := false }, kinds := [], alts := [], laidByText := true, laidKinds := [.data, .data, .data, .funcs], laidTests := true, laidLooks := .later }
def MonitorChecksUptoCardSaid : Prop := Claim7.holds Tryz.pinned (.plain (OpenSpec.upto monitorChecksSpec)) monitorChecksUptoCard

/-- THE SECOND FORM's CARD OF 'flyoverlaw05.MonitorRecords'. -/
def monitorRecordsUptoCard : Claim7 := { stood := { row := monitorRecordsUptoRow, standIns := [], harness := (true, "3d69327d2b055f001f9b100202a58e9ea223d2e85f2dde3ab7fd4b4321137c31"), looks := false }, kinds := [], alts := [], laidByText := true, laidKinds := [.data, .data, .data, .funcs], laidTests := true, laidLooks := .later }
def MonitorRecordsUptoCardSaid : Prop := Claim7.holds Tryz.pinned (.plain (OpenSpec.upto monitorRecordsSpec)) monitorRecordsUptoCard

/-- THE SECOND FORM's CARD OF 'flyoverlaw05.MonitorEvents'. -/
def monitorEventsUptoCard : Claim7 := { stood := { row := monitorEventsUptoRow, standIns := [], harness := (true, "3d69327d2b055f001f9b100202a58e9ea223d2e85f2dde3ab7fd4b4321137c31"), looks := false }, kinds := [], alts := [], laidByText := true, laidKinds := [.data, .data, .data, .funcs], laidTests := true, laidLooks := .later }
def MonitorEventsUptoCardSaid : Prop := Claim7.holds Tryz.pinned (.plain (OpenSpec.upto monitorEventsSpec)) monitorEventsUptoCard

/-- THE SECOND FORM's CARD OF 'flyoverlaw05.MonitorLags'. -/
def monitorLagsUptoCard : Claim7 := { stood := { row := monitorLagsUptoRow, standIns := [], harness := (true, "3d69327d2b055f001f9b100202a58e9ea223d2e85f2dde3ab7fd4b4321137c31"), looks := false }, kinds := [], alts := [], laidByText := true, laidKinds := [.data, .data, .data, .funcs], laidTests := true, laidLooks := .later }
def MonitorLagsUptoCardSaid : Prop := Claim7.holds Tryz.pinned (.plain (OpenSpec.upto monitorLagsSpec)) monitorLagsUptoCard

/-- THE SECOND FORM's CARD OF 'flyoverlaw05.MonitorReasons'. -/
def monitorReasonsUptoCard : Claim7 := { stood := { row := monitorReasonsUptoRow, standIns := [], harness := (true, "3d69327d2b055f001f9b100202a58e9ea223d2e85f2dde3ab7fd4b4321137c31"), looks := false }, kinds := [], alts := [], laidByText := true, laidKinds := [.data, .data, .data, .funcs], laidTests := true, laidLooks := .later }
def MonitorReasonsUptoCardSaid : Prop := Claim7.holds Tryz.pinned (.plain (OpenSpec.upto monitorReasonsSpec)) monitorReasonsUptoCard

/-- THE SECOND FORM's CARD OF 'flyoverlaw05.MonitorMatches'. -/
def monitorMatchesUptoCard : Claim7 := { stood := { row := monitorMatchesUptoRow, standIns := [], harness := (true, "3d69327d2b055f001f9b100202a58e9ea223d2e85f2dde3ab7fd4b4321137c31"), looks := false }, kinds := [], alts := [], laidByText := true, laidKinds := [.data, .data, .data, .funcs], laidTests := true, laidLooks := .later }
def MonitorMatchesUptoCardSaid : Prop := Claim7.holds Tryz.pinned (.plain (OpenSpec.upto monitorMatchesSpec)) monitorMatchesUptoCard

/-- THE SECOND FORM's CARD OF 'flyoverlaw05.MonitorBest'. -/
def monitorBestUptoCard : Claim7 := { stood := { row := monitorBestUptoRow, standIns := [], harness := (true, "3d69327d2b055f001f9b100202a58e9ea223d2e85f2dde3ab7fd4b4321137c31"), looks := false }, kinds := [], alts := [], laidByText := true, laidKinds := [.data, .data, .data, .funcs], laidTests := true, laidLooks := .later }
def MonitorBestUptoCardSaid : Prop := Claim7.holds Tryz.pinned (.plain (OpenSpec.upto monitorBestSpec)) monitorBestUptoCard

/-- THE SECOND FORM's CARD OF 'flyoverlaw05.MonitorKept'. -/
def monitorKeptUptoCard : Claim7 := { stood := { row := monitorKeptUptoRow, standIns := [], harness := (true, "3d69327d2b055f001f9b100202a58e9ea223d2e85f2dde3ab7fd4b4321137c31"), looks := false }, kinds := [], alts := [], laidByText := true, laidKinds := [.data, .data, .data, .funcs], laidTests := true, laidLooks := .later }
def MonitorKeptUptoCardSaid : Prop := Claim7.holds Tryz.pinned (.plain (OpenSpec.upto monitorKeptSpec)) monitorKeptUptoCard

/-- THE SECOND FORM's CARD OF 'flyoverlaw05.MonitorMoved'. -/
def monitorMovedUptoCard : Claim7 := { stood := { row := monitorMovedUptoRow, standIns := [], harness := (true, "3d69327d2b055f001f9b100202a58e9ea223d2e85f2dde3ab7fd4b4321137c31"), looks := false }, kinds := [], alts := [], laidByText := true, laidKinds := [.data, .data, .data, .funcs], laidTests := true, laidLooks := .later }
def MonitorMovedUptoCardSaid : Prop := Claim7.holds Tryz.pinned (.plain (OpenSpec.upto monitorMovedSpec)) monitorMovedUptoCard

/-- THE SECOND FORM's CARD OF 'flyoverlaw05.MonitorProved'. -/
def monitorProvedUptoCard : Claim7 := { stood := { row := monitorProvedUptoRow, standIns := [], harness := (true, "3d69327d2b055f001f9b100202a58e9ea223d2e85f2dde3ab7fd4b4321137c31"), looks := false }, kinds := [], alts := [], laidByText := true, laidKinds := [.data, .data, .data, .funcs], laidTests := true, laidLooks := .later }
def MonitorProvedUptoCardSaid : Prop := Claim7.holds Tryz.pinned (.plain (OpenSpec.upto monitorProvedSpec)) monitorProvedUptoCard

/-- THE SECOND FORM's CARD OF 'flyoverlaw05.MonitorStrings'. -/
def monitorStringsUptoCard : Claim7 := { stood := { row := monitorStringsUptoRow, standIns := [], harness := (true, "3d69327d2b055f001f9b100202a58e9ea223d2e85f2dde3ab7fd4b4321137c31"), looks := false }, kinds := [], alts := [], laidByText := true, laidKinds := [.data, .data, .data, .data, .funcs, .pinned], laidTests := true, laidLooks := .later }
def MonitorStringsUptoCardSaid : Prop := Claim7.holds Tryz.pinned (.plain (OpenSpec.upto monitorStringsSpec)) monitorStringsUptoCard

/-- THE SECOND FORM's CARD OF 'flyoverlaw05.MonitorBack'. -/
def monitorBackUptoCard : Claim7 := { stood := { row := monitorBackUptoRow, standIns := [], harness := (true, "3d69327d2b055f001f9b100202a58e9ea223d2e85f2dde3ab7fd4b4321137c31"), looks := false }, kinds := [], alts := [], laidByText := true, laidKinds := [.data, .data, .data, .data, .funcs, .pinned], laidTests := true, laidLooks := .later }
def MonitorBackUptoCardSaid : Prop := Claim7.holds Tryz.pinned (.plain (OpenSpec.upto monitorBackSpec)) monitorBackUptoCard
end Rows
end Go.Proofs.YtifnpljmjhnbaaaGreatDoor
