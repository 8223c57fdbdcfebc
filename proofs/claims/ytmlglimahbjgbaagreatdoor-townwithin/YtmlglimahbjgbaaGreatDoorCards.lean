/-
  DERIVED. GIVEN WITH THE SEED: THE CARDS: each row of YtmlglimahbjgbaaGreatDoorRows.lean that lists a variable, with what it lists TIED to the program's text (the seventh form; the later family's looks); each row that meets fmt, with fmt's text TOLD by the authors' own Lean function (tested against real Go, not proved from fmt's source: count such statements apart). THE CARD IS WHAT COUNTS. Prove the row's statement (the work); the ties are given (YtmlglimahbjgbaaGreatDoorTie.lean); close each card by the builder's one call (the guide's Derived/Test/ToyasCard.lean, 'card_holds'). Laid BY PROGRAM, IN A SANDBOX (cutbox-door.mjs). By AI agents, Wed Nov 11 2026. No macro, syntax, notation, axiom, sorry.
-/
import Derived.Test.YtmlglimahbjgbaaGreatDoorRows
import GoSem.ClaimSeven
namespace Go.Proofs.YtmlglimahbjgbaaGreatDoor
namespace Rows

/-- THE TIED CARD OF 'flyoverlaw04.TownPaths'. -/
def townPathsCard : Claim7 := { stood := { row := townPathsRow, standIns := [], harness := (true, "d53ea50bb91c04c30bd5022ec23b4b3f70d7163824b0b055e5254c1274d6849e"), looks := false }, kinds := [], alts := [], laidByText := true, laidKinds := [.data, .data, .data, .funcs], laidTests := true, laidLooks := .later }
def TownPathsCardSaid : Prop := Claim7.holds Tryz.pinned (.plain (OpenSpec.ofChange townPathsSpec)) townPathsCard

/-- THE TIED CARD OF 'flyoverlaw04.TownDepths'. -/
def townDepthsCard : Claim7 := { stood := { row := townDepthsRow, standIns := [], harness := (true, "d53ea50bb91c04c30bd5022ec23b4b3f70d7163824b0b055e5254c1274d6849e"), looks := false }, kinds := [], alts := [], laidByText := true, laidKinds := [.data, .data, .data, .funcs], laidTests := true, laidLooks := .later }
def TownDepthsCardSaid : Prop := Claim7.holds Tryz.pinned (.plain (OpenSpec.ofChange townDepthsSpec)) townDepthsCard

/-- THE TIED CARD OF 'flyoverlaw04.TownLosses'. -/
def townLossesCard : Claim7 := { stood := { row := townLossesRow, standIns := [], harness := (true, "d53ea50bb91c04c30bd5022ec23b4b3f70d7163824b0b055e5254c1274d6849e"), looks := false }, kinds := [], alts := [], laidByText := true, laidKinds := [.data, .data, .data, .funcs], laidTests := true, laidLooks := .later }
def TownLossesCardSaid : Prop := Claim7.holds Tryz.pinned (.plain (OpenSpec.ofChange townLossesSpec)) townLossesCard

/-- THE TIED CARD OF 'flyoverlaw04.TownMirrors'. -/
def townMirrorsCard : Claim7 := { stood := { row := townMirrorsRow, standIns := [], harness := (true, "d53ea50bb91c04c30bd5022ec23b4b3f70d7163824b0b055e5254c1274d6849e"), looks := false }, kinds := [], alts := [], laidByText := true, laidKinds := [.data, .data, .data, .funcs], laidTests := true, laidLooks := .later }
def TownMirrorsCardSaid : Prop := Claim7.holds Tryz.pinned (.plain (OpenSpec.ofChange townMirrorsSpec)) townMirrorsCard

/-- THE TIED CARD OF 'flyoverlaw04.TownBuildings'. -/
def townBuildingsCard : Claim7 := { stood := { row := townBuildingsRow, standIns := [], harness := (true, "d53ea50bb91c04c30bd5022ec23b4b3f70d7163824b0b055e5254c1274d6849e"), looks := false }, kinds := [], alts := [], laidByText := true, laidKinds := [.data, .data, .data, .funcs], laidTests := true, laidLooks := .later }
def TownBuildingsCardSaid : Prop := Claim7.holds Tryz.pinned (.plain (OpenSpec.ofChange townBuildingsSpec)) townBuildingsCard

/-- THE TIED CARD OF 'flyoverlaw04.TownReturns'. -/
def townReturnsCard : Claim7 := { stood := { row := townReturnsRow, standIns := [], harness := (true, "d53ea50bb91c04c30bd5022ec23b4b3f70d7163824b0b055e5254c1274d6849e"), looks := false }, kinds := [], alts := [], laidByText := true, laidKinds := [.data, .data, .data, .funcs], laidTests := true, laidLooks := .later }
def TownReturnsCardSaid : Prop := Claim7.holds Tryz.pinned (.plain (OpenSpec.ofChange townReturnsSpec)) townReturnsCard

/-- THE TIED CARD OF 'flyoverlaw04.TownGrows'. -/
def townGrowsCard : Claim7 := { stood := { row := townGrowsRow, standIns := [], harness := (true, "d53ea50bb91c04c30bd5022ec23b4b3f70d7163824b0b055e5254c1274d6849e"), looks := false }, kinds := [], alts := [], laidByText := true, laidKinds := [.data, .data, .data, .funcs], laidTests := true, laidLooks := .later }
def TownGrowsCardSaid : Prop := Claim7.holds Tryz.pinned (.plain (OpenSpec.ofChange townGrowsSpec)) townGrowsCard

/-- THE TIED CARD OF 'flyoverlaw04.TownImages'. -/
def townImagesCard : Claim7 := { stood := { row := townImagesRow, standIns := [], harness := (true, "d53ea50bb91c04c30bd5022ec23b4b3f70d7163824b0b055e5254c1274d6849e"), looks := false }, kinds := [], alts := [], laidByText := true, laidKinds := [.data, .data, .data, .funcs], laidTests := true, laidLooks := .later }
def TownImagesCardSaid : Prop := Claim7.holds Tryz.pinned (.plain (OpenSpec.ofChange townImagesSpec)) townImagesCard

/-- THE TIED CARD OF 'flyoverlaw04.TownStrings'. -/
def townStringsCard : Claim7 := { stood := { row := townStringsRow, standIns := [], harness := (true, "d53ea50bb91c04c30bd5022ec23b4b3f70d7163824b0b055e5254c1274d6849e"), looks := false }, kinds := [], alts := [], laidByText := true, laidKinds := [.data, .data, .data, .data, .funcs, .pinned], laidTests := true, laidLooks := .later }
def TownStringsCardSaid : Prop := Claim7.holds Tryz.pinned (.plain (OpenSpec.ofChange townStringsSpec)) townStringsCard

/-- THE TIED CARD OF 'flyoverlaw04.TownWithin'. -/
def townWithinCard : Claim7 := { stood := { row := townWithinRow, standIns := [], harness := (true, "d53ea50bb91c04c30bd5022ec23b4b3f70d7163824b0b055e5254c1274d6849e"), looks := false }, kinds := [], alts := [], laidByText := true, laidKinds := [.data, .data, .data, .data, .funcs, .pinned], laidTests := true, laidLooks := .later }
def TownWithinCardSaid : Prop := Claim7.holds Tryz.pinned (.plain (OpenSpec.ofChange townWithinSpec)) townWithinCard

/-- THE SECOND FORM's CARD OF 'flyoverlaw04.TownPaths'. -/
def townPathsUptoCard : Claim7 := { stood := { row := townPathsUptoRow, standIns := [], harness := (true, "d53ea50bb91c04c30bd5022ec23b4b3f70d7163824b0b055e5254c1274d6849e"), looks := false }, kinds := [], alts := [], laidByText := true, laidKinds := [.data, .data, .data, .funcs], laidTests := true, laidLooks := .later }
def TownPathsUptoCardSaid : Prop := Claim7.holds Tryz.pinned (.plain (OpenSpec.upto townPathsSpec)) townPathsUptoCard

/-- THE SECOND FORM's CARD OF 'flyoverlaw04.TownDepths'. -/
def townDepthsUptoCard : Claim7 := { stood := { row := townDepthsUptoRow, standIns := [], harness := (true, "d53ea50bb91c04c30bd5022ec23b4b3f70d7163824b0b055e5254c1274d6849e"), looks := false }, kinds := [], alts := [], laidByText := true, laidKinds := [.data, .data, .data, .funcs], laidTests := true, laidLooks := .later }
def TownDepthsUptoCardSaid : Prop := Claim7.holds Tryz.pinned (.plain (OpenSpec.upto townDepthsSpec)) townDepthsUptoCard

/-- THE SECOND FORM's CARD OF 'flyoverlaw04.TownLosses'. -/
def townLossesUptoCard : Claim7 := { stood := { row := townLossesUptoRow, standIns := [], harness := (true, "d53ea50bb91c04c30bd5022ec23b4b3f70d7163824b0b055e5254c1274d6849e"), looks := false }, kinds := [], alts := [], laidByText := true, laidKinds := [.data, .data, .data, .funcs], laidTests := true, laidLooks := .later }
def TownLossesUptoCardSaid : Prop := Claim7.holds Tryz.pinned (.plain (OpenSpec.upto townLossesSpec)) townLossesUptoCard

/-- THE SECOND FORM's CARD OF 'flyoverlaw04.TownMirrors'. -/
def townMirrorsUptoCard : Claim7 := { stood := { row := townMirrorsUptoRow, standIns := [], harness := (true, "d53ea50bb91c04c30bd5022ec23b4b3f70d7163824b0b055e5254c1274d6849e"), looks := false }, kinds := [], alts := [], laidByText := true, laidKinds := [.data, .data, .data, .funcs], laidTests := true, laidLooks := .later }
def TownMirrorsUptoCardSaid : Prop := Claim7.holds Tryz.pinned (.plain (OpenSpec.upto townMirrorsSpec)) townMirrorsUptoCard

/-- THE SECOND FORM's CARD OF 'flyoverlaw04.TownBuildings'. -/
def townBuildingsUptoCard : Claim7 := { stood := { row := townBuildingsUptoRow, standIns := [], harness := (true, "d53ea50bb91c04c30bd5022ec23b4b3f70d7163824b0b055e5254c1274d6849e"), looks := false }, kinds := [], alts := [], laidByText := true, laidKinds := [.data, .data, .data, .funcs], laidTests := true, laidLooks := .later }
def TownBuildingsUptoCardSaid : Prop := Claim7.holds Tryz.pinned (.plain (OpenSpec.upto townBuildingsSpec)) townBuildingsUptoCard

/-- THE SECOND FORM's CARD OF 'flyoverlaw04.TownReturns'. -/
def townReturnsUptoCard : Claim7 := { stood := { row := townReturnsUptoRow, standIns := [], harness := (true, "d53ea50bb91c04c30bd5022ec23b4b3f70d7163824b0b055e5254c1274d6849e"), looks := false }, kinds := [], alts := [], laidByText := true, laidKinds := [.data, .data, .data, .funcs], laidTests := true, laidLooks := .later }
def TownReturnsUptoCardSaid : Prop := Claim7.holds Tryz.pinned (.plain (OpenSpec.upto townReturnsSpec)) townReturnsUptoCard

/-- THE SECOND FORM's CARD OF 'flyoverlaw04.TownGrows'. -/
def townGrowsUptoCard : Claim7 := { stood := { row := townGrowsUptoRow, standIns := [], harness := (true, "d53ea50bb91c04c30bd5022ec23b4b3f70d7163824b0b055e5254c1274d6849e"), looks := false }, kinds := [], alts := [], laidByText := true, laidKinds := [.data, .data, .data, .funcs], laidTests := true, laidLooks := .later }
def TownGrowsUptoCardSaid : Prop := Claim7.holds Tryz.pinned (.plain (OpenSpec.upto townGrowsSpec)) townGrowsUptoCard

/-- THE SECOND FORM's CARD OF 'flyoverlaw04.TownImages'. -/
def townImagesUptoCard : Claim7 := { stood := { row := townImagesUptoRow, standIns := [], harness := (true, "d53ea50bb91c04c30bd5022ec23b4b3f70d7163824b0b055e5254c1274d6849e"), looks := false }, kinds := [], alts := [], laidByText := true, laidKinds := [.data, .data, .data, .funcs], laidTests := true, laidLooks := .later }
def TownImagesUptoCardSaid : Prop := Claim7.holds Tryz.pinned (.plain (OpenSpec.upto townImagesSpec)) townImagesUptoCard

/-- THE SECOND FORM's CARD OF 'flyoverlaw04.TownStrings'. -/
def townStringsUptoCard : Claim7 := { stood := { row := townStringsUptoRow, standIns := [], harness := (true, "d53ea50bb91c04c30bd5022ec23b4b3f70d7163824b0b055e5254c1274d6849e"), looks := false }, kinds := [], alts := [], laidByText := true, laidKinds := [.data, .data, .data, .data, .funcs, .pinned], laidTests := true, laidLooks := .later }
def TownStringsUptoCardSaid : Prop := Claim7.holds Tryz.pinned (.plain (OpenSpec.upto townStringsSpec)) townStringsUptoCard

/-- THE SECOND FORM's CARD OF 'flyoverlaw04.TownWithin'. -/
def townWithinUptoCard : Claim7 := { stood := { row := townWithinUptoRow, standIns := [], harness := (true, "d53ea50bb91c04c30bd5022ec23b4b3f70d7163824b0b055e5254c1274d6849e"), looks := false }, kinds := [], alts := [], laidByText := true, laidKinds := [.data, .data, .data, .data, .funcs, .pinned], laidTests := true, laidLooks := .later }
def TownWithinUptoCardSaid : Prop := Claim7.holds Tryz.pinned (.plain (OpenSpec.upto townWithinSpec)) townWithinUptoCard
end Rows
end Go.Proofs.YtmlglimahbjgbaaGreatDoor
