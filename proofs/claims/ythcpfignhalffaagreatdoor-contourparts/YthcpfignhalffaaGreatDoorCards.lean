/-
  DERIVED. GIVEN WITH THE SEED: THE CARDS: each row of YthcpfignhalffaaGreatDoorRows.lean that lists a variable, with what it lists TIED to the program's text (the seventh form; the later family's looks); each row that meets fmt, with fmt's text TOLD by the authors' own Lean function (tested against real Go, not proved from fmt's source: count such statements apart). THE CARD IS WHAT COUNTS. Prove the row's statement (the work); the ties are given (YthcpfignhalffaaGreatDoorTie.lean); close each card by the builder's one call (the guide's Derived/Test/ToyasCard.lean, 'card_holds'). Laid BY PROGRAM, IN A SANDBOX (cutbox-door.mjs). By AI agents, Wed Nov 11 2026. No macro, syntax, notation, axiom, sorry.
-/
import Derived.Test.YthcpfignhalffaaGreatDoorRows
import GoSem.ClaimSeven
namespace Go.Proofs.YthcpfignhalffaaGreatDoor
namespace Rows

/-- THE TIED CARD OF 'flyoverlaw06.ContourRings'. -/
def contourRingsCard : Claim7 := { stood := { row := contourRingsRow, standIns := [], harness := (true, "069c921ce972752f12262419050e261fc1943f1a2a8734af35a5a8ac9311b29d"), looks := false }, kinds := [], alts := [], laidByText := true, laidKinds := [.data, .data, .data, .data, .data], laidTests := true, laidLooks := .later }
def ContourRingsCardSaid : Prop := Claim7.holds Tryz.pinned (.plain (OpenSpec.ofChange contourRingsSpec)) contourRingsCard

/-- THE TIED CARD OF 'flyoverlaw06.ContourAreas'. -/
def contourAreasCard : Claim7 := { stood := { row := contourAreasRow, standIns := [], harness := (true, "069c921ce972752f12262419050e261fc1943f1a2a8734af35a5a8ac9311b29d"), looks := false }, kinds := [], alts := [], laidByText := true, laidKinds := [.data, .data, .data, .data, .data], laidTests := true, laidLooks := .later }
def ContourAreasCardSaid : Prop := Claim7.holds Tryz.pinned (.plain (OpenSpec.ofChange contourAreasSpec)) contourAreasCard

/-- THE TIED CARD OF 'flyoverlaw06.ContourSums'. -/
def contourSumsCard : Claim7 := { stood := { row := contourSumsRow, standIns := [], harness := (true, "069c921ce972752f12262419050e261fc1943f1a2a8734af35a5a8ac9311b29d"), looks := false }, kinds := [], alts := [], laidByText := true, laidKinds := [.data, .data, .data, .data, .data], laidTests := true, laidLooks := .later }
def ContourSumsCardSaid : Prop := Claim7.holds Tryz.pinned (.plain (OpenSpec.ofChange contourSumsSpec)) contourSumsCard

/-- THE TIED CARD OF 'flyoverlaw06.ContourGrows'. -/
def contourGrowsCard : Claim7 := { stood := { row := contourGrowsRow, standIns := [], harness := (true, "069c921ce972752f12262419050e261fc1943f1a2a8734af35a5a8ac9311b29d"), looks := false }, kinds := [], alts := [], laidByText := true, laidKinds := [.data, .data, .data, .data, .data], laidTests := true, laidLooks := .later }
def ContourGrowsCardSaid : Prop := Claim7.holds Tryz.pinned (.plain (OpenSpec.ofChange contourGrowsSpec)) contourGrowsCard

/-- THE TIED CARD OF 'flyoverlaw06.ContourGrids'. -/
def contourGridsCard : Claim7 := { stood := { row := contourGridsRow, standIns := [], harness := (true, "069c921ce972752f12262419050e261fc1943f1a2a8734af35a5a8ac9311b29d"), looks := false }, kinds := [], alts := [], laidByText := true, laidKinds := [.data, .data, .data, .data, .data], laidTests := true, laidLooks := .later }
def ContourGridsCardSaid : Prop := Claim7.holds Tryz.pinned (.plain (OpenSpec.ofChange contourGridsSpec)) contourGridsCard

/-- THE TIED CARD OF 'flyoverlaw06.ContourCloses'. -/
def contourClosesCard : Claim7 := { stood := { row := contourClosesRow, standIns := [], harness := (true, "069c921ce972752f12262419050e261fc1943f1a2a8734af35a5a8ac9311b29d"), looks := false }, kinds := [], alts := [], laidByText := true, laidKinds := [.data, .data, .data, .data, .data], laidTests := true, laidLooks := .later }
def ContourClosesCardSaid : Prop := Claim7.holds Tryz.pinned (.plain (OpenSpec.ofChange contourClosesSpec)) contourClosesCard

/-- THE TIED CARD OF 'flyoverlaw06.ContourTiles'. -/
def contourTilesCard : Claim7 := { stood := { row := contourTilesRow, standIns := [], harness := (true, "069c921ce972752f12262419050e261fc1943f1a2a8734af35a5a8ac9311b29d"), looks := false }, kinds := [], alts := [], laidByText := true, laidKinds := [.data, .data, .data, .data, .data], laidTests := true, laidLooks := .later }
def ContourTilesCardSaid : Prop := Claim7.holds Tryz.pinned (.plain (OpenSpec.ofChange contourTilesSpec)) contourTilesCard

/-- THE TIED CARD OF 'flyoverlaw06.ContourStrings'. -/
def contourStringsCard : Claim7 := { stood := { row := contourStringsRow, standIns := [], harness := (true, "069c921ce972752f12262419050e261fc1943f1a2a8734af35a5a8ac9311b29d"), looks := false }, kinds := [], alts := [], laidByText := true, laidKinds := [.data, .data, .data, .data, .data, .data, .pinned], laidTests := true, laidLooks := .later }
def ContourStringsCardSaid : Prop := Claim7.holds Tryz.pinned (.plain (OpenSpec.ofChange contourStringsSpec)) contourStringsCard

/-- THE TIED CARD OF 'flyoverlaw06.ContourParts'. -/
def contourPartsCard : Claim7 := { stood := { row := contourPartsRow, standIns := [], harness := (true, "069c921ce972752f12262419050e261fc1943f1a2a8734af35a5a8ac9311b29d"), looks := false }, kinds := [], alts := [], laidByText := true, laidKinds := [.data, .data, .data, .data, .data, .data, .pinned], laidTests := true, laidLooks := .later }
def ContourPartsCardSaid : Prop := Claim7.holds Tryz.pinned (.plain (OpenSpec.ofChange contourPartsSpec)) contourPartsCard

/-- THE SECOND FORM's CARD OF 'flyoverlaw06.ContourRings'. -/
def contourRingsUptoCard : Claim7 := { stood := { row := contourRingsUptoRow, standIns := [], harness := (true, "069c921ce972752f12262419050e261fc1943f1a2a8734af35a5a8ac9311b29d"), looks := false }, kinds := [], alts := [], laidByText := true, laidKinds := [.data, .data, .data, .data, .data], laidTests := true, laidLooks := .later }
def ContourRingsUptoCardSaid : Prop := Claim7.holds Tryz.pinned (.plain (OpenSpec.upto contourRingsSpec)) contourRingsUptoCard

/-- THE SECOND FORM's CARD OF 'flyoverlaw06.ContourAreas'. -/
def contourAreasUptoCard : Claim7 := { stood := { row := contourAreasUptoRow, standIns := [], harness := (true, "069c921ce972752f12262419050e261fc1943f1a2a8734af35a5a8ac9311b29d"), looks := false }, kinds := [], alts := [], laidByText := true, laidKinds := [.data, .data, .data, .data, .data], laidTests := true, laidLooks := .later }
def ContourAreasUptoCardSaid : Prop := Claim7.holds Tryz.pinned (.plain (OpenSpec.upto contourAreasSpec)) contourAreasUptoCard

/-- THE SECOND FORM's CARD OF 'flyoverlaw06.ContourSums'. -/
def contourSumsUptoCard : Claim7 := { stood := { row := contourSumsUptoRow, standIns := [], harness := (true, "069c921ce972752f12262419050e261fc1943f1a2a8734af35a5a8ac9311b29d"), looks := false }, kinds := [], alts := [], laidByText := true, laidKinds := [.data, .data, .data, .data, .data], laidTests := true, laidLooks := .later }
def ContourSumsUptoCardSaid : Prop := Claim7.holds Tryz.pinned (.plain (OpenSpec.upto contourSumsSpec)) contourSumsUptoCard

/-- THE SECOND FORM's CARD OF 'flyoverlaw06.ContourGrows'. -/
def contourGrowsUptoCard : Claim7 := { stood := { row := contourGrowsUptoRow, standIns := [], harness := (true, "069c921ce972752f12262419050e261fc1943f1a2a8734af35a5a8ac9311b29d"), looks := false }, kinds := [], alts := [], laidByText := true, laidKinds := [.data, .data, .data, .data, .data], laidTests := true, laidLooks := .later }
def ContourGrowsUptoCardSaid : Prop := Claim7.holds Tryz.pinned (.plain (OpenSpec.upto contourGrowsSpec)) contourGrowsUptoCard

/-- THE SECOND FORM's CARD OF 'flyoverlaw06.ContourGrids'. -/
def contourGridsUptoCard : Claim7 := { stood := { row := contourGridsUptoRow, standIns := [], harness := (true, "069c921ce972752f12262419050e261fc1943f1a2a8734af35a5a8ac9311b29d"), looks := false }, kinds := [], alts := [], laidByText := true, laidKinds := [.data, .data, .data, .data, .data], laidTests := true, laidLooks := .later }
def ContourGridsUptoCardSaid : Prop := Claim7.holds Tryz.pinned (.plain (OpenSpec.upto contourGridsSpec)) contourGridsUptoCard

/-- THE SECOND FORM's CARD OF 'flyoverlaw06.ContourCloses'. -/
def contourClosesUptoCard : Claim7 := { stood := { row := contourClosesUptoRow, standIns := [], harness := (true, "069c921ce972752f12262419050e261fc1943f1a2a8734af35a5a8ac9311b29d"), looks := false }, kinds := [], alts := [], laidByText := true, laidKinds := [.data, .data, .data, .data, .data], laidTests := true, laidLooks := .later }
def ContourClosesUptoCardSaid : Prop := Claim7.holds Tryz.pinned (.plain (OpenSpec.upto contourClosesSpec)) contourClosesUptoCard

/-- THE SECOND FORM's CARD OF 'flyoverlaw06.ContourTiles'. -/
def contourTilesUptoCard : Claim7 := { stood := { row := contourTilesUptoRow, standIns := [], harness := (true, "069c921ce972752f12262419050e261fc1943f1a2a8734af35a5a8ac9311b29d"), looks := false }, kinds := [], alts := [], laidByText := true, laidKinds := [.data, .data, .data, .data, .data], laidTests := true, laidLooks := .later }
def ContourTilesUptoCardSaid : Prop := Claim7.holds Tryz.pinned (.plain (OpenSpec.upto contourTilesSpec)) contourTilesUptoCard

/-- THE SECOND FORM's CARD OF 'flyoverlaw06.ContourStrings'. -/
def contourStringsUptoCard : Claim7 := { stood := { row := contourStringsUptoRow, standIns := [], harness := (true, "069c921ce972752f12262419050e261fc1943f1a2a8734af35a5a8ac9311b29d"), looks := false }, kinds := [], alts := [], laidByText := true, laidKinds := [.data, .data, .data, .data, .data, .data, .pinned], laidTests := true, laidLooks := .later }
def ContourStringsUptoCardSaid : Prop := Claim7.holds Tryz.pinned (.plain (OpenSpec.upto contourStringsSpec)) contourStringsUptoCard

/-- THE SECOND FORM's CARD OF 'flyoverlaw06.ContourParts'. -/
def contourPartsUptoCard : Claim7 := { stood := { row := contourPartsUptoRow, standIns := [], harness := (true, "069c921ce972752f12262419050e261fc1943f1a2a8734af35a5a8ac9311b29d"), looks := false }, kinds := [], alts := [], laidByText := true, laidKinds := [.data, .data, .data, .data, .data, .data, .pinned], laidTests := true, laidLooks := .later }
def ContourPartsUptoCardSaid : Prop := Claim7.holds Tryz.pinned (.plain (OpenSpec.upto contourPartsSpec)) contourPartsUptoCard
end Rows
end Go.Proofs.YthcpfignhalffaaGreatDoor
