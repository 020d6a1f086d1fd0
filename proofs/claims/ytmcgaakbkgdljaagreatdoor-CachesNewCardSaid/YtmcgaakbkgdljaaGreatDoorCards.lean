/-
  DERIVED. GIVEN WITH THE SEED: THE CARDS: each row of YtmcgaakbkgdljaaGreatDoorRows.lean that lists a variable, with what it lists TIED to the program's text (the seventh form; the later family's looks); each row that meets fmt, with fmt's text TOLD by the authors' own Lean function (tested against real Go, not proved from fmt's source: count such statements apart). THE CARD IS WHAT COUNTS. Prove the row's statement (the work); the ties are given (YtmcgaakbkgdljaaGreatDoorTie.lean); close each card by the builder's one call (the guide's Derived/Test/ToyasCard.lean, 'card_holds'). Laid BY PROGRAM, IN A SANDBOX (cutbox-door.mjs). By AI agents, Wed Nov 11 2026. No macro, syntax, notation, axiom, sorry.
-/
import Derived.Test.YtmcgaakbkgdljaaGreatDoorRows
import GoSem.ClaimSeven
namespace Go.Proofs.YtmcgaakbkgdljaaGreatDoor
namespace Rows

/-- THE TIED CARD OF 'vidimuslaw42.CachesNew'. -/
def cachesNewCard : Claim7 := { stood := { row := cachesNewRow, standIns := [], harness := (true, "dffe8c9c1b936e87007f9eedbf8ac6210f5342c6d63dc4d6180573dc8025c0ad"), looks := true }, kinds := [], alts := [], laidByText := true, laidKinds := [.data, .data, .data, .data, .data, .widerDeep, .pinned], laidTests := true, laidLooks := .later }
def CachesNewCardSaid : Prop := Claim7.holds Tryz.pinned (.plain (OpenSpec.ofChange cachesNewSpec)) cachesNewCard

/-- THE TIED CARD OF 'vidimuslaw42.CachesNil'. -/
def cachesNilCard : Claim7 := { stood := { row := cachesNilRow, standIns := [], harness := (true, "dffe8c9c1b936e87007f9eedbf8ac6210f5342c6d63dc4d6180573dc8025c0ad"), looks := true }, kinds := [], alts := [], laidByText := true, laidKinds := [.data, .data, .data, .data, .data, .widerDeep, .pinned], laidTests := true, laidLooks := .later }
def CachesNilCardSaid : Prop := Claim7.holds Tryz.pinned (.plain (OpenSpec.ofChange cachesNilSpec)) cachesNilCard

/-- THE TIED CARD OF 'vidimuslaw42.CachesOrder'. -/
def cachesOrderCard : Claim7 := { stood := { row := cachesOrderRow, standIns := [], harness := (true, "dffe8c9c1b936e87007f9eedbf8ac6210f5342c6d63dc4d6180573dc8025c0ad"), looks := true }, kinds := [], alts := [], laidByText := true, laidKinds := [.data, .data, .data, .data, .data, .widerDeep, .pinned], laidTests := true, laidLooks := .later }
def CachesOrderCardSaid : Prop := Claim7.holds Tryz.pinned (.plain (OpenSpec.ofChange cachesOrderSpec)) cachesOrderCard

/-- THE TIED CARD OF 'vidimuslaw42.CachesKnown'. -/
def cachesKnownCard : Claim7 := { stood := { row := cachesKnownRow, standIns := [], harness := (true, "dffe8c9c1b936e87007f9eedbf8ac6210f5342c6d63dc4d6180573dc8025c0ad"), looks := true }, kinds := [], alts := [], laidByText := true, laidKinds := [.data, .data, .data, .data, .data, .widerDeep, .pinned], laidTests := true, laidLooks := .later }
def CachesKnownCardSaid : Prop := Claim7.holds Tryz.pinned (.plain (OpenSpec.ofChange cachesKnownSpec)) cachesKnownCard

/-- THE TIED CARD OF 'vidimuslaw40.BuildersAll'. -/
def buildersAllCard : Claim7 := { stood := { row := buildersAllRow, standIns := [], harness := (true, "dffe8c9c1b936e87007f9eedbf8ac6210f5342c6d63dc4d6180573dc8025c0ad"), looks := true }, kinds := [], alts := [], laidByText := true, laidKinds := [.data, .data, .data, .data, .data, .widerDeep, .pinned], laidTests := true, laidLooks := .later }
def BuildersAllCardSaid : Prop := Claim7.holds Tryz.pinned (.plain (OpenSpec.ofChange buildersAllSpec)) buildersAllCard

/-- THE TIED CARD OF 'vidimuslaw40.BuildersHolds'. -/
def buildersHoldsCard : Claim7 := { stood := { row := buildersHoldsRow, standIns := [], harness := (true, "dffe8c9c1b936e87007f9eedbf8ac6210f5342c6d63dc4d6180573dc8025c0ad"), looks := true }, kinds := [], alts := [], laidByText := true, laidKinds := [.data, .data, .data, .data, .data, .widerDeep, .pinned], laidTests := true, laidLooks := .later }
def BuildersHoldsCardSaid : Prop := Claim7.holds Tryz.pinned (.plain (OpenSpec.ofChange buildersHoldsSpec)) buildersHoldsCard

/-- THE TIED CARD OF 'vidimuslaw40.BuildersRecords'. -/
def buildersRecordsCard : Claim7 := { stood := { row := buildersRecordsRow, standIns := [], harness := (true, "dffe8c9c1b936e87007f9eedbf8ac6210f5342c6d63dc4d6180573dc8025c0ad"), looks := true }, kinds := [], alts := [], laidByText := true, laidKinds := [.data, .data, .data, .data, .data, .widerDeep, .pinned], laidTests := true, laidLooks := .later }
def BuildersRecordsCardSaid : Prop := Claim7.holds Tryz.pinned (.plain (OpenSpec.ofChange buildersRecordsSpec)) buildersRecordsCard

/-- THE SECOND FORM's CARD OF 'vidimuslaw42.CachesNew'. -/
def cachesNewUptoCard : Claim7 := { stood := { row := cachesNewUptoRow, standIns := [], harness := (true, "dffe8c9c1b936e87007f9eedbf8ac6210f5342c6d63dc4d6180573dc8025c0ad"), looks := true }, kinds := [], alts := [], laidByText := true, laidKinds := [.data, .data, .data, .data, .data, .widerDeep, .pinned], laidTests := true, laidLooks := .later }
def CachesNewUptoCardSaid : Prop := Claim7.holds Tryz.pinned (.plain (OpenSpec.upto cachesNewSpec)) cachesNewUptoCard

/-- THE SECOND FORM's CARD OF 'vidimuslaw42.CachesNil'. -/
def cachesNilUptoCard : Claim7 := { stood := { row := cachesNilUptoRow, standIns := [], harness := (true, "dffe8c9c1b936e87007f9eedbf8ac6210f5342c6d63dc4d6180573dc8025c0ad"), looks := true }, kinds := [], alts := [], laidByText := true, laidKinds := [.data, .data, .data, .data, .data, .widerDeep, .pinned], laidTests := true, laidLooks := .later }
def CachesNilUptoCardSaid : Prop := Claim7.holds Tryz.pinned (.plain (OpenSpec.upto cachesNilSpec)) cachesNilUptoCard

/-- THE SECOND FORM's CARD OF 'vidimuslaw42.CachesOrder'. -/
def cachesOrderUptoCard : Claim7 := { stood := { row := cachesOrderUptoRow, standIns := [], harness := (true, "dffe8c9c1b936e87007f9eedbf8ac6210f5342c6d63dc4d6180573dc8025c0ad"), looks := true }, kinds := [], alts := [], laidByText := true, laidKinds := [.data, .data, .data, .data, .data, .widerDeep, .pinned], laidTests := true, laidLooks := .later }
def CachesOrderUptoCardSaid : Prop := Claim7.holds Tryz.pinned (.plain (OpenSpec.upto cachesOrderSpec)) cachesOrderUptoCard

/-- THE SECOND FORM's CARD OF 'vidimuslaw42.CachesKnown'. -/
def cachesKnownUptoCard : Claim7 := { stood := { row := cachesKnownUptoRow, standIns := [], harness := (true, "dffe8c9c1b936e87007f9eedbf8ac6210f5342c6d63dc4d6180573dc8025c0ad"), looks := true }, kinds := [], alts := [], laidByText := true, laidKinds := [.data, .data, .data, .data, .data, .widerDeep, .pinned], laidTests := true, laidLooks := .later }
def CachesKnownUptoCardSaid : Prop := Claim7.holds Tryz.pinned (.plain (OpenSpec.upto cachesKnownSpec)) cachesKnownUptoCard

/-- THE SECOND FORM's CARD OF 'vidimuslaw40.BuildersAll'. -/
def buildersAllUptoCard : Claim7 := { stood := { row := buildersAllUptoRow, standIns := [], harness := (true, "dffe8c9c1b936e87007f9eedbf8ac6210f5342c6d63dc4d6180573dc8025c0ad"), looks := true }, kinds := [], alts := [], laidByText := true, laidKinds := [.data, .data, .data, .data, .data, .widerDeep, .pinned], laidTests := true, laidLooks := .later }
def BuildersAllUptoCardSaid : Prop := Claim7.holds Tryz.pinned (.plain (OpenSpec.upto buildersAllSpec)) buildersAllUptoCard

/-- THE SECOND FORM's CARD OF 'vidimuslaw40.BuildersHolds'. -/
def buildersHoldsUptoCard : Claim7 := { stood := { row := buildersHoldsUptoRow, standIns := [], harness := (true, "dffe8c9c1b936e87007f9eedbf8ac6210f5342c6d63dc4d6180573dc8025c0ad"), looks := true }, kinds := [], alts := [], laidByText := true, laidKinds := [.data, .data, .data, .data, .data, .widerDeep, .pinned], laidTests := true, laidLooks := .later }
def BuildersHoldsUptoCardSaid : Prop := Claim7.holds Tryz.pinned (.plain (OpenSpec.upto buildersHoldsSpec)) buildersHoldsUptoCard

/-- THE SECOND FORM's CARD OF 'vidimuslaw40.BuildersRecords'. -/
def buildersRecordsUptoCard : Claim7 := { stood := { row := buildersRecordsUptoRow, standIns := [], harness := (true, "dffe8c9c1b936e87007f9eedbf8ac6210f5342c6d63dc4d6180573dc8025c0ad"), looks := true }, kinds := [], alts := [], laidByText := true, laidKinds := [.data, .data, .data, .data, .data, .widerDeep, .pinned], laidTests := true, laidLooks := .later }
def BuildersRecordsUptoCardSaid : Prop := Claim7.holds Tryz.pinned (.plain (OpenSpec.upto buildersRecordsSpec)) buildersRecordsUptoCard
end Rows
end Go.Proofs.YtmcgaakbkgdljaaGreatDoor
