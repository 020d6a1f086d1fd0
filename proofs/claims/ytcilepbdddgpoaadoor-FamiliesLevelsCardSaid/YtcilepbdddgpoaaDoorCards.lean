/-
  DERIVED. GIVEN WITH THE SEED: THE CARDS: each row of YtcilepbdddgpoaaDoorRows.lean that lists a variable, with what it lists TIED to the program's text (the seventh form; the later family's looks); each row that meets fmt, with fmt's text TOLD by the authors' own Lean function (tested against real Go, not proved from fmt's source: count such statements apart). THE CARD IS WHAT COUNTS. Prove the row's statement (the work); the ties are given (YtcilepbdddgpoaaDoorTie.lean); close each card by the builder's one call (the guide's Derived/Test/ToyasCard.lean, 'card_holds'). Laid BY PROGRAM, IN A SANDBOX (cutbox-door.mjs). By AI agents, Wed Nov 11 2026. No macro, syntax, notation, axiom, sorry.
-/
import Derived.Test.YtcilepbdddgpoaaDoorRows
import GoSem.ClaimSeven
namespace Go.Proofs.YtcilepbdddgpoaaDoor
namespace Rows

/-- THE TIED CARD OF 'vidimuslaw35.FamiliesWide'. -/
def familiesWideCard : Claim7 := { stood := { row := familiesWideRow, standIns := [], harness := (true, "9b7c8187bcd4ec44244ae9987e186acbe489bd1f628776065aa915c76c1964b7"), looks := false }, kinds := [], alts := [], laidByText := true, laidKinds := [.data, .data, .data], laidTests := true, laidLooks := .later }
def FamiliesWideCardSaid : Prop := Claim7.holds Tryd.pinned (.plain (OpenSpec.ofChange familiesWideSpec)) familiesWideCard

/-- THE TIED CARD OF 'vidimuslaw35.FamiliesLong'. -/
def familiesLongCard : Claim7 := { stood := { row := familiesLongRow, standIns := [], harness := (true, "9b7c8187bcd4ec44244ae9987e186acbe489bd1f628776065aa915c76c1964b7"), looks := false }, kinds := [], alts := [], laidByText := true, laidKinds := [.data, .data, .data], laidTests := true, laidLooks := .later }
def FamiliesLongCardSaid : Prop := Claim7.holds Tryd.pinned (.plain (OpenSpec.ofChange familiesLongSpec)) familiesLongCard

/-- THE TIED CARD OF 'vidimuslaw35.FamiliesLevels'. -/
def familiesLevelsCard : Claim7 := { stood := { row := familiesLevelsRow, standIns := [], harness := (true, "9b7c8187bcd4ec44244ae9987e186acbe489bd1f628776065aa915c76c1964b7"), looks := false }, kinds := [], alts := [], laidByText := true, laidKinds := [.data, .data, .data], laidTests := true, laidLooks := .later }
def FamiliesLevelsCardSaid : Prop := Claim7.holds Tryd.pinned (.plain (OpenSpec.ofChange familiesLevelsSpec)) familiesLevelsCard

/-- THE TIED CARD OF 'vidimuslaw35.FamiliesSizes'. -/
def familiesSizesCard : Claim7 := { stood := { row := familiesSizesRow, standIns := [], harness := (true, "9b7c8187bcd4ec44244ae9987e186acbe489bd1f628776065aa915c76c1964b7"), looks := false }, kinds := [], alts := [], laidByText := true, laidKinds := [.data, .data, .data], laidTests := true, laidLooks := .later }
def FamiliesSizesCardSaid : Prop := Claim7.holds Tryd.pinned (.plain (OpenSpec.ofChange familiesSizesSpec)) familiesSizesCard

/-- THE TIED CARD OF 'vidimuslaw35.FamiliesKnown'. -/
def familiesKnownCard : Claim7 := { stood := { row := familiesKnownRow, standIns := [], harness := (true, "9b7c8187bcd4ec44244ae9987e186acbe489bd1f628776065aa915c76c1964b7"), looks := false }, kinds := [], alts := [], laidByText := true, laidKinds := [.data, .data, .data], laidTests := true, laidLooks := .later }
def FamiliesKnownCardSaid : Prop := Claim7.holds Tryd.pinned (.plain (OpenSpec.ofChange familiesKnownSpec)) familiesKnownCard

/-- THE TIED CARD OF 'vidimuslaw35.FamiliesPolicy'. -/
def familiesPolicyCard : Claim7 := { stood := { row := familiesPolicyRow, standIns := [], harness := (true, "9b7c8187bcd4ec44244ae9987e186acbe489bd1f628776065aa915c76c1964b7"), looks := false }, kinds := [], alts := [], laidByText := true, laidKinds := [.data, .data, .data], laidTests := true, laidLooks := .later }
def FamiliesPolicyCardSaid : Prop := Claim7.holds Tryd.pinned (.plain (OpenSpec.ofChange familiesPolicySpec)) familiesPolicyCard

/-- THE SECOND FORM's CARD OF 'vidimuslaw35.FamiliesWide'. -/
def familiesWideUptoCard : Claim7 := { stood := { row := familiesWideUptoRow, standIns := [], harness := (true, "9b7c8187bcd4ec44244ae9987e186acbe489bd1f628776065aa915c76c1964b7"), looks := false }, kinds := [], alts := [], laidByText := true, laidKinds := [.data, .data, .data], laidTests := true, laidLooks := .later }
def FamiliesWideUptoCardSaid : Prop := Claim7.holds Tryd.pinned (.plain (OpenSpec.upto familiesWideSpec)) familiesWideUptoCard

/-- THE SECOND FORM's CARD OF 'vidimuslaw35.FamiliesLong'. -/
def familiesLongUptoCard : Claim7 := { stood := { row := familiesLongUptoRow, standIns := [], harness := (true, "9b7c8187bcd4ec44244ae9987e186acbe489bd1f628776065aa915c76c1964b7"), looks := false }, kinds := [], alts := [], laidByText := true, laidKinds := [.data, .data, .data], laidTests := true, laidLooks := .later }
def FamiliesLongUptoCardSaid : Prop := Claim7.holds Tryd.pinned (.plain (OpenSpec.upto familiesLongSpec)) familiesLongUptoCard

/-- THE SECOND FORM's CARD OF 'vidimuslaw35.FamiliesLevels'. -/
def familiesLevelsUptoCard : Claim7 := { stood := { row := familiesLevelsUptoRow, standIns := [], harness := (true, "9b7c8187bcd4ec44244ae9987e186acbe489bd1f628776065aa915c76c1964b7"), looks := false }, kinds := [], alts := [], laidByText := true, laidKinds := [.data, .data, .data], laidTests := true, laidLooks := .later }
def FamiliesLevelsUptoCardSaid : Prop := Claim7.holds Tryd.pinned (.plain (OpenSpec.upto familiesLevelsSpec)) familiesLevelsUptoCard

/-- THE SECOND FORM's CARD OF 'vidimuslaw35.FamiliesSizes'. -/
def familiesSizesUptoCard : Claim7 := { stood := { row := familiesSizesUptoRow, standIns := [], harness := (true, "9b7c8187bcd4ec44244ae9987e186acbe489bd1f628776065aa915c76c1964b7"), looks := false }, kinds := [], alts := [], laidByText := true, laidKinds := [.data, .data, .data], laidTests := true, laidLooks := .later }
def FamiliesSizesUptoCardSaid : Prop := Claim7.holds Tryd.pinned (.plain (OpenSpec.upto familiesSizesSpec)) familiesSizesUptoCard

/-- THE SECOND FORM's CARD OF 'vidimuslaw35.FamiliesKnown'. -/
def familiesKnownUptoCard : Claim7 := { stood := { row := familiesKnownUptoRow, standIns := [], harness := (true, "9b7c8187bcd4ec44244ae9987e186acbe489bd1f628776065aa915c76c1964b7"), looks := false }, kinds := [], alts := [], laidByText := true, laidKinds := [.data, .data, .data], laidTests := true, laidLooks := .later }
def FamiliesKnownUptoCardSaid : Prop := Claim7.holds Tryd.pinned (.plain (OpenSpec.upto familiesKnownSpec)) familiesKnownUptoCard

/-- THE SECOND FORM's CARD OF 'vidimuslaw35.FamiliesPolicy'. -/
def familiesPolicyUptoCard : Claim7 := { stood := { row := familiesPolicyUptoRow, standIns := [], harness := (true, "9b7c8187bcd4ec44244ae9987e186acbe489bd1f628776065aa915c76c1964b7"), looks := false }, kinds := [], alts := [], laidByText := true, laidKinds := [.data, .data, .data], laidTests := true, laidLooks := .later }
def FamiliesPolicyUptoCardSaid : Prop := Claim7.holds Tryd.pinned (.plain (OpenSpec.upto familiesPolicySpec)) familiesPolicyUptoCard
end Rows
end Go.Proofs.YtcilepbdddgpoaaDoor
