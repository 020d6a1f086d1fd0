/-
  DERIVED. GIVEN WITH THE SEED: THE CARDS: each row of YtjnghfhccjogeaaGreatDoorRows.lean that lists a variable, with what it lists TIED to the program's text (the seventh form; the later family's looks); each row that meets fmt, with fmt's text TOLD by the authors' own Lean function (tested against real Go, not proved from fmt's source: count such statements apart). THE CARD IS WHAT COUNTS. Prove the row's statement (the work); the ties are given (YtjnghfhccjogeaaGreatDoorTie.lean); close each card by the builder's one call (the guide's Derived/Test/ToyasCard.lean, 'card_holds'). Laid BY PROGRAM, IN A SANDBOX (cutbox-door.mjs). By AI agents, Wed Nov 11 2026. No macro, syntax, notation, axiom, sorry.
-/
import Derived.Test.YtjnghfhccjogeaaGreatDoorRows
import GoSem.ClaimSeven
namespace Go.Proofs.YtjnghfhccjogeaaGreatDoor
namespace Rows

/-- THE TIED CARD OF 'vidimuslaw23.RecordsCheck'. -/
def recordsCheckCard : Claim7 := { stood := { row := recordsCheckRow, standIns := [], harness := (true, "b0985884baeaec1c325b219c341041bd3022356577c03bc170ebc15a1f1a1d0c"), looks := true }, kinds := [], alts := [], laidByText := true, laidKinds := [.data, .data, .data, .data, .sentinel, .sentinel, .data, .data, .data, .data, .widerDeep, .pinned], laidTests := true, laidLooks := .later }
def RecordsCheckCardSaid : Prop := Claim7.holds Tryz.pinned (.plain (OpenSpec.ofChange recordsCheckSpec)) recordsCheckCard

/-- THE TIED CARD OF 'vidimuslaw23.RecordsViews'. -/
def recordsViewsCard : Claim7 := { stood := { row := recordsViewsRow, standIns := [], harness := (true, "b0985884baeaec1c325b219c341041bd3022356577c03bc170ebc15a1f1a1d0c"), looks := true }, kinds := [], alts := [], laidByText := true, laidKinds := [.data, .data, .data, .data, .sentinel, .sentinel, .data, .data, .data, .data, .widerDeep, .pinned], laidTests := true, laidLooks := .later }
def RecordsViewsCardSaid : Prop := Claim7.holds Tryz.pinned (.plain (OpenSpec.ofChange recordsViewsSpec)) recordsViewsCard

/-- THE TIED CARD OF 'vidimuslaw23.RecordsText'. -/
def recordsTextCard : Claim7 := { stood := { row := recordsTextRow, standIns := [], harness := (true, "b0985884baeaec1c325b219c341041bd3022356577c03bc170ebc15a1f1a1d0c"), looks := true }, kinds := [], alts := [], laidByText := true, laidKinds := [.data, .data, .data, .data, .sentinel, .sentinel, .data, .data, .data, .data, .widerDeep, .pinned], laidTests := true, laidLooks := .later }
def RecordsTextCardSaid : Prop := Claim7.holds Tryz.pinned (.plain (OpenSpec.ofChange recordsTextSpec)) recordsTextCard

/-- THE TIED CARD OF 'vidimuslaw23.RecordsLines'. -/
def recordsLinesCard : Claim7 := { stood := { row := recordsLinesRow, standIns := [], harness := (true, "b0985884baeaec1c325b219c341041bd3022356577c03bc170ebc15a1f1a1d0c"), looks := true }, kinds := [], alts := [], laidByText := true, laidKinds := [.data, .data, .data, .data, .sentinel, .sentinel, .data, .data, .data, .data, .widerDeep, .pinned], laidTests := true, laidLooks := .later }
def RecordsLinesCardSaid : Prop := Claim7.holds Tryz.pinned (.plain (OpenSpec.ofChange recordsLinesSpec)) recordsLinesCard

/-- THE TIED CARD OF 'vidimuslaw23.RecordsParse'. -/
def recordsParseCard : Claim7 := { stood := { row := recordsParseRow, standIns := [], harness := (true, "b0985884baeaec1c325b219c341041bd3022356577c03bc170ebc15a1f1a1d0c"), looks := true }, kinds := [], alts := [], laidByText := true, laidKinds := [.data, .data, .data, .data, .sentinel, .sentinel, .data, .data, .data, .data, .widerDeep, .pinned], laidTests := true, laidLooks := .later }
def RecordsParseCardSaid : Prop := Claim7.holds Tryz.pinned (.plain (OpenSpec.ofChange recordsParseSpec)) recordsParseCard

/-- THE TIED CARD OF 'vidimuslaw23.RecordsKnown'. -/
def recordsKnownCard : Claim7 := { stood := { row := recordsKnownRow, standIns := [], harness := (true, "b0985884baeaec1c325b219c341041bd3022356577c03bc170ebc15a1f1a1d0c"), looks := true }, kinds := [], alts := [], laidByText := true, laidKinds := [.data, .data, .data, .data, .sentinel, .sentinel, .data, .data, .data, .data, .widerDeep, .pinned], laidTests := true, laidLooks := .later }
def RecordsKnownCardSaid : Prop := Claim7.holds Tryz.pinned (.plain (OpenSpec.ofChange recordsKnownSpec)) recordsKnownCard

/-- THE TIED CARD OF 'vidimuslaw23.RecordsChain'. -/
def recordsChainCard : Claim7 := { stood := { row := recordsChainRow, standIns := [], harness := (true, "b0985884baeaec1c325b219c341041bd3022356577c03bc170ebc15a1f1a1d0c"), looks := true }, kinds := [], alts := [], laidByText := true, laidKinds := [.data, .data, .data, .data, .sentinel, .sentinel, .data, .data, .data, .data, .widerDeep, .pinned], laidTests := true, laidLooks := .later }
def RecordsChainCardSaid : Prop := Claim7.holds Tryz.pinned (.plain (OpenSpec.ofChange recordsChainSpec)) recordsChainCard

/-- THE TIED CARD OF 'vidimuslaw23.RecordsSame'. -/
def recordsSameCard : Claim7 := { stood := { row := recordsSameRow, standIns := [], harness := (true, "b0985884baeaec1c325b219c341041bd3022356577c03bc170ebc15a1f1a1d0c"), looks := true }, kinds := [], alts := [], laidByText := true, laidKinds := [.data, .data, .data, .data, .sentinel, .sentinel, .data, .data, .data, .data, .widerDeep, .pinned], laidTests := true, laidLooks := .later }
def RecordsSameCardSaid : Prop := Claim7.holds Tryz.pinned (.plain (OpenSpec.ofChange recordsSameSpec)) recordsSameCard

/-- THE SECOND FORM's CARD OF 'vidimuslaw23.RecordsCheck'. -/
def recordsCheckUptoCard : Claim7 := { stood := { row := recordsCheckUptoRow, standIns := [], harness := (true, "b0985884baeaec1c325b219c341041bd3022356577c03bc170ebc15a1f1a1d0c"), looks := true }, kinds := [], alts := [], laidByText := true, laidKinds := [.data, .data, .data, .data, .sentinel, .sentinel, .data, .data, .data, .data, .widerDeep, .pinned], laidTests := true, laidLooks := .later }
def RecordsCheckUptoCardSaid : Prop := Claim7.holds Tryz.pinned (.plain (OpenSpec.upto recordsCheckSpec)) recordsCheckUptoCard

/-- THE SECOND FORM's CARD OF 'vidimuslaw23.RecordsViews'. -/
def recordsViewsUptoCard : Claim7 := { stood := { row := recordsViewsUptoRow, standIns := [], harness := (true, "b0985884baeaec1c325b219c341041bd3022356577c03bc170ebc15a1f1a1d0c"), looks := true }, kinds := [], alts := [], laidByText := true, laidKinds := [.data, .data, .data, .data, .sentinel, .sentinel, .data, .data, .data, .data, .widerDeep, .pinned], laidTests := true, laidLooks := .later }
def RecordsViewsUptoCardSaid : Prop := Claim7.holds Tryz.pinned (.plain (OpenSpec.upto recordsViewsSpec)) recordsViewsUptoCard

/-- THE SECOND FORM's CARD OF 'vidimuslaw23.RecordsText'. -/
def recordsTextUptoCard : Claim7 := { stood := { row := recordsTextUptoRow, standIns := [], harness := (true, "b0985884baeaec1c325b219c341041bd3022356577c03bc170ebc15a1f1a1d0c"), looks := true }, kinds := [], alts := [], laidByText := true, laidKinds := [.data, .data, .data, .data, .sentinel, .sentinel, .data, .data, .data, .data, .widerDeep, .pinned], laidTests := true, laidLooks := .later }
def RecordsTextUptoCardSaid : Prop := Claim7.holds Tryz.pinned (.plain (OpenSpec.upto recordsTextSpec)) recordsTextUptoCard

/-- THE SECOND FORM's CARD OF 'vidimuslaw23.RecordsLines'. -/
def recordsLinesUptoCard : Claim7 := { stood := { row := recordsLinesUptoRow, standIns := [], harness := (true, "b0985884baeaec1c325b219c341041bd3022356577c03bc170ebc15a1f1a1d0c"), looks := true }, kinds := [], alts := [], laidByText := true, laidKinds := [.data, .data, .data, .data, .sentinel, .sentinel, .data, .data, .data, .data, .widerDeep, .pinned], laidTests := true, laidLooks := .later }
def RecordsLinesUptoCardSaid : Prop := Claim7.holds Tryz.pinned (.plain (OpenSpec.upto recordsLinesSpec)) recordsLinesUptoCard

/-- THE SECOND FORM's CARD OF 'vidimuslaw23.RecordsParse'. -/
def recordsParseUptoCard : Claim7 := { stood := { row := recordsParseUptoRow, standIns := [], harness := (true, "b0985884baeaec1c325b219c341041bd3022356577c03bc170ebc15a1f1a1d0c"), looks := true }, kinds := [], alts := [], laidByText := true, laidKinds := [.data, .data, .data, .data, .sentinel, .sentinel, .data, .data, .data, .data, .widerDeep, .pinned], laidTests := true, laidLooks := .later }
def RecordsParseUptoCardSaid : Prop := Claim7.holds Tryz.pinned (.plain (OpenSpec.upto recordsParseSpec)) recordsParseUptoCard

/-- THE SECOND FORM's CARD OF 'vidimuslaw23.RecordsKnown'. -/
def recordsKnownUptoCard : Claim7 := { stood := { row := recordsKnownUptoRow, standIns := [], harness := (true, "b0985884baeaec1c325b219c341041bd3022356577c03bc170ebc15a1f1a1d0c"), looks := true }, kinds := [], alts := [], laidByText := true, laidKinds := [.data, .data, .data, .data, .sentinel, .sentinel, .data, .data, .data, .data, .widerDeep, .pinned], laidTests := true, laidLooks := .later }
def RecordsKnownUptoCardSaid : Prop := Claim7.holds Tryz.pinned (.plain (OpenSpec.upto recordsKnownSpec)) recordsKnownUptoCard

/-- THE SECOND FORM's CARD OF 'vidimuslaw23.RecordsChain'. -/
def recordsChainUptoCard : Claim7 := { stood := { row := recordsChainUptoRow, standIns := [], harness := (true, "b0985884baeaec1c325b219c341041bd3022356577c03bc170ebc15a1f1a1d0c"), looks := true }, kinds := [], alts := [], laidByText := true, laidKinds := [.data, .data, .data, .data, .sentinel, .sentinel, .data, .data, .data, .data, .widerDeep, .pinned], laidTests := true, laidLooks := .later }
def RecordsChainUptoCardSaid : Prop := Claim7.holds Tryz.pinned (.plain (OpenSpec.upto recordsChainSpec)) recordsChainUptoCard

/-- THE SECOND FORM's CARD OF 'vidimuslaw23.RecordsSame'. -/
def recordsSameUptoCard : Claim7 := { stood := { row := recordsSameUptoRow, standIns := [], harness := (true, "b0985884baeaec1c325b219c341041bd3022356577c03bc170ebc15a1f1a1d0c"), looks := true }, kinds := [], alts := [], laidByText := true, laidKinds := [.data, .data, .data, .data, .sentinel, .sentinel, .data, .data, .data, .data, .widerDeep, .pinned], laidTests := true, laidLooks := .later }
def RecordsSameUptoCardSaid : Prop := Claim7.holds Tryz.pinned (.plain (OpenSpec.upto recordsSameSpec)) recordsSameUptoCard
end Rows
end Go.Proofs.YtjnghfhccjogeaaGreatDoor
