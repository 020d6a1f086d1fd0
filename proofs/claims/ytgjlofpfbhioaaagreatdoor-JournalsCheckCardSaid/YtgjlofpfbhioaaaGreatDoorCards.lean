/-
  DERIVED. GIVEN WITH THE SEED: THE CARDS: each row of YtgjlofpfbhioaaaGreatDoorRows.lean that lists a variable, with what it lists TIED to the program's text (the seventh form; the later family's looks); each row that meets fmt, with fmt's text TOLD by the authors' own Lean function (tested against real Go, not proved from fmt's source: count such statements apart). THE CARD IS WHAT COUNTS. Prove the row's statement (the work); the ties are given (YtgjlofpfbhioaaaGreatDoorTie.lean); close each card by the builder's one call (the guide's Derived/Test/ToyasCard.lean, 'card_holds'). Laid BY PROGRAM, IN A SANDBOX (cutbox-door.mjs). By AI agents, Wed Nov 11 2026. No macro, syntax, notation, axiom, sorry.
-/
import Derived.Test.YtgjlofpfbhioaaaGreatDoorRows
import GoSem.ClaimSeven
namespace Go.Proofs.YtgjlofpfbhioaaaGreatDoor
namespace Rows

/-- THE TIED CARD OF 'vidimuslaw39.AnchorsInputs'. -/
def anchorsInputsCard : Claim7 := { stood := { row := anchorsInputsRow, standIns := [], harness := (true, "e882c36371f4e01ef092f3a3d1cd95988f4ab26375dd348ae615ea7176e53c2b"), looks := true }, kinds := [], alts := [], laidByText := true, laidKinds := [.data, .data, .data, .data, .sentinel, .sentinel, .data, .pinned], laidTests := true, laidLooks := .later }
def AnchorsInputsCardSaid : Prop := Claim7.holds Tryz.pinned (.plain (OpenSpec.ofChange anchorsInputsSpec)) anchorsInputsCard

/-- THE TIED CARD OF 'vidimuslaw39.AnchorsBack'. -/
def anchorsBackCard : Claim7 := { stood := { row := anchorsBackRow, standIns := [], harness := (true, "e882c36371f4e01ef092f3a3d1cd95988f4ab26375dd348ae615ea7176e53c2b"), looks := true }, kinds := [], alts := [], laidByText := true, laidKinds := [.data, .data, .data, .data, .sentinel, .sentinel, .data, .pinned], laidTests := true, laidLooks := .later }
def AnchorsBackCardSaid : Prop := Claim7.holds Tryz.pinned (.plain (OpenSpec.ofChange anchorsBackSpec)) anchorsBackCard

/-- THE TIED CARD OF 'vidimuslaw39.AnchorsParse'. -/
def anchorsParseCard : Claim7 := { stood := { row := anchorsParseRow, standIns := [], harness := (true, "e882c36371f4e01ef092f3a3d1cd95988f4ab26375dd348ae615ea7176e53c2b"), looks := true }, kinds := [], alts := [], laidByText := true, laidKinds := [.data, .data, .data, .data, .sentinel, .sentinel, .data, .pinned], laidTests := true, laidLooks := .later }
def AnchorsParseCardSaid : Prop := Claim7.holds Tryz.pinned (.plain (OpenSpec.ofChange anchorsParseSpec)) anchorsParseCard

/-- THE TIED CARD OF 'vidimuslaw39.AnchorsFaults'. -/
def anchorsFaultsCard : Claim7 := { stood := { row := anchorsFaultsRow, standIns := [], harness := (true, "e882c36371f4e01ef092f3a3d1cd95988f4ab26375dd348ae615ea7176e53c2b"), looks := true }, kinds := [], alts := [], laidByText := true, laidKinds := [.data, .data, .data, .data, .sentinel, .sentinel, .data, .pinned], laidTests := true, laidLooks := .later }
def AnchorsFaultsCardSaid : Prop := Claim7.holds Tryz.pinned (.plain (OpenSpec.ofChange anchorsFaultsSpec)) anchorsFaultsCard

/-- THE TIED CARD OF 'vidimuslaw39.AnchorsKnown'. -/
def anchorsKnownCard : Claim7 := { stood := { row := anchorsKnownRow, standIns := [], harness := (true, "e882c36371f4e01ef092f3a3d1cd95988f4ab26375dd348ae615ea7176e53c2b"), looks := true }, kinds := [], alts := [], laidByText := true, laidKinds := [.data, .data, .data, .data, .sentinel, .sentinel, .data, .pinned], laidTests := true, laidLooks := .later }
def AnchorsKnownCardSaid : Prop := Claim7.holds Tryz.pinned (.plain (OpenSpec.ofChange anchorsKnownSpec)) anchorsKnownCard

/-- THE TIED CARD OF 'vidimuslaw43.JournalsBack'. -/
def journalsBackCard : Claim7 := { stood := { row := journalsBackRow, standIns := [], harness := (true, "e882c36371f4e01ef092f3a3d1cd95988f4ab26375dd348ae615ea7176e53c2b"), looks := true }, kinds := [], alts := [], laidByText := true, laidKinds := [.data, .data, .data, .data, .sentinel, .sentinel, .pinned], laidTests := true, laidLooks := .later }
def JournalsBackCardSaid : Prop := Claim7.holds Tryz.pinned (.plain (OpenSpec.ofChange journalsBackSpec)) journalsBackCard

/-- THE TIED CARD OF 'vidimuslaw43.JournalsChanged'. -/
def journalsChangedCard : Claim7 := { stood := { row := journalsChangedRow, standIns := [], harness := (true, "e882c36371f4e01ef092f3a3d1cd95988f4ab26375dd348ae615ea7176e53c2b"), looks := true }, kinds := [], alts := [], laidByText := true, laidKinds := [.data, .data, .data, .data, .sentinel, .sentinel, .pinned], laidTests := true, laidLooks := .later }
def JournalsChangedCardSaid : Prop := Claim7.holds Tryz.pinned (.plain (OpenSpec.ofChange journalsChangedSpec)) journalsChangedCard

/-- THE TIED CARD OF 'vidimuslaw39.AnchorsCheck'. -/
def anchorsCheckCard : Claim7 := { stood := { row := anchorsCheckRow, standIns := [], harness := (true, "e882c36371f4e01ef092f3a3d1cd95988f4ab26375dd348ae615ea7176e53c2b"), looks := true }, kinds := [], alts := [], laidByText := true, laidKinds := [.data, .data, .data, .data, .sentinel, .sentinel, .data, .pinned], laidTests := true, laidLooks := .later }
def AnchorsCheckCardSaid : Prop := Claim7.holds Tryz.pinned (.plain (OpenSpec.ofChange anchorsCheckSpec)) anchorsCheckCard

/-- THE TIED CARD OF 'vidimuslaw43.JournalsCut'. -/
def journalsCutCard : Claim7 := { stood := { row := journalsCutRow, standIns := [], harness := (true, "e882c36371f4e01ef092f3a3d1cd95988f4ab26375dd348ae615ea7176e53c2b"), looks := true }, kinds := [], alts := [], laidByText := true, laidKinds := [.data, .data, .data, .data, .sentinel, .sentinel, .pinned], laidTests := true, laidLooks := .later }
def JournalsCutCardSaid : Prop := Claim7.holds Tryz.pinned (.plain (OpenSpec.ofChange journalsCutSpec)) journalsCutCard

/-- THE TIED CARD OF 'vidimuslaw43.JournalsParse'. -/
def journalsParseCard : Claim7 := { stood := { row := journalsParseRow, standIns := [], harness := (true, "e882c36371f4e01ef092f3a3d1cd95988f4ab26375dd348ae615ea7176e53c2b"), looks := true }, kinds := [], alts := [], laidByText := true, laidKinds := [.data, .data, .data, .data, .sentinel, .sentinel, .pinned], laidTests := true, laidLooks := .later }
def JournalsParseCardSaid : Prop := Claim7.holds Tryz.pinned (.plain (OpenSpec.ofChange journalsParseSpec)) journalsParseCard

/-- THE TIED CARD OF 'vidimuslaw43.JournalsCheck'. -/
def journalsCheckCard : Claim7 := { stood := { row := journalsCheckRow, standIns := [], harness := (true, "e882c36371f4e01ef092f3a3d1cd95988f4ab26375dd348ae615ea7176e53c2b"), looks := true }, kinds := [], alts := [], laidByText := true, laidKinds := [.data, .data, .data, .data, .sentinel, .sentinel, .pinned], laidTests := true, laidLooks := .later }
def JournalsCheckCardSaid : Prop := Claim7.holds Tryz.pinned (.plain (OpenSpec.ofChange journalsCheckSpec)) journalsCheckCard

/-- THE TIED CARD OF 'vidimuslaw43.JournalsReplay'. -/
def journalsReplayCard : Claim7 := { stood := { row := journalsReplayRow, standIns := [], harness := (true, "e882c36371f4e01ef092f3a3d1cd95988f4ab26375dd348ae615ea7176e53c2b"), looks := true }, kinds := [], alts := [], laidByText := true, laidKinds := [.data, .data, .data, .data, .sentinel, .sentinel, .pinned], laidTests := true, laidLooks := .later }
def JournalsReplayCardSaid : Prop := Claim7.holds Tryz.pinned (.plain (OpenSpec.ofChange journalsReplaySpec)) journalsReplayCard

/-- THE TIED CARD OF 'vidimuslaw43.JournalsKnown'. -/
def journalsKnownCard : Claim7 := { stood := { row := journalsKnownRow, standIns := [], harness := (true, "e882c36371f4e01ef092f3a3d1cd95988f4ab26375dd348ae615ea7176e53c2b"), looks := true }, kinds := [], alts := [], laidByText := true, laidKinds := [.data, .data, .data, .data, .sentinel, .sentinel, .pinned], laidTests := true, laidLooks := .later }
def JournalsKnownCardSaid : Prop := Claim7.holds Tryz.pinned (.plain (OpenSpec.ofChange journalsKnownSpec)) journalsKnownCard

/-- THE SECOND FORM's CARD OF 'vidimuslaw39.AnchorsInputs'. -/
def anchorsInputsUptoCard : Claim7 := { stood := { row := anchorsInputsUptoRow, standIns := [], harness := (true, "e882c36371f4e01ef092f3a3d1cd95988f4ab26375dd348ae615ea7176e53c2b"), looks := true }, kinds := [], alts := [], laidByText := true, laidKinds := [.data, .data, .data, .data, .sentinel, .sentinel, .data, .pinned], laidTests := true, laidLooks := .later }
def AnchorsInputsUptoCardSaid : Prop := Claim7.holds Tryz.pinned (.plain (OpenSpec.upto anchorsInputsSpec)) anchorsInputsUptoCard

/-- THE SECOND FORM's CARD OF 'vidimuslaw39.AnchorsBack'. -/
def anchorsBackUptoCard : Claim7 := { stood := { row := anchorsBackUptoRow, standIns := [], harness := (true, "e882c36371f4e01ef092f3a3d1cd95988f4ab26375dd348ae615ea7176e53c2b"), looks := true }, kinds := [], alts := [], laidByText := true, laidKinds := [.data, .data, .data, .data, .sentinel, .sentinel, .data, .pinned], laidTests := true, laidLooks := .later }
def AnchorsBackUptoCardSaid : Prop := Claim7.holds Tryz.pinned (.plain (OpenSpec.upto anchorsBackSpec)) anchorsBackUptoCard

/-- THE SECOND FORM's CARD OF 'vidimuslaw39.AnchorsParse'. -/
def anchorsParseUptoCard : Claim7 := { stood := { row := anchorsParseUptoRow, standIns := [], harness := (true, "e882c36371f4e01ef092f3a3d1cd95988f4ab26375dd348ae615ea7176e53c2b"), looks := true }, kinds := [], alts := [], laidByText := true, laidKinds := [.data, .data, .data, .data, .sentinel, .sentinel, .data, .pinned], laidTests := true, laidLooks := .later }
def AnchorsParseUptoCardSaid : Prop := Claim7.holds Tryz.pinned (.plain (OpenSpec.upto anchorsParseSpec)) anchorsParseUptoCard

/-- THE SECOND FORM's CARD OF 'vidimuslaw39.AnchorsFaults'. -/
def anchorsFaultsUptoCard : Claim7 := { stood := { row := anchorsFaultsUptoRow, standIns := [], harness := (true, "e882c36371f4e01ef092f3a3d1cd95988f4ab26375dd348ae615ea7176e53c2b"), looks := true }, kinds := [], alts := [], laidByText := true, laidKinds := [.data, .data, .data, .data, .sentinel, .sentinel, .data, .pinned], laidTests := true, laidLooks := .later }
def AnchorsFaultsUptoCardSaid : Prop := Claim7.holds Tryz.pinned (.plain (OpenSpec.upto anchorsFaultsSpec)) anchorsFaultsUptoCard

/-- THE SECOND FORM's CARD OF 'vidimuslaw39.AnchorsKnown'. -/
def anchorsKnownUptoCard : Claim7 := { stood := { row := anchorsKnownUptoRow, standIns := [], harness := (true, "e882c36371f4e01ef092f3a3d1cd95988f4ab26375dd348ae615ea7176e53c2b"), looks := true }, kinds := [], alts := [], laidByText := true, laidKinds := [.data, .data, .data, .data, .sentinel, .sentinel, .data, .pinned], laidTests := true, laidLooks := .later }
def AnchorsKnownUptoCardSaid : Prop := Claim7.holds Tryz.pinned (.plain (OpenSpec.upto anchorsKnownSpec)) anchorsKnownUptoCard

/-- THE SECOND FORM's CARD OF 'vidimuslaw43.JournalsBack'. -/
def journalsBackUptoCard : Claim7 := { stood := { row := journalsBackUptoRow, standIns := [], harness := (true, "e882c36371f4e01ef092f3a3d1cd95988f4ab26375dd348ae615ea7176e53c2b"), looks := true }, kinds := [], alts := [], laidByText := true, laidKinds := [.data, .data, .data, .data, .sentinel, .sentinel, .pinned], laidTests := true, laidLooks := .later }
def JournalsBackUptoCardSaid : Prop := Claim7.holds Tryz.pinned (.plain (OpenSpec.upto journalsBackSpec)) journalsBackUptoCard

/-- THE SECOND FORM's CARD OF 'vidimuslaw43.JournalsChanged'. -/
def journalsChangedUptoCard : Claim7 := { stood := { row := journalsChangedUptoRow, standIns := [], harness := (true, "e882c36371f4e01ef092f3a3d1cd95988f4ab26375dd348ae615ea7176e53c2b"), looks := true }, kinds := [], alts := [], laidByText := true, laidKinds := [.data, .data, .data, .data, .sentinel, .sentinel, .pinned], laidTests := true, laidLooks := .later }
def JournalsChangedUptoCardSaid : Prop := Claim7.holds Tryz.pinned (.plain (OpenSpec.upto journalsChangedSpec)) journalsChangedUptoCard

/-- THE SECOND FORM's CARD OF 'vidimuslaw39.AnchorsCheck'. -/
def anchorsCheckUptoCard : Claim7 := { stood := { row := anchorsCheckUptoRow, standIns := [], harness := (true, "e882c36371f4e01ef092f3a3d1cd95988f4ab26375dd348ae615ea7176e53c2b"), looks := true }, kinds := [], alts := [], laidByText := true, laidKinds := [.data, .data, .data, .data, .sentinel, .sentinel, .data, .pinned], laidTests := true, laidLooks := .later }
def AnchorsCheckUptoCardSaid : Prop := Claim7.holds Tryz.pinned (.plain (OpenSpec.upto anchorsCheckSpec)) anchorsCheckUptoCard

/-- THE SECOND FORM's CARD OF 'vidimuslaw43.JournalsCut'. -/
def journalsCutUptoCard : Claim7 := { stood := { row := journalsCutUptoRow, standIns := [], harness := (true, "e882c36371f4e01ef092f3a3d1cd95988f4ab26375dd348ae615ea7176e53c2b"), looks := true }, kinds := [], alts := [], laidByText := true, laidKinds := [.data, .data, .data, .data, .sentinel, .sentinel, .pinned], laidTests := true, laidLooks := .later }
def JournalsCutUptoCardSaid : Prop := Claim7.holds Tryz.pinned (.plain (OpenSpec.upto journalsCutSpec)) journalsCutUptoCard

/-- THE SECOND FORM's CARD OF 'vidimuslaw43.JournalsParse'. -/
def journalsParseUptoCard : Claim7 := { stood := { row := journalsParseUptoRow, standIns := [], harness := (true, "e882c36371f4e01ef092f3a3d1cd95988f4ab26375dd348ae615ea7176e53c2b"), looks := true }, kinds := [], alts := [], laidByText := true, laidKinds := [.data, .data, .data, .data, .sentinel, .sentinel, .pinned], laidTests := true, laidLooks := .later }
def JournalsParseUptoCardSaid : Prop := Claim7.holds Tryz.pinned (.plain (OpenSpec.upto journalsParseSpec)) journalsParseUptoCard

/-- THE SECOND FORM's CARD OF 'vidimuslaw43.JournalsCheck'. -/
def journalsCheckUptoCard : Claim7 := { stood := { row := journalsCheckUptoRow, standIns := [], harness := (true, "e882c36371f4e01ef092f3a3d1cd95988f4ab26375dd348ae615ea7176e53c2b"), looks := true }, kinds := [], alts := [], laidByText := true, laidKinds := [.data, .data, .data, .data, .sentinel, .sentinel, .pinned], laidTests := true, laidLooks := .later }
def JournalsCheckUptoCardSaid : Prop := Claim7.holds Tryz.pinned (.plain (OpenSpec.upto journalsCheckSpec)) journalsCheckUptoCard

/-- THE SECOND FORM's CARD OF 'vidimuslaw43.JournalsReplay'. -/
def journalsReplayUptoCard : Claim7 := { stood := { row := journalsReplayUptoRow, standIns := [], harness := (true, "e882c36371f4e01ef092f3a3d1cd95988f4ab26375dd348ae615ea7176e53c2b"), looks := true }, kinds := [], alts := [], laidByText := true, laidKinds := [.data, .data, .data, .data, .sentinel, .sentinel, .pinned], laidTests := true, laidLooks := .later }
def JournalsReplayUptoCardSaid : Prop := Claim7.holds Tryz.pinned (.plain (OpenSpec.upto journalsReplaySpec)) journalsReplayUptoCard

/-- THE SECOND FORM's CARD OF 'vidimuslaw43.JournalsKnown'. -/
def journalsKnownUptoCard : Claim7 := { stood := { row := journalsKnownUptoRow, standIns := [], harness := (true, "e882c36371f4e01ef092f3a3d1cd95988f4ab26375dd348ae615ea7176e53c2b"), looks := true }, kinds := [], alts := [], laidByText := true, laidKinds := [.data, .data, .data, .data, .sentinel, .sentinel, .pinned], laidTests := true, laidLooks := .later }
def JournalsKnownUptoCardSaid : Prop := Claim7.holds Tryz.pinned (.plain (OpenSpec.upto journalsKnownSpec)) journalsKnownUptoCard
end Rows
end Go.Proofs.YtgjlofpfbhioaaaGreatDoor
