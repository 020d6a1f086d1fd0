/-
  NARROWER THAN 'FOR EVERY INPUT', by the rows' own cells (each row's printed sentence says how): CachesNew: laid · CachesNil: laid · CachesOrder: laid · CachesKnown: laid · BuildersAll: laid · BuildersHolds: laid · BuildersRecords: laid.
  DERIVED. THE GIVEN ROWS OF THIS SEAT. 7 by the template 'for every input the law returns true; each argument reads behind the call as it read before'; 0 by the template 'total and deterministic' (their statements: YtmcgaakbkgdljaaGreatDoorTotals.lean).
  GIVEN WITH THE SEED: the statements are not yours to turn. If you find one false, say at which input.
  Laid BY PROGRAM, IN A SANDBOX (cutbox-rows.mjs): the forced cells as the released guide's own fill.sh prints them over the translation 759d720ebd3091be… (all of the seat's roots in one cut). By AI agents, Wed Nov 11 2026. No macro, syntax, notation, axiom, sorry.
-/
import Derived.Test.YtmcgaakbkgdljaaGreatDoorChecked
import GoSem.PinnedTables
import GoSem.Claim
import GoSem.ClaimJoined
import GoSem.ClaimMapViews
import Derived.JoinedTies
import Derived.KernelRfl
namespace Go.Proofs.YtmcgaakbkgdljaaGreatDoor
/- THE CELL 'sum', in the pinned program and in every row, IS THE sha256 OF THE DUMP (.gsa) THAT YtmcgaakbkgdljaaGreatDoorProg.lean LOADS. Nothing in Lean hashes anything: it is a label: what it is worth is what the hold of that sum in a sandbox is worth. -/
noncomputable def Tryz.pinned : Pinned := { name := "ytmcgaakbkgdljaagreatdoor", sum := "759d720ebd3091be14b460b5265a3a857bd151a5cad1c3da773efcee067b9329", checked := Tryz.checked }
namespace Rows
def none {H : Type} : Left H := { results := [], args := [] }

/- WHAT THE LISTED PACKAGE-LEVEL VARIABLES READ AS WHEN THE CALL BEGINS. Each datum BY PROGRAM (the guide's laid-datum.mjs) off the statement by which the dump's own 'gosem.cut.vars' lays the variable. In a bare row this is a premise. The card (YtmcgaakbkgdljaaGreatDoorCards.lean) ties it to the program's text. -/
def laid_unicode_utf8_acceptRanges {H : Type} : DataW H := .agg [.agg [.lit (.int .u8 128), .lit (.int .u8 191)], .agg [.lit (.int .u8 160), .lit (.int .u8 191)], .agg [.lit (.int .u8 128), .lit (.int .u8 159)], .agg [.lit (.int .u8 144), .lit (.int .u8 191)], .agg [.lit (.int .u8 128), .lit (.int .u8 143)], .agg [.lit (.int .u8 0), .lit (.int .u8 0)], .agg [.lit (.int .u8 0), .lit (.int .u8 0)], .agg [.lit (.int .u8 0), .lit (.int .u8 0)], .agg [.lit (.int .u8 0), .lit (.int .u8 0)], .agg [.lit (.int .u8 0), .lit (.int .u8 0)], .agg [.lit (.int .u8 0), .lit (.int .u8 0)], .agg [.lit (.int .u8 0), .lit (.int .u8 0)], .agg [.lit (.int .u8 0), .lit (.int .u8 0)], .agg [.lit (.int .u8 0), .lit (.int .u8 0)], .agg [.lit (.int .u8 0), .lit (.int .u8 0)], .agg [.lit (.int .u8 0), .lit (.int .u8 0)]]
def laid_vidimus_qualifiers_sequence {H : Type} : DataW H := .agg [.lit (.int .u8 0), .lit (.bool true), .lit (.int .u32 16)]
def laid_vidimus_qualifiers_oid {H : Type} : DataW H := .agg [.lit (.int .u8 0), .lit (.bool false), .lit (.int .u32 6)]
def laid_vidimus_qualifiers_ia5 {H : Type} : DataW H := .agg [.lit (.int .u8 0), .lit (.bool false), .lit (.int .u32 22)]
def laid_vidimus_qualifiers_integer {H : Type} : DataW H := .agg [.lit (.int .u8 0), .lit (.bool false), .lit (.int .u32 2)]
def laid_vidimus_qualifiers_shown {H : Type} : DataW H := .agg [.lit (.int .u32 12), .lit (.int .u32 22), .lit (.int .u32 26), .lit (.int .u32 30)]
/-- One of Go's own tables, pinned by name: the form's constant. -/
def laid_unicode_utf8_first : DataW Unit := Go.Pinned.utf8First

/-- 'vidimuslaw42.CachesNew': WHATEVER THE INPUT: true; the input reads as it did. -/
def cachesNewSpec : ChangeSpec := { name := "cachesNew", fn := fun _ => fun
  | [d] => { results := [.lit (.bool true)], args := [d] }
  | _ => none }
def cachesNewRow : OpenClaim := { program := "ytmcgaakbkgdljaagreatdoor", sum := "759d720ebd3091be14b460b5265a3a857bd151a5cad1c3da773efcee067b9329", func := "vidimus/vidimuslaw42.CachesNew", spec := "cachesNew", inPlace := ["internal/bytealg.IndexByteString", "internal/bytealg.IndexString"], unfollowed := true, recurses := true, named := ["vidimus/qualifiers.sequence", "vidimus/qualifiers.oid", "vidimus/qualifiers.ia5", "vidimus/qualifiers.shown", "unicode/utf8.first", "unicode/utf8.acceptRanges", "vidimus/qualifiers.integer", "internal/bytealg.MaxLen"], plainKeys := false, apart := false, laid := [("unicode/utf8.acceptRanges", laid_unicode_utf8_acceptRanges), ("vidimus/qualifiers.sequence", laid_vidimus_qualifiers_sequence), ("vidimus/qualifiers.oid", laid_vidimus_qualifiers_oid), ("vidimus/qualifiers.ia5", laid_vidimus_qualifiers_ia5), ("vidimus/qualifiers.integer", laid_vidimus_qualifiers_integer), ("vidimus/qualifiers.shown", laid_vidimus_qualifiers_shown), ("unicode/utf8.first", laid_unicode_utf8_first)] }
def CachesNewSaid : Prop := cachesNewRow.holds Tryz.pinned (OpenSpec.ofChange cachesNewSpec)

/-- ITS FALSE NEIGHBOUR: 'it returns false'. Refute it at one input. -/
def cachesNewWrong : ChangeSpec := { name := "cachesNew", fn := fun _ => fun
  | [d] => { results := [.lit (.bool false)], args := [d] }
  | _ => none }
def CachesNewWrongFalsely : Prop := cachesNewRow.holds Tryz.pinned (OpenSpec.ofChange cachesNewWrong)

/-- 'vidimuslaw42.CachesNil': WHATEVER THE INPUT: true; the input reads as it did. -/
def cachesNilSpec : ChangeSpec := { name := "cachesNil", fn := fun _ => fun
  | [d] => { results := [.lit (.bool true)], args := [d] }
  | _ => none }
def cachesNilRow : OpenClaim := { program := "ytmcgaakbkgdljaagreatdoor", sum := "759d720ebd3091be14b460b5265a3a857bd151a5cad1c3da773efcee067b9329", func := "vidimus/vidimuslaw42.CachesNil", spec := "cachesNil", inPlace := ["internal/bytealg.IndexByteString", "internal/bytealg.IndexString"], unfollowed := true, recurses := true, named := ["vidimus/qualifiers.sequence", "vidimus/qualifiers.oid", "vidimus/qualifiers.ia5", "vidimus/qualifiers.shown", "unicode/utf8.first", "unicode/utf8.acceptRanges", "vidimus/qualifiers.integer", "internal/bytealg.MaxLen"], plainKeys := false, apart := false, laid := [("unicode/utf8.acceptRanges", laid_unicode_utf8_acceptRanges), ("vidimus/qualifiers.sequence", laid_vidimus_qualifiers_sequence), ("vidimus/qualifiers.oid", laid_vidimus_qualifiers_oid), ("vidimus/qualifiers.ia5", laid_vidimus_qualifiers_ia5), ("vidimus/qualifiers.integer", laid_vidimus_qualifiers_integer), ("vidimus/qualifiers.shown", laid_vidimus_qualifiers_shown), ("unicode/utf8.first", laid_unicode_utf8_first)] }
def CachesNilSaid : Prop := cachesNilRow.holds Tryz.pinned (OpenSpec.ofChange cachesNilSpec)

/-- ITS FALSE NEIGHBOUR: 'it returns false'. Refute it at one input. -/
def cachesNilWrong : ChangeSpec := { name := "cachesNil", fn := fun _ => fun
  | [d] => { results := [.lit (.bool false)], args := [d] }
  | _ => none }
def CachesNilWrongFalsely : Prop := cachesNilRow.holds Tryz.pinned (OpenSpec.ofChange cachesNilWrong)

/-- 'vidimuslaw42.CachesOrder': WHATEVER THE INPUT: true; the input reads as it did. -/
def cachesOrderSpec : ChangeSpec := { name := "cachesOrder", fn := fun _ => fun
  | [d1, d2, d3] => { results := [.lit (.bool true)], args := [d1, d2, d3] }
  | _ => none }
def cachesOrderRow : OpenClaim := { program := "ytmcgaakbkgdljaagreatdoor", sum := "759d720ebd3091be14b460b5265a3a857bd151a5cad1c3da773efcee067b9329", func := "vidimus/vidimuslaw42.CachesOrder", spec := "cachesOrder", inPlace := ["internal/bytealg.IndexByteString", "internal/bytealg.IndexString"], unfollowed := true, recurses := true, named := ["vidimus/qualifiers.sequence", "vidimus/qualifiers.oid", "vidimus/qualifiers.ia5", "vidimus/qualifiers.shown", "unicode/utf8.first", "unicode/utf8.acceptRanges", "vidimus/qualifiers.integer", "internal/bytealg.MaxLen"], plainKeys := false, apart := false, laid := [("unicode/utf8.acceptRanges", laid_unicode_utf8_acceptRanges), ("vidimus/qualifiers.sequence", laid_vidimus_qualifiers_sequence), ("vidimus/qualifiers.oid", laid_vidimus_qualifiers_oid), ("vidimus/qualifiers.ia5", laid_vidimus_qualifiers_ia5), ("vidimus/qualifiers.integer", laid_vidimus_qualifiers_integer), ("vidimus/qualifiers.shown", laid_vidimus_qualifiers_shown), ("unicode/utf8.first", laid_unicode_utf8_first)] }
def CachesOrderSaid : Prop := cachesOrderRow.holds Tryz.pinned (OpenSpec.ofChange cachesOrderSpec)

/-- ITS FALSE NEIGHBOUR: 'it returns false'. Refute it at one input. -/
def cachesOrderWrong : ChangeSpec := { name := "cachesOrder", fn := fun _ => fun
  | [d1, d2, d3] => { results := [.lit (.bool false)], args := [d1, d2, d3] }
  | _ => none }
def CachesOrderWrongFalsely : Prop := cachesOrderRow.holds Tryz.pinned (OpenSpec.ofChange cachesOrderWrong)

/-- 'vidimuslaw42.CachesKnown': WHATEVER THE INPUT: true; the input reads as it did. -/
def cachesKnownSpec : ChangeSpec := { name := "cachesKnown", fn := fun _ => fun
  | [] => { results := [.lit (.bool true)], args := [] }
  | _ => none }
def cachesKnownRow : OpenClaim := { program := "ytmcgaakbkgdljaagreatdoor", sum := "759d720ebd3091be14b460b5265a3a857bd151a5cad1c3da773efcee067b9329", func := "vidimus/vidimuslaw42.CachesKnown", spec := "cachesKnown", inPlace := ["internal/bytealg.IndexByteString", "internal/bytealg.IndexString"], unfollowed := true, recurses := true, named := ["vidimus/qualifiers.sequence", "vidimus/qualifiers.oid", "vidimus/qualifiers.ia5", "vidimus/qualifiers.shown", "unicode/utf8.first", "unicode/utf8.acceptRanges", "vidimus/qualifiers.integer", "internal/bytealg.MaxLen"], plainKeys := false, apart := false, laid := [("unicode/utf8.acceptRanges", laid_unicode_utf8_acceptRanges), ("vidimus/qualifiers.sequence", laid_vidimus_qualifiers_sequence), ("vidimus/qualifiers.oid", laid_vidimus_qualifiers_oid), ("vidimus/qualifiers.ia5", laid_vidimus_qualifiers_ia5), ("vidimus/qualifiers.integer", laid_vidimus_qualifiers_integer), ("vidimus/qualifiers.shown", laid_vidimus_qualifiers_shown), ("unicode/utf8.first", laid_unicode_utf8_first)] }
def CachesKnownSaid : Prop := cachesKnownRow.holds Tryz.pinned (OpenSpec.ofChange cachesKnownSpec)

/-- ITS FALSE NEIGHBOUR: 'it returns false'. Refute it at one input. -/
def cachesKnownWrong : ChangeSpec := { name := "cachesKnown", fn := fun _ => fun
  | [] => { results := [.lit (.bool false)], args := [] }
  | _ => none }
def CachesKnownWrongFalsely : Prop := cachesKnownRow.holds Tryz.pinned (OpenSpec.ofChange cachesKnownWrong)

/-- 'vidimuslaw40.BuildersAll': WHATEVER THE INPUT: true; the input reads as it did. -/
def buildersAllSpec : ChangeSpec := { name := "buildersAll", fn := fun _ => fun
  | [d1, d2] => { results := [.lit (.bool true)], args := [d1, d2] }
  | _ => none }
def buildersAllRow : OpenClaim := { program := "ytmcgaakbkgdljaagreatdoor", sum := "759d720ebd3091be14b460b5265a3a857bd151a5cad1c3da773efcee067b9329", func := "vidimus/vidimuslaw40.BuildersAll", spec := "buildersAll", inPlace := ["internal/bytealg.IndexByteString", "internal/bytealg.IndexString"], unfollowed := true, recurses := true, named := ["vidimus/qualifiers.sequence", "vidimus/qualifiers.oid", "vidimus/qualifiers.ia5", "vidimus/qualifiers.shown", "unicode/utf8.first", "unicode/utf8.acceptRanges", "vidimus/qualifiers.integer", "internal/bytealg.MaxLen"], plainKeys := false, apart := false, laid := [("unicode/utf8.acceptRanges", laid_unicode_utf8_acceptRanges), ("vidimus/qualifiers.sequence", laid_vidimus_qualifiers_sequence), ("vidimus/qualifiers.oid", laid_vidimus_qualifiers_oid), ("vidimus/qualifiers.ia5", laid_vidimus_qualifiers_ia5), ("vidimus/qualifiers.integer", laid_vidimus_qualifiers_integer), ("vidimus/qualifiers.shown", laid_vidimus_qualifiers_shown), ("unicode/utf8.first", laid_unicode_utf8_first)] }
def BuildersAllSaid : Prop := buildersAllRow.holds Tryz.pinned (OpenSpec.ofChange buildersAllSpec)

/-- ITS FALSE NEIGHBOUR: 'it returns false'. Refute it at one input. -/
def buildersAllWrong : ChangeSpec := { name := "buildersAll", fn := fun _ => fun
  | [d1, d2] => { results := [.lit (.bool false)], args := [d1, d2] }
  | _ => none }
def BuildersAllWrongFalsely : Prop := buildersAllRow.holds Tryz.pinned (OpenSpec.ofChange buildersAllWrong)

/-- 'vidimuslaw40.BuildersHolds': WHATEVER THE INPUT: true; the input reads as it did. -/
def buildersHoldsSpec : ChangeSpec := { name := "buildersHolds", fn := fun _ => fun
  | [d1, d2] => { results := [.lit (.bool true)], args := [d1, d2] }
  | _ => none }
def buildersHoldsRow : OpenClaim := { program := "ytmcgaakbkgdljaagreatdoor", sum := "759d720ebd3091be14b460b5265a3a857bd151a5cad1c3da773efcee067b9329", func := "vidimus/vidimuslaw40.BuildersHolds", spec := "buildersHolds", inPlace := ["internal/bytealg.IndexByteString", "internal/bytealg.IndexString"], unfollowed := true, recurses := true, named := ["vidimus/qualifiers.sequence", "vidimus/qualifiers.oid", "vidimus/qualifiers.ia5", "vidimus/qualifiers.shown", "unicode/utf8.first", "unicode/utf8.acceptRanges", "vidimus/qualifiers.integer", "internal/bytealg.MaxLen"], plainKeys := false, apart := false, laid := [("unicode/utf8.acceptRanges", laid_unicode_utf8_acceptRanges), ("vidimus/qualifiers.sequence", laid_vidimus_qualifiers_sequence), ("vidimus/qualifiers.oid", laid_vidimus_qualifiers_oid), ("vidimus/qualifiers.ia5", laid_vidimus_qualifiers_ia5), ("vidimus/qualifiers.integer", laid_vidimus_qualifiers_integer), ("vidimus/qualifiers.shown", laid_vidimus_qualifiers_shown), ("unicode/utf8.first", laid_unicode_utf8_first)] }
def BuildersHoldsSaid : Prop := buildersHoldsRow.holds Tryz.pinned (OpenSpec.ofChange buildersHoldsSpec)

/-- ITS FALSE NEIGHBOUR: 'it returns false'. Refute it at one input. -/
def buildersHoldsWrong : ChangeSpec := { name := "buildersHolds", fn := fun _ => fun
  | [d1, d2] => { results := [.lit (.bool false)], args := [d1, d2] }
  | _ => none }
def BuildersHoldsWrongFalsely : Prop := buildersHoldsRow.holds Tryz.pinned (OpenSpec.ofChange buildersHoldsWrong)

/-- 'vidimuslaw40.BuildersRecords': WHATEVER THE INPUT: true; the input reads as it did. -/
def buildersRecordsSpec : ChangeSpec := { name := "buildersRecords", fn := fun _ => fun
  | [d1, d2] => { results := [.lit (.bool true)], args := [d1, d2] }
  | _ => none }
def buildersRecordsRow : OpenClaim := { program := "ytmcgaakbkgdljaagreatdoor", sum := "759d720ebd3091be14b460b5265a3a857bd151a5cad1c3da773efcee067b9329", func := "vidimus/vidimuslaw40.BuildersRecords", spec := "buildersRecords", inPlace := ["internal/bytealg.IndexByteString", "internal/bytealg.IndexString"], unfollowed := true, recurses := true, named := ["vidimus/qualifiers.sequence", "vidimus/qualifiers.oid", "vidimus/qualifiers.ia5", "vidimus/qualifiers.shown", "unicode/utf8.first", "unicode/utf8.acceptRanges", "vidimus/qualifiers.integer", "internal/bytealg.MaxLen"], plainKeys := false, apart := false, laid := [("unicode/utf8.acceptRanges", laid_unicode_utf8_acceptRanges), ("vidimus/qualifiers.sequence", laid_vidimus_qualifiers_sequence), ("vidimus/qualifiers.oid", laid_vidimus_qualifiers_oid), ("vidimus/qualifiers.ia5", laid_vidimus_qualifiers_ia5), ("vidimus/qualifiers.integer", laid_vidimus_qualifiers_integer), ("vidimus/qualifiers.shown", laid_vidimus_qualifiers_shown), ("unicode/utf8.first", laid_unicode_utf8_first)] }
def BuildersRecordsSaid : Prop := buildersRecordsRow.holds Tryz.pinned (OpenSpec.ofChange buildersRecordsSpec)

/-- ITS FALSE NEIGHBOUR: 'it returns false'. Refute it at one input. -/
def buildersRecordsWrong : ChangeSpec := { name := "buildersRecords", fn := fun _ => fun
  | [d1, d2] => { results := [.lit (.bool false)], args := [d1, d2] }
  | _ => none }
def BuildersRecordsWrongFalsely : Prop := buildersRecordsRow.holds Tryz.pinned (OpenSpec.ofChange buildersRecordsWrong)

/- THE SECOND FORM. 'bulk': how many values and letters a reading holds, each counted each time it is reached (what is shared counts as often as it is met; a slice's spare places count too). A statement '..UptoSaid' is the law's where the arguments, and the package variables that the reading takes, are together of bulk at most 1048576: NARROWER than '..Said'. Prove '..Said' where nothing that the law and all that it calls make is longer than what came in: it says more and counts as full. Else prove '..UptoSaid'. A law counts once. -/
mutual
def uptoBulk {H : Type} : DataW H → Nat
  | .lit (.string bytes) => bytes.length + 1
  | .lit _ => 1
  | .nil => 1
  | .ptr d => uptoBulk d + 1
  | .slice elems spare => uptoBulkAll elems + uptoBulkAll spare + 1
  | .agg parts => uptoBulkAll parts + 1
  | .iface _ d => uptoBulk d + 1
  | .map entries => uptoBulkEntries entries + 1
  | .held _ => 1
def uptoBulkAll {H : Type} : List (DataW H) → Nat
  | [] => 0
  | d :: r => uptoBulk d + uptoBulkAll r
def uptoBulkEntries {H : Type} : List (Lit × DataW H) → Nat
  | [] => 0
  | x :: r => uptoBulkEntry x + uptoBulkEntries r
def uptoBulkEntry {H : Type} : Lit × DataW H → Nat
  | (.string bytes, d) => bytes.length + uptoBulk d + 1
  | (_, d) => uptoBulk d + 1
 end
def uptoSmall : (H : Type) → List (DataW H) → Bool := fun _ ds => decide (uptoBulkAll ds ≤ 1048576)
def OpenSpec.upto (s : _root_.Go.ChangeSpec) : _root_.Go.OpenSpec := { _root_.Go.OpenSpec.ofChange s with cond := some uptoSmall }

/-- 'vidimuslaw42.CachesNew', WHERE WHAT IT READS IS OF BULK AT MOST 1048576: true; the input reads as it did. -/
def cachesNewUptoRow : OpenClaim := { program := "ytmcgaakbkgdljaagreatdoor", sum := "759d720ebd3091be14b460b5265a3a857bd151a5cad1c3da773efcee067b9329", func := "vidimus/vidimuslaw42.CachesNew", spec := "cachesNew", inPlace := ["internal/bytealg.IndexByteString", "internal/bytealg.IndexString"], unfollowed := true, recurses := true, named := ["vidimus/qualifiers.sequence", "vidimus/qualifiers.oid", "vidimus/qualifiers.ia5", "vidimus/qualifiers.shown", "unicode/utf8.first", "unicode/utf8.acceptRanges", "vidimus/qualifiers.integer", "internal/bytealg.MaxLen"], plainKeys := false, apart := false, laid := [("unicode/utf8.acceptRanges", laid_unicode_utf8_acceptRanges), ("vidimus/qualifiers.sequence", laid_vidimus_qualifiers_sequence), ("vidimus/qualifiers.oid", laid_vidimus_qualifiers_oid), ("vidimus/qualifiers.ia5", laid_vidimus_qualifiers_ia5), ("vidimus/qualifiers.integer", laid_vidimus_qualifiers_integer), ("vidimus/qualifiers.shown", laid_vidimus_qualifiers_shown), ("unicode/utf8.first", laid_unicode_utf8_first)], narrowed := true }
def CachesNewUptoSaid : Prop := cachesNewUptoRow.holds Tryz.pinned (OpenSpec.upto cachesNewSpec)

/-- 'vidimuslaw42.CachesNil', WHERE WHAT IT READS IS OF BULK AT MOST 1048576: true; the input reads as it did. -/
def cachesNilUptoRow : OpenClaim := { program := "ytmcgaakbkgdljaagreatdoor", sum := "759d720ebd3091be14b460b5265a3a857bd151a5cad1c3da773efcee067b9329", func := "vidimus/vidimuslaw42.CachesNil", spec := "cachesNil", inPlace := ["internal/bytealg.IndexByteString", "internal/bytealg.IndexString"], unfollowed := true, recurses := true, named := ["vidimus/qualifiers.sequence", "vidimus/qualifiers.oid", "vidimus/qualifiers.ia5", "vidimus/qualifiers.shown", "unicode/utf8.first", "unicode/utf8.acceptRanges", "vidimus/qualifiers.integer", "internal/bytealg.MaxLen"], plainKeys := false, apart := false, laid := [("unicode/utf8.acceptRanges", laid_unicode_utf8_acceptRanges), ("vidimus/qualifiers.sequence", laid_vidimus_qualifiers_sequence), ("vidimus/qualifiers.oid", laid_vidimus_qualifiers_oid), ("vidimus/qualifiers.ia5", laid_vidimus_qualifiers_ia5), ("vidimus/qualifiers.integer", laid_vidimus_qualifiers_integer), ("vidimus/qualifiers.shown", laid_vidimus_qualifiers_shown), ("unicode/utf8.first", laid_unicode_utf8_first)], narrowed := true }
def CachesNilUptoSaid : Prop := cachesNilUptoRow.holds Tryz.pinned (OpenSpec.upto cachesNilSpec)

/-- 'vidimuslaw42.CachesOrder', WHERE WHAT IT READS IS OF BULK AT MOST 1048576: true; the input reads as it did. -/
def cachesOrderUptoRow : OpenClaim := { program := "ytmcgaakbkgdljaagreatdoor", sum := "759d720ebd3091be14b460b5265a3a857bd151a5cad1c3da773efcee067b9329", func := "vidimus/vidimuslaw42.CachesOrder", spec := "cachesOrder", inPlace := ["internal/bytealg.IndexByteString", "internal/bytealg.IndexString"], unfollowed := true, recurses := true, named := ["vidimus/qualifiers.sequence", "vidimus/qualifiers.oid", "vidimus/qualifiers.ia5", "vidimus/qualifiers.shown", "unicode/utf8.first", "unicode/utf8.acceptRanges", "vidimus/qualifiers.integer", "internal/bytealg.MaxLen"], plainKeys := false, apart := false, laid := [("unicode/utf8.acceptRanges", laid_unicode_utf8_acceptRanges), ("vidimus/qualifiers.sequence", laid_vidimus_qualifiers_sequence), ("vidimus/qualifiers.oid", laid_vidimus_qualifiers_oid), ("vidimus/qualifiers.ia5", laid_vidimus_qualifiers_ia5), ("vidimus/qualifiers.integer", laid_vidimus_qualifiers_integer), ("vidimus/qualifiers.shown", laid_vidimus_qualifiers_shown), ("unicode/utf8.first", laid_unicode_utf8_first)], narrowed := true }
def CachesOrderUptoSaid : Prop := cachesOrderUptoRow.holds Tryz.pinned (OpenSpec.upto cachesOrderSpec)

/-- 'vidimuslaw42.CachesKnown', WHERE WHAT IT READS IS OF BULK AT MOST 1048576: true; the input reads as it did. -/
def cachesKnownUptoRow : OpenClaim := { program := "ytmcgaakbkgdljaagreatdoor", sum := "759d720ebd3091be14b460b5265a3a857bd151a5cad1c3da773efcee067b9329", func := "vidimus/vidimuslaw42.CachesKnown", spec := "cachesKnown", inPlace := ["internal/bytealg.IndexByteString", "internal/bytealg.IndexString"], unfollowed := true, recurses := true, named := ["vidimus/qualifiers.sequence", "vidimus/qualifiers.oid", "vidimus/qualifiers.ia5", "vidimus/qualifiers.shown", "unicode/utf8.first", "unicode/utf8.acceptRanges", "vidimus/qualifiers.integer", "internal/bytealg.MaxLen"], plainKeys := false, apart := false, laid := [("unicode/utf8.acceptRanges", laid_unicode_utf8_acceptRanges), ("vidimus/qualifiers.sequence", laid_vidimus_qualifiers_sequence), ("vidimus/qualifiers.oid", laid_vidimus_qualifiers_oid), ("vidimus/qualifiers.ia5", laid_vidimus_qualifiers_ia5), ("vidimus/qualifiers.integer", laid_vidimus_qualifiers_integer), ("vidimus/qualifiers.shown", laid_vidimus_qualifiers_shown), ("unicode/utf8.first", laid_unicode_utf8_first)], narrowed := true }
def CachesKnownUptoSaid : Prop := cachesKnownUptoRow.holds Tryz.pinned (OpenSpec.upto cachesKnownSpec)

/-- 'vidimuslaw40.BuildersAll', WHERE WHAT IT READS IS OF BULK AT MOST 1048576: true; the input reads as it did. -/
def buildersAllUptoRow : OpenClaim := { program := "ytmcgaakbkgdljaagreatdoor", sum := "759d720ebd3091be14b460b5265a3a857bd151a5cad1c3da773efcee067b9329", func := "vidimus/vidimuslaw40.BuildersAll", spec := "buildersAll", inPlace := ["internal/bytealg.IndexByteString", "internal/bytealg.IndexString"], unfollowed := true, recurses := true, named := ["vidimus/qualifiers.sequence", "vidimus/qualifiers.oid", "vidimus/qualifiers.ia5", "vidimus/qualifiers.shown", "unicode/utf8.first", "unicode/utf8.acceptRanges", "vidimus/qualifiers.integer", "internal/bytealg.MaxLen"], plainKeys := false, apart := false, laid := [("unicode/utf8.acceptRanges", laid_unicode_utf8_acceptRanges), ("vidimus/qualifiers.sequence", laid_vidimus_qualifiers_sequence), ("vidimus/qualifiers.oid", laid_vidimus_qualifiers_oid), ("vidimus/qualifiers.ia5", laid_vidimus_qualifiers_ia5), ("vidimus/qualifiers.integer", laid_vidimus_qualifiers_integer), ("vidimus/qualifiers.shown", laid_vidimus_qualifiers_shown), ("unicode/utf8.first", laid_unicode_utf8_first)], narrowed := true }
def BuildersAllUptoSaid : Prop := buildersAllUptoRow.holds Tryz.pinned (OpenSpec.upto buildersAllSpec)

/-- 'vidimuslaw40.BuildersHolds', WHERE WHAT IT READS IS OF BULK AT MOST 1048576: true; the input reads as it did. -/
def buildersHoldsUptoRow : OpenClaim := { program := "ytmcgaakbkgdljaagreatdoor", sum := "759d720ebd3091be14b460b5265a3a857bd151a5cad1c3da773efcee067b9329", func := "vidimus/vidimuslaw40.BuildersHolds", spec := "buildersHolds", inPlace := ["internal/bytealg.IndexByteString", "internal/bytealg.IndexString"], unfollowed := true, recurses := true, named := ["vidimus/qualifiers.sequence", "vidimus/qualifiers.oid", "vidimus/qualifiers.ia5", "vidimus/qualifiers.shown", "unicode/utf8.first", "unicode/utf8.acceptRanges", "vidimus/qualifiers.integer", "internal/bytealg.MaxLen"], plainKeys := false, apart := false, laid := [("unicode/utf8.acceptRanges", laid_unicode_utf8_acceptRanges), ("vidimus/qualifiers.sequence", laid_vidimus_qualifiers_sequence), ("vidimus/qualifiers.oid", laid_vidimus_qualifiers_oid), ("vidimus/qualifiers.ia5", laid_vidimus_qualifiers_ia5), ("vidimus/qualifiers.integer", laid_vidimus_qualifiers_integer), ("vidimus/qualifiers.shown", laid_vidimus_qualifiers_shown), ("unicode/utf8.first", laid_unicode_utf8_first)], narrowed := true }
def BuildersHoldsUptoSaid : Prop := buildersHoldsUptoRow.holds Tryz.pinned (OpenSpec.upto buildersHoldsSpec)

/-- 'vidimuslaw40.BuildersRecords', WHERE WHAT IT READS IS OF BULK AT MOST 1048576: true; the input reads as it did. -/
def buildersRecordsUptoRow : OpenClaim := { program := "ytmcgaakbkgdljaagreatdoor", sum := "759d720ebd3091be14b460b5265a3a857bd151a5cad1c3da773efcee067b9329", func := "vidimus/vidimuslaw40.BuildersRecords", spec := "buildersRecords", inPlace := ["internal/bytealg.IndexByteString", "internal/bytealg.IndexString"], unfollowed := true, recurses := true, named := ["vidimus/qualifiers.sequence", "vidimus/qualifiers.oid", "vidimus/qualifiers.ia5", "vidimus/qualifiers.shown", "unicode/utf8.first", "unicode/utf8.acceptRanges", "vidimus/qualifiers.integer", "internal/bytealg.MaxLen"], plainKeys := false, apart := false, laid := [("unicode/utf8.acceptRanges", laid_unicode_utf8_acceptRanges), ("vidimus/qualifiers.sequence", laid_vidimus_qualifiers_sequence), ("vidimus/qualifiers.oid", laid_vidimus_qualifiers_oid), ("vidimus/qualifiers.ia5", laid_vidimus_qualifiers_ia5), ("vidimus/qualifiers.integer", laid_vidimus_qualifiers_integer), ("vidimus/qualifiers.shown", laid_vidimus_qualifiers_shown), ("unicode/utf8.first", laid_unicode_utf8_first)], narrowed := true }
def BuildersRecordsUptoSaid : Prop := buildersRecordsUptoRow.holds Tryz.pinned (OpenSpec.upto buildersRecordsSpec)

end Rows
end Go.Proofs.YtmcgaakbkgdljaaGreatDoor
