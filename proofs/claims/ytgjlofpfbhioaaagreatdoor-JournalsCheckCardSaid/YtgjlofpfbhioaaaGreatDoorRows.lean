/-
  NARROWER THAN 'FOR EVERY INPUT', by the rows' own cells (each row's printed sentence says how): AnchorsInputs: laid · AnchorsBack: laid · AnchorsParse: laid · AnchorsFaults: laid · AnchorsKnown: laid · JournalsBack: laid · JournalsChanged: laid · AnchorsCheck: laid · JournalsCut: laid · JournalsParse: laid · JournalsCheck: laid · JournalsReplay: laid · JournalsKnown: laid.
  DERIVED. THE GIVEN ROWS OF THIS SEAT. 13 by the template 'for every input the law returns true; each argument reads behind the call as it read before'; 0 by the template 'total and deterministic' (their statements: YtgjlofpfbhioaaaGreatDoorTotals.lean).
  GIVEN WITH THE SEED: the statements are not yours to turn. If you find one false, say at which input.
  Laid BY PROGRAM, IN A SANDBOX (cutbox-rows.mjs): the forced cells as the released guide's own fill.sh prints them over the translation 83ce049018ac2eff… (all of the seat's roots in one cut). By AI agents, Wed Nov 11 2026. No macro, syntax, notation, axiom, sorry.
-/
import Derived.Test.YtgjlofpfbhioaaaGreatDoorChecked
import GoSem.PinnedTables
import GoSem.Claim
import GoSem.ClaimJoined
import GoSem.ClaimMapViews
import Derived.JoinedTies
import Derived.KernelRfl
namespace Go.Proofs.YtgjlofpfbhioaaaGreatDoor
/- THE CELL 'sum', in the pinned program and in every row, IS THE sha256 OF THE DUMP (.gsa) THAT YtgjlofpfbhioaaaGreatDoorProg.lean LOADS. Nothing in Lean hashes anything: it is a label: what it is worth is what the hold of that sum in a sandbox is worth. -/
noncomputable def Tryz.pinned : Pinned := { name := "ytgjlofpfbhioaaagreatdoor", sum := "83ce049018ac2eff832602dee9ff34e46043ecff0fa1670eccecbbc1679d20f3", checked := Tryz.checked }
namespace Rows
def none {H : Type} : Left H := { results := [], args := [] }

/- WHAT THE LISTED PACKAGE-LEVEL VARIABLES READ AS WHEN THE CALL BEGINS. Each datum BY PROGRAM (the guide's laid-datum.mjs) off the statement by which the dump's own 'gosem.cut.vars' lays the variable. In a bare row this is a premise. The card (YtgjlofpfbhioaaaGreatDoorCards.lean) ties it to the program's text. -/
def laid_math_bits_deBruijn32tab {H : Type} : DataW H := .agg [.lit (.int .u8 0), .lit (.int .u8 1), .lit (.int .u8 28), .lit (.int .u8 2), .lit (.int .u8 29), .lit (.int .u8 14), .lit (.int .u8 24), .lit (.int .u8 3), .lit (.int .u8 30), .lit (.int .u8 22), .lit (.int .u8 20), .lit (.int .u8 15), .lit (.int .u8 25), .lit (.int .u8 17), .lit (.int .u8 4), .lit (.int .u8 8), .lit (.int .u8 31), .lit (.int .u8 27), .lit (.int .u8 13), .lit (.int .u8 23), .lit (.int .u8 21), .lit (.int .u8 19), .lit (.int .u8 16), .lit (.int .u8 7), .lit (.int .u8 26), .lit (.int .u8 12), .lit (.int .u8 18), .lit (.int .u8 6), .lit (.int .u8 11), .lit (.int .u8 5), .lit (.int .u8 10), .lit (.int .u8 9)]
def laid_math_bits_deBruijn64tab {H : Type} : DataW H := .agg [.lit (.int .u8 0), .lit (.int .u8 1), .lit (.int .u8 56), .lit (.int .u8 2), .lit (.int .u8 57), .lit (.int .u8 49), .lit (.int .u8 28), .lit (.int .u8 3), .lit (.int .u8 61), .lit (.int .u8 58), .lit (.int .u8 42), .lit (.int .u8 50), .lit (.int .u8 38), .lit (.int .u8 29), .lit (.int .u8 17), .lit (.int .u8 4), .lit (.int .u8 62), .lit (.int .u8 47), .lit (.int .u8 59), .lit (.int .u8 36), .lit (.int .u8 45), .lit (.int .u8 43), .lit (.int .u8 51), .lit (.int .u8 22), .lit (.int .u8 53), .lit (.int .u8 39), .lit (.int .u8 33), .lit (.int .u8 30), .lit (.int .u8 24), .lit (.int .u8 18), .lit (.int .u8 12), .lit (.int .u8 5), .lit (.int .u8 63), .lit (.int .u8 55), .lit (.int .u8 48), .lit (.int .u8 27), .lit (.int .u8 60), .lit (.int .u8 41), .lit (.int .u8 37), .lit (.int .u8 16), .lit (.int .u8 46), .lit (.int .u8 35), .lit (.int .u8 44), .lit (.int .u8 21), .lit (.int .u8 52), .lit (.int .u8 32), .lit (.int .u8 23), .lit (.int .u8 11), .lit (.int .u8 54), .lit (.int .u8 26), .lit (.int .u8 40), .lit (.int .u8 15), .lit (.int .u8 34), .lit (.int .u8 20), .lit (.int .u8 31), .lit (.int .u8 10), .lit (.int .u8 25), .lit (.int .u8 14), .lit (.int .u8 19), .lit (.int .u8 9), .lit (.int .u8 13), .lit (.int .u8 8), .lit (.int .u8 7), .lit (.int .u8 6)]
def laid_internal_strconv_uint64pow10 {H : Type} : DataW H := .agg [.lit (.int .u64 1), .lit (.int .u64 10), .lit (.int .u64 100), .lit (.int .u64 1000), .lit (.int .u64 10000), .lit (.int .u64 100000), .lit (.int .u64 1000000), .lit (.int .u64 10000000), .lit (.int .u64 100000000), .lit (.int .u64 1000000000), .lit (.int .u64 10000000000), .lit (.int .u64 100000000000), .lit (.int .u64 1000000000000), .lit (.int .u64 10000000000000), .lit (.int .u64 100000000000000), .lit (.int .u64 1000000000000000), .lit (.int .u64 10000000000000000), .lit (.int .u64 100000000000000000), .lit (.int .u64 1000000000000000000), .lit (.int .u64 10000000000000000000)]
def laid_unicode_utf8_acceptRanges {H : Type} : DataW H := .agg [.agg [.lit (.int .u8 128), .lit (.int .u8 191)], .agg [.lit (.int .u8 160), .lit (.int .u8 191)], .agg [.lit (.int .u8 128), .lit (.int .u8 159)], .agg [.lit (.int .u8 144), .lit (.int .u8 191)], .agg [.lit (.int .u8 128), .lit (.int .u8 143)], .agg [.lit (.int .u8 0), .lit (.int .u8 0)], .agg [.lit (.int .u8 0), .lit (.int .u8 0)], .agg [.lit (.int .u8 0), .lit (.int .u8 0)], .agg [.lit (.int .u8 0), .lit (.int .u8 0)], .agg [.lit (.int .u8 0), .lit (.int .u8 0)], .agg [.lit (.int .u8 0), .lit (.int .u8 0)], .agg [.lit (.int .u8 0), .lit (.int .u8 0)], .agg [.lit (.int .u8 0), .lit (.int .u8 0)], .agg [.lit (.int .u8 0), .lit (.int .u8 0)], .agg [.lit (.int .u8 0), .lit (.int .u8 0)], .agg [.lit (.int .u8 0), .lit (.int .u8 0)]]
def laid_strconv_ErrRange {H : Type} : DataW H := .iface "*errors.errorString" (.ptr (.agg [.lit (.string [118, 97, 108, 117, 101, 32, 111, 117, 116, 32, 111, 102, 32, 114, 97, 110, 103, 101])]))
def laid_strconv_ErrSyntax {H : Type} : DataW H := .iface "*errors.errorString" (.ptr (.agg [.lit (.string [105, 110, 118, 97, 108, 105, 100, 32, 115, 121, 110, 116, 97, 120])]))
def laid_vidimus_anchors_words {H : Type} : DataW H := .agg [.lit (.string [101, 120, 112, 108, 105, 99, 105, 116]), .lit (.string [110, 111, 109, 97, 112, 112, 105, 110, 103]), .lit (.string [110, 111, 97, 110, 121])]
/-- One of Go's own tables, pinned by name: the form's constant. -/
def laid_unicode_utf8_first : DataW Unit := Go.Pinned.utf8First

/-- 'vidimuslaw39.AnchorsInputs': WHATEVER THE INPUT: true; the input reads as it did. -/
def anchorsInputsSpec : ChangeSpec := { name := "anchorsInputs", fn := fun _ => fun
  | [d1, d2] => { results := [.lit (.bool true)], args := [d1, d2] }
  | _ => none }
def anchorsInputsRow : OpenClaim := { program := "ytgjlofpfbhioaaagreatdoor", sum := "83ce049018ac2eff832602dee9ff34e46043ecff0fa1670eccecbbc1679d20f3", func := "vidimus/vidimuslaw39.AnchorsInputs", spec := "anchorsInputs", inPlace := ["internal/abi.NoEscape", "internal/bytealg.MakeNoZero", "internal/bytealg.IndexByteString", "internal/bytealg.IndexString", "internal/bytealg.CountString"], unfollowed := true, recurses := true, named := ["vidimus/anchors.words", "internal/strconv.uint64pow10", "math/bits.deBruijn32tab", "math/bits.deBruijn64tab", "internal/bytealg.MaxLen", "unicode/utf8.first", "unicode/utf8.acceptRanges", "strconv.ErrSyntax", "strconv.ErrRange"], apart := false, laid := [("math/bits.deBruijn32tab", laid_math_bits_deBruijn32tab), ("math/bits.deBruijn64tab", laid_math_bits_deBruijn64tab), ("internal/strconv.uint64pow10", laid_internal_strconv_uint64pow10), ("unicode/utf8.acceptRanges", laid_unicode_utf8_acceptRanges), ("strconv.ErrRange", laid_strconv_ErrRange), ("strconv.ErrSyntax", laid_strconv_ErrSyntax), ("vidimus/anchors.words", laid_vidimus_anchors_words), ("unicode/utf8.first", laid_unicode_utf8_first)] }
def AnchorsInputsSaid : Prop := anchorsInputsRow.holds Tryz.pinned (OpenSpec.ofChange anchorsInputsSpec)

/-- ITS FALSE NEIGHBOUR: 'it returns false'. Refute it at one input. -/
def anchorsInputsWrong : ChangeSpec := { name := "anchorsInputs", fn := fun _ => fun
  | [d1, d2] => { results := [.lit (.bool false)], args := [d1, d2] }
  | _ => none }
def AnchorsInputsWrongFalsely : Prop := anchorsInputsRow.holds Tryz.pinned (OpenSpec.ofChange anchorsInputsWrong)

/-- 'vidimuslaw39.AnchorsBack': WHATEVER THE INPUT: true; the input reads as it did. -/
def anchorsBackSpec : ChangeSpec := { name := "anchorsBack", fn := fun _ => fun
  | [d] => { results := [.lit (.bool true)], args := [d] }
  | _ => none }
def anchorsBackRow : OpenClaim := { program := "ytgjlofpfbhioaaagreatdoor", sum := "83ce049018ac2eff832602dee9ff34e46043ecff0fa1670eccecbbc1679d20f3", func := "vidimus/vidimuslaw39.AnchorsBack", spec := "anchorsBack", inPlace := ["internal/abi.NoEscape", "internal/bytealg.MakeNoZero", "internal/bytealg.IndexByteString", "internal/bytealg.IndexString", "internal/bytealg.CountString"], unfollowed := true, recurses := true, named := ["vidimus/anchors.words", "internal/strconv.uint64pow10", "math/bits.deBruijn32tab", "math/bits.deBruijn64tab", "internal/bytealg.MaxLen", "unicode/utf8.first", "unicode/utf8.acceptRanges", "strconv.ErrSyntax", "strconv.ErrRange"], apart := false, laid := [("math/bits.deBruijn32tab", laid_math_bits_deBruijn32tab), ("math/bits.deBruijn64tab", laid_math_bits_deBruijn64tab), ("internal/strconv.uint64pow10", laid_internal_strconv_uint64pow10), ("unicode/utf8.acceptRanges", laid_unicode_utf8_acceptRanges), ("strconv.ErrRange", laid_strconv_ErrRange), ("strconv.ErrSyntax", laid_strconv_ErrSyntax), ("vidimus/anchors.words", laid_vidimus_anchors_words), ("unicode/utf8.first", laid_unicode_utf8_first)] }
def AnchorsBackSaid : Prop := anchorsBackRow.holds Tryz.pinned (OpenSpec.ofChange anchorsBackSpec)

/-- ITS FALSE NEIGHBOUR: 'it returns false'. Refute it at one input. -/
def anchorsBackWrong : ChangeSpec := { name := "anchorsBack", fn := fun _ => fun
  | [d] => { results := [.lit (.bool false)], args := [d] }
  | _ => none }
def AnchorsBackWrongFalsely : Prop := anchorsBackRow.holds Tryz.pinned (OpenSpec.ofChange anchorsBackWrong)

/-- 'vidimuslaw39.AnchorsParse': WHATEVER THE INPUT: true; the input reads as it did. -/
def anchorsParseSpec : ChangeSpec := { name := "anchorsParse", fn := fun _ => fun
  | [d] => { results := [.lit (.bool true)], args := [d] }
  | _ => none }
def anchorsParseRow : OpenClaim := { program := "ytgjlofpfbhioaaagreatdoor", sum := "83ce049018ac2eff832602dee9ff34e46043ecff0fa1670eccecbbc1679d20f3", func := "vidimus/vidimuslaw39.AnchorsParse", spec := "anchorsParse", inPlace := ["internal/abi.NoEscape", "internal/bytealg.MakeNoZero", "internal/bytealg.IndexByteString", "internal/bytealg.IndexString", "internal/bytealg.CountString"], unfollowed := true, recurses := true, named := ["vidimus/anchors.words", "internal/strconv.uint64pow10", "math/bits.deBruijn32tab", "math/bits.deBruijn64tab", "internal/bytealg.MaxLen", "unicode/utf8.first", "unicode/utf8.acceptRanges", "strconv.ErrSyntax", "strconv.ErrRange"], apart := false, laid := [("math/bits.deBruijn32tab", laid_math_bits_deBruijn32tab), ("math/bits.deBruijn64tab", laid_math_bits_deBruijn64tab), ("internal/strconv.uint64pow10", laid_internal_strconv_uint64pow10), ("unicode/utf8.acceptRanges", laid_unicode_utf8_acceptRanges), ("strconv.ErrRange", laid_strconv_ErrRange), ("strconv.ErrSyntax", laid_strconv_ErrSyntax), ("vidimus/anchors.words", laid_vidimus_anchors_words), ("unicode/utf8.first", laid_unicode_utf8_first)] }
def AnchorsParseSaid : Prop := anchorsParseRow.holds Tryz.pinned (OpenSpec.ofChange anchorsParseSpec)

/-- ITS FALSE NEIGHBOUR: 'it returns false'. Refute it at one input. -/
def anchorsParseWrong : ChangeSpec := { name := "anchorsParse", fn := fun _ => fun
  | [d] => { results := [.lit (.bool false)], args := [d] }
  | _ => none }
def AnchorsParseWrongFalsely : Prop := anchorsParseRow.holds Tryz.pinned (OpenSpec.ofChange anchorsParseWrong)

/-- 'vidimuslaw39.AnchorsFaults': WHATEVER THE INPUT: true; the input reads as it did. -/
def anchorsFaultsSpec : ChangeSpec := { name := "anchorsFaults", fn := fun _ => fun
  | [d1, d2, d3] => { results := [.lit (.bool true)], args := [d1, d2, d3] }
  | _ => none }
def anchorsFaultsRow : OpenClaim := { program := "ytgjlofpfbhioaaagreatdoor", sum := "83ce049018ac2eff832602dee9ff34e46043ecff0fa1670eccecbbc1679d20f3", func := "vidimus/vidimuslaw39.AnchorsFaults", spec := "anchorsFaults", inPlace := ["internal/abi.NoEscape", "internal/bytealg.MakeNoZero", "internal/bytealg.IndexByteString", "internal/bytealg.IndexString", "internal/bytealg.CountString"], unfollowed := true, recurses := true, named := ["vidimus/anchors.words", "internal/strconv.uint64pow10", "math/bits.deBruijn32tab", "math/bits.deBruijn64tab", "internal/bytealg.MaxLen", "unicode/utf8.first", "unicode/utf8.acceptRanges", "strconv.ErrSyntax", "strconv.ErrRange"], apart := false, laid := [("math/bits.deBruijn32tab", laid_math_bits_deBruijn32tab), ("math/bits.deBruijn64tab", laid_math_bits_deBruijn64tab), ("internal/strconv.uint64pow10", laid_internal_strconv_uint64pow10), ("unicode/utf8.acceptRanges", laid_unicode_utf8_acceptRanges), ("strconv.ErrRange", laid_strconv_ErrRange), ("strconv.ErrSyntax", laid_strconv_ErrSyntax), ("vidimus/anchors.words", laid_vidimus_anchors_words), ("unicode/utf8.first", laid_unicode_utf8_first)] }
def AnchorsFaultsSaid : Prop := anchorsFaultsRow.holds Tryz.pinned (OpenSpec.ofChange anchorsFaultsSpec)

/-- ITS FALSE NEIGHBOUR: 'it returns false'. Refute it at one input. -/
def anchorsFaultsWrong : ChangeSpec := { name := "anchorsFaults", fn := fun _ => fun
  | [d1, d2, d3] => { results := [.lit (.bool false)], args := [d1, d2, d3] }
  | _ => none }
def AnchorsFaultsWrongFalsely : Prop := anchorsFaultsRow.holds Tryz.pinned (OpenSpec.ofChange anchorsFaultsWrong)

/-- 'vidimuslaw39.AnchorsKnown': WHATEVER THE INPUT: true; the input reads as it did. -/
def anchorsKnownSpec : ChangeSpec := { name := "anchorsKnown", fn := fun _ => fun
  | [] => { results := [.lit (.bool true)], args := [] }
  | _ => none }
def anchorsKnownRow : OpenClaim := { program := "ytgjlofpfbhioaaagreatdoor", sum := "83ce049018ac2eff832602dee9ff34e46043ecff0fa1670eccecbbc1679d20f3", func := "vidimus/vidimuslaw39.AnchorsKnown", spec := "anchorsKnown", inPlace := ["internal/bytealg.IndexByteString", "internal/bytealg.IndexString", "internal/bytealg.CountString", "internal/abi.NoEscape", "internal/bytealg.MakeNoZero"], unfollowed := true, recurses := true, named := ["internal/bytealg.MaxLen", "unicode/utf8.first", "unicode/utf8.acceptRanges", "strconv.ErrSyntax", "strconv.ErrRange", "internal/strconv.uint64pow10", "math/bits.deBruijn32tab", "math/bits.deBruijn64tab", "vidimus/anchors.words"], apart := false, laid := [("math/bits.deBruijn32tab", laid_math_bits_deBruijn32tab), ("math/bits.deBruijn64tab", laid_math_bits_deBruijn64tab), ("internal/strconv.uint64pow10", laid_internal_strconv_uint64pow10), ("unicode/utf8.acceptRanges", laid_unicode_utf8_acceptRanges), ("strconv.ErrRange", laid_strconv_ErrRange), ("strconv.ErrSyntax", laid_strconv_ErrSyntax), ("vidimus/anchors.words", laid_vidimus_anchors_words), ("unicode/utf8.first", laid_unicode_utf8_first)] }
def AnchorsKnownSaid : Prop := anchorsKnownRow.holds Tryz.pinned (OpenSpec.ofChange anchorsKnownSpec)

/-- ITS FALSE NEIGHBOUR: 'it returns false'. Refute it at one input. -/
def anchorsKnownWrong : ChangeSpec := { name := "anchorsKnown", fn := fun _ => fun
  | [] => { results := [.lit (.bool false)], args := [] }
  | _ => none }
def AnchorsKnownWrongFalsely : Prop := anchorsKnownRow.holds Tryz.pinned (OpenSpec.ofChange anchorsKnownWrong)

/-- 'vidimuslaw43.JournalsBack': WHATEVER THE INPUT: true; the input reads as it did. -/
def journalsBackSpec : ChangeSpec := { name := "journalsBack", fn := fun _ => fun
  | [d] => { results := [.lit (.bool true)], args := [d] }
  | _ => none }
def journalsBackRow : OpenClaim := { program := "ytgjlofpfbhioaaagreatdoor", sum := "83ce049018ac2eff832602dee9ff34e46043ecff0fa1670eccecbbc1679d20f3", func := "vidimus/vidimuslaw43.JournalsBack", spec := "journalsBack", inPlace := ["internal/bytealg.IndexByteString", "internal/bytealg.CountString", "internal/bytealg.IndexString", "internal/abi.NoEscape", "internal/bytealg.MakeNoZero"], unfollowed := true, recurses := true, named := ["unicode/utf8.first", "unicode/utf8.acceptRanges", "internal/bytealg.MaxLen", "strconv.ErrSyntax", "strconv.ErrRange", "internal/strconv.uint64pow10", "math/bits.deBruijn32tab", "math/bits.deBruijn64tab"], apart := false, laid := [("math/bits.deBruijn32tab", laid_math_bits_deBruijn32tab), ("math/bits.deBruijn64tab", laid_math_bits_deBruijn64tab), ("internal/strconv.uint64pow10", laid_internal_strconv_uint64pow10), ("unicode/utf8.acceptRanges", laid_unicode_utf8_acceptRanges), ("strconv.ErrRange", laid_strconv_ErrRange), ("strconv.ErrSyntax", laid_strconv_ErrSyntax), ("unicode/utf8.first", laid_unicode_utf8_first)] }
def JournalsBackSaid : Prop := journalsBackRow.holds Tryz.pinned (OpenSpec.ofChange journalsBackSpec)

/-- ITS FALSE NEIGHBOUR: 'it returns false'. Refute it at one input. -/
def journalsBackWrong : ChangeSpec := { name := "journalsBack", fn := fun _ => fun
  | [d] => { results := [.lit (.bool false)], args := [d] }
  | _ => none }
def JournalsBackWrongFalsely : Prop := journalsBackRow.holds Tryz.pinned (OpenSpec.ofChange journalsBackWrong)

/-- 'vidimuslaw43.JournalsChanged': WHATEVER THE INPUT: true; the input reads as it did. -/
def journalsChangedSpec : ChangeSpec := { name := "journalsChanged", fn := fun _ => fun
  | [d1, d2, d3] => { results := [.lit (.bool true)], args := [d1, d2, d3] }
  | _ => none }
def journalsChangedRow : OpenClaim := { program := "ytgjlofpfbhioaaagreatdoor", sum := "83ce049018ac2eff832602dee9ff34e46043ecff0fa1670eccecbbc1679d20f3", func := "vidimus/vidimuslaw43.JournalsChanged", spec := "journalsChanged", inPlace := ["internal/bytealg.IndexByteString", "internal/bytealg.CountString", "internal/bytealg.IndexString", "internal/abi.NoEscape", "internal/bytealg.MakeNoZero"], unfollowed := true, recurses := true, named := ["unicode/utf8.first", "unicode/utf8.acceptRanges", "internal/bytealg.MaxLen", "strconv.ErrSyntax", "strconv.ErrRange", "internal/strconv.uint64pow10", "math/bits.deBruijn32tab", "math/bits.deBruijn64tab"], apart := false, laid := [("math/bits.deBruijn32tab", laid_math_bits_deBruijn32tab), ("math/bits.deBruijn64tab", laid_math_bits_deBruijn64tab), ("internal/strconv.uint64pow10", laid_internal_strconv_uint64pow10), ("unicode/utf8.acceptRanges", laid_unicode_utf8_acceptRanges), ("strconv.ErrRange", laid_strconv_ErrRange), ("strconv.ErrSyntax", laid_strconv_ErrSyntax), ("unicode/utf8.first", laid_unicode_utf8_first)] }
def JournalsChangedSaid : Prop := journalsChangedRow.holds Tryz.pinned (OpenSpec.ofChange journalsChangedSpec)

/-- ITS FALSE NEIGHBOUR: 'it returns false'. Refute it at one input. -/
def journalsChangedWrong : ChangeSpec := { name := "journalsChanged", fn := fun _ => fun
  | [d1, d2, d3] => { results := [.lit (.bool false)], args := [d1, d2, d3] }
  | _ => none }
def JournalsChangedWrongFalsely : Prop := journalsChangedRow.holds Tryz.pinned (OpenSpec.ofChange journalsChangedWrong)

/-- 'vidimuslaw39.AnchorsCheck': WHATEVER THE INPUT: true; the input reads as it did. -/
def anchorsCheckSpec : ChangeSpec := { name := "anchorsCheck", fn := fun _ => fun
  | [d1, d2] => { results := [.lit (.bool true)], args := [d1, d2] }
  | _ => none }
def anchorsCheckRow : OpenClaim := { program := "ytgjlofpfbhioaaagreatdoor", sum := "83ce049018ac2eff832602dee9ff34e46043ecff0fa1670eccecbbc1679d20f3", func := "vidimus/vidimuslaw39.AnchorsCheck", spec := "anchorsCheck", inPlace := ["internal/abi.NoEscape", "internal/bytealg.MakeNoZero", "internal/bytealg.IndexByteString", "internal/bytealg.IndexString", "internal/bytealg.CountString"], unfollowed := true, recurses := true, named := ["vidimus/anchors.words", "internal/strconv.uint64pow10", "math/bits.deBruijn32tab", "math/bits.deBruijn64tab", "internal/bytealg.MaxLen", "unicode/utf8.first", "unicode/utf8.acceptRanges", "strconv.ErrSyntax", "strconv.ErrRange"], apart := false, laid := [("math/bits.deBruijn32tab", laid_math_bits_deBruijn32tab), ("math/bits.deBruijn64tab", laid_math_bits_deBruijn64tab), ("internal/strconv.uint64pow10", laid_internal_strconv_uint64pow10), ("unicode/utf8.acceptRanges", laid_unicode_utf8_acceptRanges), ("strconv.ErrRange", laid_strconv_ErrRange), ("strconv.ErrSyntax", laid_strconv_ErrSyntax), ("vidimus/anchors.words", laid_vidimus_anchors_words), ("unicode/utf8.first", laid_unicode_utf8_first)] }
def AnchorsCheckSaid : Prop := anchorsCheckRow.holds Tryz.pinned (OpenSpec.ofChange anchorsCheckSpec)

/-- ITS FALSE NEIGHBOUR: 'it returns false'. Refute it at one input. -/
def anchorsCheckWrong : ChangeSpec := { name := "anchorsCheck", fn := fun _ => fun
  | [d1, d2] => { results := [.lit (.bool false)], args := [d1, d2] }
  | _ => none }
def AnchorsCheckWrongFalsely : Prop := anchorsCheckRow.holds Tryz.pinned (OpenSpec.ofChange anchorsCheckWrong)

/-- 'vidimuslaw43.JournalsCut': WHATEVER THE INPUT: true; the input reads as it did. -/
def journalsCutSpec : ChangeSpec := { name := "journalsCut", fn := fun _ => fun
  | [d1, d2, d3] => { results := [.lit (.bool true)], args := [d1, d2, d3] }
  | _ => none }
def journalsCutRow : OpenClaim := { program := "ytgjlofpfbhioaaagreatdoor", sum := "83ce049018ac2eff832602dee9ff34e46043ecff0fa1670eccecbbc1679d20f3", func := "vidimus/vidimuslaw43.JournalsCut", spec := "journalsCut", inPlace := ["internal/bytealg.IndexByteString", "internal/bytealg.CountString", "internal/bytealg.IndexString", "internal/abi.NoEscape", "internal/bytealg.MakeNoZero"], unfollowed := true, recurses := true, named := ["unicode/utf8.first", "unicode/utf8.acceptRanges", "internal/bytealg.MaxLen", "strconv.ErrSyntax", "strconv.ErrRange", "internal/strconv.uint64pow10", "math/bits.deBruijn32tab", "math/bits.deBruijn64tab"], apart := false, laid := [("math/bits.deBruijn32tab", laid_math_bits_deBruijn32tab), ("math/bits.deBruijn64tab", laid_math_bits_deBruijn64tab), ("internal/strconv.uint64pow10", laid_internal_strconv_uint64pow10), ("unicode/utf8.acceptRanges", laid_unicode_utf8_acceptRanges), ("strconv.ErrRange", laid_strconv_ErrRange), ("strconv.ErrSyntax", laid_strconv_ErrSyntax), ("unicode/utf8.first", laid_unicode_utf8_first)] }
def JournalsCutSaid : Prop := journalsCutRow.holds Tryz.pinned (OpenSpec.ofChange journalsCutSpec)

/-- ITS FALSE NEIGHBOUR: 'it returns false'. Refute it at one input. -/
def journalsCutWrong : ChangeSpec := { name := "journalsCut", fn := fun _ => fun
  | [d1, d2, d3] => { results := [.lit (.bool false)], args := [d1, d2, d3] }
  | _ => none }
def JournalsCutWrongFalsely : Prop := journalsCutRow.holds Tryz.pinned (OpenSpec.ofChange journalsCutWrong)

/-- 'vidimuslaw43.JournalsParse': WHATEVER THE INPUT: true; the input reads as it did. -/
def journalsParseSpec : ChangeSpec := { name := "journalsParse", fn := fun _ => fun
  | [d] => { results := [.lit (.bool true)], args := [d] }
  | _ => none }
def journalsParseRow : OpenClaim := { program := "ytgjlofpfbhioaaagreatdoor", sum := "83ce049018ac2eff832602dee9ff34e46043ecff0fa1670eccecbbc1679d20f3", func := "vidimus/vidimuslaw43.JournalsParse", spec := "journalsParse", inPlace := ["internal/bytealg.IndexByteString", "internal/bytealg.CountString", "internal/bytealg.IndexString", "internal/abi.NoEscape", "internal/bytealg.MakeNoZero"], unfollowed := true, recurses := true, named := ["unicode/utf8.first", "unicode/utf8.acceptRanges", "internal/bytealg.MaxLen", "strconv.ErrSyntax", "strconv.ErrRange", "internal/strconv.uint64pow10", "math/bits.deBruijn32tab", "math/bits.deBruijn64tab"], apart := false, laid := [("math/bits.deBruijn32tab", laid_math_bits_deBruijn32tab), ("math/bits.deBruijn64tab", laid_math_bits_deBruijn64tab), ("internal/strconv.uint64pow10", laid_internal_strconv_uint64pow10), ("unicode/utf8.acceptRanges", laid_unicode_utf8_acceptRanges), ("strconv.ErrRange", laid_strconv_ErrRange), ("strconv.ErrSyntax", laid_strconv_ErrSyntax), ("unicode/utf8.first", laid_unicode_utf8_first)] }
def JournalsParseSaid : Prop := journalsParseRow.holds Tryz.pinned (OpenSpec.ofChange journalsParseSpec)

/-- ITS FALSE NEIGHBOUR: 'it returns false'. Refute it at one input. -/
def journalsParseWrong : ChangeSpec := { name := "journalsParse", fn := fun _ => fun
  | [d] => { results := [.lit (.bool false)], args := [d] }
  | _ => none }
def JournalsParseWrongFalsely : Prop := journalsParseRow.holds Tryz.pinned (OpenSpec.ofChange journalsParseWrong)

/-- 'vidimuslaw43.JournalsCheck': WHATEVER THE INPUT: true; the input reads as it did. -/
def journalsCheckSpec : ChangeSpec := { name := "journalsCheck", fn := fun _ => fun
  | [d] => { results := [.lit (.bool true)], args := [d] }
  | _ => none }
def journalsCheckRow : OpenClaim := { program := "ytgjlofpfbhioaaagreatdoor", sum := "83ce049018ac2eff832602dee9ff34e46043ecff0fa1670eccecbbc1679d20f3", func := "vidimus/vidimuslaw43.JournalsCheck", spec := "journalsCheck", inPlace := ["internal/bytealg.IndexByteString", "internal/bytealg.CountString", "internal/bytealg.IndexString", "internal/abi.NoEscape", "internal/bytealg.MakeNoZero"], unfollowed := true, recurses := true, named := ["unicode/utf8.first", "unicode/utf8.acceptRanges", "internal/bytealg.MaxLen", "strconv.ErrSyntax", "strconv.ErrRange", "internal/strconv.uint64pow10", "math/bits.deBruijn32tab", "math/bits.deBruijn64tab"], apart := false, laid := [("math/bits.deBruijn32tab", laid_math_bits_deBruijn32tab), ("math/bits.deBruijn64tab", laid_math_bits_deBruijn64tab), ("internal/strconv.uint64pow10", laid_internal_strconv_uint64pow10), ("unicode/utf8.acceptRanges", laid_unicode_utf8_acceptRanges), ("strconv.ErrRange", laid_strconv_ErrRange), ("strconv.ErrSyntax", laid_strconv_ErrSyntax), ("unicode/utf8.first", laid_unicode_utf8_first)] }
def JournalsCheckSaid : Prop := journalsCheckRow.holds Tryz.pinned (OpenSpec.ofChange journalsCheckSpec)

/-- ITS FALSE NEIGHBOUR: 'it returns false'. Refute it at one input. -/
def journalsCheckWrong : ChangeSpec := { name := "journalsCheck", fn := fun _ => fun
  | [d] => { results := [.lit (.bool false)], args := [d] }
  | _ => none }
def JournalsCheckWrongFalsely : Prop := journalsCheckRow.holds Tryz.pinned (OpenSpec.ofChange journalsCheckWrong)

/-- 'vidimuslaw43.JournalsReplay': WHATEVER THE INPUT: true; the input reads as it did. -/
def journalsReplaySpec : ChangeSpec := { name := "journalsReplay", fn := fun _ => fun
  | [d] => { results := [.lit (.bool true)], args := [d] }
  | _ => none }
def journalsReplayRow : OpenClaim := { program := "ytgjlofpfbhioaaagreatdoor", sum := "83ce049018ac2eff832602dee9ff34e46043ecff0fa1670eccecbbc1679d20f3", func := "vidimus/vidimuslaw43.JournalsReplay", spec := "journalsReplay", inPlace := ["internal/bytealg.IndexByteString", "internal/bytealg.CountString", "internal/bytealg.IndexString", "internal/abi.NoEscape", "internal/bytealg.MakeNoZero"], unfollowed := true, recurses := true, named := ["unicode/utf8.first", "unicode/utf8.acceptRanges", "internal/bytealg.MaxLen", "strconv.ErrSyntax", "strconv.ErrRange", "internal/strconv.uint64pow10", "math/bits.deBruijn32tab", "math/bits.deBruijn64tab"], apart := false, laid := [("math/bits.deBruijn32tab", laid_math_bits_deBruijn32tab), ("math/bits.deBruijn64tab", laid_math_bits_deBruijn64tab), ("internal/strconv.uint64pow10", laid_internal_strconv_uint64pow10), ("unicode/utf8.acceptRanges", laid_unicode_utf8_acceptRanges), ("strconv.ErrRange", laid_strconv_ErrRange), ("strconv.ErrSyntax", laid_strconv_ErrSyntax), ("unicode/utf8.first", laid_unicode_utf8_first)] }
def JournalsReplaySaid : Prop := journalsReplayRow.holds Tryz.pinned (OpenSpec.ofChange journalsReplaySpec)

/-- ITS FALSE NEIGHBOUR: 'it returns false'. Refute it at one input. -/
def journalsReplayWrong : ChangeSpec := { name := "journalsReplay", fn := fun _ => fun
  | [d] => { results := [.lit (.bool false)], args := [d] }
  | _ => none }
def JournalsReplayWrongFalsely : Prop := journalsReplayRow.holds Tryz.pinned (OpenSpec.ofChange journalsReplayWrong)

/-- 'vidimuslaw43.JournalsKnown': WHATEVER THE INPUT: true; the input reads as it did. -/
def journalsKnownSpec : ChangeSpec := { name := "journalsKnown", fn := fun _ => fun
  | [] => { results := [.lit (.bool true)], args := [] }
  | _ => none }
def journalsKnownRow : OpenClaim := { program := "ytgjlofpfbhioaaagreatdoor", sum := "83ce049018ac2eff832602dee9ff34e46043ecff0fa1670eccecbbc1679d20f3", func := "vidimus/vidimuslaw43.JournalsKnown", spec := "journalsKnown", inPlace := ["internal/bytealg.IndexByteString", "internal/bytealg.CountString", "internal/bytealg.IndexString", "internal/abi.NoEscape", "internal/bytealg.MakeNoZero"], unfollowed := true, recurses := true, named := ["unicode/utf8.first", "unicode/utf8.acceptRanges", "internal/bytealg.MaxLen", "strconv.ErrSyntax", "strconv.ErrRange", "internal/strconv.uint64pow10", "math/bits.deBruijn32tab", "math/bits.deBruijn64tab"], apart := false, laid := [("math/bits.deBruijn32tab", laid_math_bits_deBruijn32tab), ("math/bits.deBruijn64tab", laid_math_bits_deBruijn64tab), ("internal/strconv.uint64pow10", laid_internal_strconv_uint64pow10), ("unicode/utf8.acceptRanges", laid_unicode_utf8_acceptRanges), ("strconv.ErrRange", laid_strconv_ErrRange), ("strconv.ErrSyntax", laid_strconv_ErrSyntax), ("unicode/utf8.first", laid_unicode_utf8_first)] }
def JournalsKnownSaid : Prop := journalsKnownRow.holds Tryz.pinned (OpenSpec.ofChange journalsKnownSpec)

/-- ITS FALSE NEIGHBOUR: 'it returns false'. Refute it at one input. -/
def journalsKnownWrong : ChangeSpec := { name := "journalsKnown", fn := fun _ => fun
  | [] => { results := [.lit (.bool false)], args := [] }
  | _ => none }
def JournalsKnownWrongFalsely : Prop := journalsKnownRow.holds Tryz.pinned (OpenSpec.ofChange journalsKnownWrong)

/- THE SECOND FORM. 'bulk': how many values and letters a reading holds, each counted each time it is reached (what is shared counts as often as it is met; a slice's spare places count too). A statement '..UptoSaid' is the law's where the arguments, and the package variables that the reading takes, are together of bulk at most 1048576: NARROWER than '..Said'. Prove '..Said' where nothing that the law and all that it calls make is longer than what came in: it says more and counts as full. Else prove '..UptoSaid'. A law counts once. -/
mutual
def uptoBulk {H : Type} : DataW H → Nat
  | .lit (.string bytes) => bytes.length + 1
  | .lit _ => 1
  | .nil => 1
  | .ptr d => uptoBulk d + 1
  | .slice elems spare => uptoBulkAll elems + uptoBulkAll spare + 1
  | .agg parts => uptoBulkAll parts + 1
  | .iface _ d => uptoBulk d + 1
  | .map entries => uptoBulkEntries entries + 1
  | .held _ => 1
def uptoBulkAll {H : Type} : List (DataW H) → Nat
  | [] => 0
  | d :: r => uptoBulk d + uptoBulkAll r
def uptoBulkEntries {H : Type} : List (Lit × DataW H) → Nat
  | [] => 0
  | x :: r => uptoBulkEntry x + uptoBulkEntries r
def uptoBulkEntry {H : Type} : Lit × DataW H → Nat
  | (.string bytes, d) => bytes.length + uptoBulk d + 1
  | (_, d) => uptoBulk d + 1
 end
def uptoSmall : (H : Type) → List (DataW H) → Bool := fun _ ds => decide (uptoBulkAll ds ≤ 1048576)
def OpenSpec.upto (s : _root_.Go.ChangeSpec) : _root_.Go.OpenSpec := { _root_.Go.OpenSpec.ofChange s with cond := some uptoSmall }

/-- 'vidimuslaw39.AnchorsInputs', WHERE WHAT IT READS IS OF BULK AT MOST 1048576: true; the input reads as it did. -/
def anchorsInputsUptoRow : OpenClaim := { program := "ytgjlofpfbhioaaagreatdoor", sum := "83ce049018ac2eff832602dee9ff34e46043ecff0fa1670eccecbbc1679d20f3", func := "vidimus/vidimuslaw39.AnchorsInputs", spec := "anchorsInputs", inPlace := ["internal/abi.NoEscape", "internal/bytealg.MakeNoZero", "internal/bytealg.IndexByteString", "internal/bytealg.IndexString", "internal/bytealg.CountString"], unfollowed := true, recurses := true, named := ["vidimus/anchors.words", "internal/strconv.uint64pow10", "math/bits.deBruijn32tab", "math/bits.deBruijn64tab", "internal/bytealg.MaxLen", "unicode/utf8.first", "unicode/utf8.acceptRanges", "strconv.ErrSyntax", "strconv.ErrRange"], apart := false, laid := [("math/bits.deBruijn32tab", laid_math_bits_deBruijn32tab), ("math/bits.deBruijn64tab", laid_math_bits_deBruijn64tab), ("internal/strconv.uint64pow10", laid_internal_strconv_uint64pow10), ("unicode/utf8.acceptRanges", laid_unicode_utf8_acceptRanges), ("strconv.ErrRange", laid_strconv_ErrRange), ("strconv.ErrSyntax", laid_strconv_ErrSyntax), ("vidimus/anchors.words", laid_vidimus_anchors_words), ("unicode/utf8.first", laid_unicode_utf8_first)], narrowed := true }
def AnchorsInputsUptoSaid : Prop := anchorsInputsUptoRow.holds Tryz.pinned (OpenSpec.upto anchorsInputsSpec)

/-- 'vidimuslaw39.AnchorsBack', WHERE WHAT IT READS IS OF BULK AT MOST 1048576: true; the input reads as it did. -/
def anchorsBackUptoRow : OpenClaim := { program := "ytgjlofpfbhioaaagreatdoor", sum := "83ce049018ac2eff832602dee9ff34e46043ecff0fa1670eccecbbc1679d20f3", func := "vidimus/vidimuslaw39.AnchorsBack", spec := "anchorsBack", inPlace := ["internal/abi.NoEscape", "internal/bytealg.MakeNoZero", "internal/bytealg.IndexByteString", "internal/bytealg.IndexString", "internal/bytealg.CountString"], unfollowed := true, recurses := true, named := ["vidimus/anchors.words", "internal/strconv.uint64pow10", "math/bits.deBruijn32tab", "math/bits.deBruijn64tab", "internal/bytealg.MaxLen", "unicode/utf8.first", "unicode/utf8.acceptRanges", "strconv.ErrSyntax", "strconv.ErrRange"], apart := false, laid := [("math/bits.deBruijn32tab", laid_math_bits_deBruijn32tab), ("math/bits.deBruijn64tab", laid_math_bits_deBruijn64tab), ("internal/strconv.uint64pow10", laid_internal_strconv_uint64pow10), ("unicode/utf8.acceptRanges", laid_unicode_utf8_acceptRanges), ("strconv.ErrRange", laid_strconv_ErrRange), ("strconv.ErrSyntax", laid_strconv_ErrSyntax), ("vidimus/anchors.words", laid_vidimus_anchors_words), ("unicode/utf8.first", laid_unicode_utf8_first)], narrowed := true }
def AnchorsBackUptoSaid : Prop := anchorsBackUptoRow.holds Tryz.pinned (OpenSpec.upto anchorsBackSpec)

/-- 'vidimuslaw39.AnchorsParse', WHERE WHAT IT READS IS OF BULK AT MOST 1048576: true; the input reads as it did. -/
def anchorsParseUptoRow : OpenClaim := { program := "ytgjlofpfbhioaaagreatdoor", sum := "83ce049018ac2eff832602dee9ff34e46043ecff0fa1670eccecbbc1679d20f3", func := "vidimus/vidimuslaw39.AnchorsParse", spec := "anchorsParse", inPlace := ["internal/abi.NoEscape", "internal/bytealg.MakeNoZero", "internal/bytealg.IndexByteString", "internal/bytealg.IndexString", "internal/bytealg.CountString"], unfollowed := true, recurses := true, named := ["vidimus/anchors.words", "internal/strconv.uint64pow10", "math/bits.deBruijn32tab", "math/bits.deBruijn64tab", "internal/bytealg.MaxLen", "unicode/utf8.first", "unicode/utf8.acceptRanges", "strconv.ErrSyntax", "strconv.ErrRange"], apart := false, laid := [("math/bits.deBruijn32tab", laid_math_bits_deBruijn32tab), ("math/bits.deBruijn64tab", laid_math_bits_deBruijn64tab), ("internal/strconv.uint64pow10", laid_internal_strconv_uint64pow10), ("unicode/utf8.acceptRanges", laid_unicode_utf8_acceptRanges), ("strconv.ErrRange", laid_strconv_ErrRange), ("strconv.ErrSyntax", laid_strconv_ErrSyntax), ("vidimus/anchors.words", laid_vidimus_anchors_words), ("unicode/utf8.first", laid_unicode_utf8_first)], narrowed := true }
def AnchorsParseUptoSaid : Prop := anchorsParseUptoRow.holds Tryz.pinned (OpenSpec.upto anchorsParseSpec)

/-- 'vidimuslaw39.AnchorsFaults', WHERE WHAT IT READS IS OF BULK AT MOST 1048576: true; the input reads as it did. -/
def anchorsFaultsUptoRow : OpenClaim := { program := "ytgjlofpfbhioaaagreatdoor", sum := "83ce049018ac2eff832602dee9ff34e46043ecff0fa1670eccecbbc1679d20f3", func := "vidimus/vidimuslaw39.AnchorsFaults", spec := "anchorsFaults", inPlace := ["internal/abi.NoEscape", "internal/bytealg.MakeNoZero", "internal/bytealg.IndexByteString", "internal/bytealg.IndexString", "internal/bytealg.CountString"], unfollowed := true, recurses := true, named := ["vidimus/anchors.words", "internal/strconv.uint64pow10", "math/bits.deBruijn32tab", "math/bits.deBruijn64tab", "internal/bytealg.MaxLen", "unicode/utf8.first", "unicode/utf8.acceptRanges", "strconv.ErrSyntax", "strconv.ErrRange"], apart := false, laid := [("math/bits.deBruijn32tab", laid_math_bits_deBruijn32tab), ("math/bits.deBruijn64tab", laid_math_bits_deBruijn64tab), ("internal/strconv.uint64pow10", laid_internal_strconv_uint64pow10), ("unicode/utf8.acceptRanges", laid_unicode_utf8_acceptRanges), ("strconv.ErrRange", laid_strconv_ErrRange), ("strconv.ErrSyntax", laid_strconv_ErrSyntax), ("vidimus/anchors.words", laid_vidimus_anchors_words), ("unicode/utf8.first", laid_unicode_utf8_first)], narrowed := true }
def AnchorsFaultsUptoSaid : Prop := anchorsFaultsUptoRow.holds Tryz.pinned (OpenSpec.upto anchorsFaultsSpec)

/-- 'vidimuslaw39.AnchorsKnown', WHERE WHAT IT READS IS OF BULK AT MOST 1048576: true; the input reads as it did. -/
def anchorsKnownUptoRow : OpenClaim := { program := "ytgjlofpfbhioaaagreatdoor", sum := "83ce049018ac2eff832602dee9ff34e46043ecff0fa1670eccecbbc1679d20f3", func := "vidimus/vidimuslaw39.AnchorsKnown", spec := "anchorsKnown", inPlace := ["internal/bytealg.IndexByteString", "internal/bytealg.IndexString", "internal/bytealg.CountString", "internal/abi.NoEscape", "internal/bytealg.MakeNoZero"], unfollowed := true, recurses := true, named := ["internal/bytealg.MaxLen", "unicode/utf8.first", "unicode/utf8.acceptRanges", "strconv.ErrSyntax", "strconv.ErrRange", "internal/strconv.uint64pow10", "math/bits.deBruijn32tab", "math/bits.deBruijn64tab", "vidimus/anchors.words"], apart := false, laid := [("math/bits.deBruijn32tab", laid_math_bits_deBruijn32tab), ("math/bits.deBruijn64tab", laid_math_bits_deBruijn64tab), ("internal/strconv.uint64pow10", laid_internal_strconv_uint64pow10), ("unicode/utf8.acceptRanges", laid_unicode_utf8_acceptRanges), ("strconv.ErrRange", laid_strconv_ErrRange), ("strconv.ErrSyntax", laid_strconv_ErrSyntax), ("vidimus/anchors.words", laid_vidimus_anchors_words), ("unicode/utf8.first", laid_unicode_utf8_first)], narrowed := true }
def AnchorsKnownUptoSaid : Prop := anchorsKnownUptoRow.holds Tryz.pinned (OpenSpec.upto anchorsKnownSpec)

/-- 'vidimuslaw43.JournalsBack', WHERE WHAT IT READS IS OF BULK AT MOST 1048576: true; the input reads as it did. -/
def journalsBackUptoRow : OpenClaim := { program := "ytgjlofpfbhioaaagreatdoor", sum := "83ce049018ac2eff832602dee9ff34e46043ecff0fa1670eccecbbc1679d20f3", func := "vidimus/vidimuslaw43.JournalsBack", spec := "journalsBack", inPlace := ["internal/bytealg.IndexByteString", "internal/bytealg.CountString", "internal/bytealg.IndexString", "internal/abi.NoEscape", "internal/bytealg.MakeNoZero"], unfollowed := true, recurses := true, named := ["unicode/utf8.first", "unicode/utf8.acceptRanges", "internal/bytealg.MaxLen", "strconv.ErrSyntax", "strconv.ErrRange", "internal/strconv.uint64pow10", "math/bits.deBruijn32tab", "math/bits.deBruijn64tab"], apart := false, laid := [("math/bits.deBruijn32tab", laid_math_bits_deBruijn32tab), ("math/bits.deBruijn64tab", laid_math_bits_deBruijn64tab), ("internal/strconv.uint64pow10", laid_internal_strconv_uint64pow10), ("unicode/utf8.acceptRanges", laid_unicode_utf8_acceptRanges), ("strconv.ErrRange", laid_strconv_ErrRange), ("strconv.ErrSyntax", laid_strconv_ErrSyntax), ("unicode/utf8.first", laid_unicode_utf8_first)], narrowed := true }
def JournalsBackUptoSaid : Prop := journalsBackUptoRow.holds Tryz.pinned (OpenSpec.upto journalsBackSpec)

/-- 'vidimuslaw43.JournalsChanged', WHERE WHAT IT READS IS OF BULK AT MOST 1048576: true; the input reads as it did. -/
def journalsChangedUptoRow : OpenClaim := { program := "ytgjlofpfbhioaaagreatdoor", sum := "83ce049018ac2eff832602dee9ff34e46043ecff0fa1670eccecbbc1679d20f3", func := "vidimus/vidimuslaw43.JournalsChanged", spec := "journalsChanged", inPlace := ["internal/bytealg.IndexByteString", "internal/bytealg.CountString", "internal/bytealg.IndexString", "internal/abi.NoEscape", "internal/bytealg.MakeNoZero"], unfollowed := true, recurses := true, named := ["unicode/utf8.first", "unicode/utf8.acceptRanges", "internal/bytealg.MaxLen", "strconv.ErrSyntax", "strconv.ErrRange", "internal/strconv.uint64pow10", "math/bits.deBruijn32tab", "math/bits.deBruijn64tab"], apart := false, laid := [("math/bits.deBruijn32tab", laid_math_bits_deBruijn32tab), ("math/bits.deBruijn64tab", laid_math_bits_deBruijn64tab), ("internal/strconv.uint64pow10", laid_internal_strconv_uint64pow10), ("unicode/utf8.acceptRanges", laid_unicode_utf8_acceptRanges), ("strconv.ErrRange", laid_strconv_ErrRange), ("strconv.ErrSyntax", laid_strconv_ErrSyntax), ("unicode/utf8.first", laid_unicode_utf8_first)], narrowed := true }
def JournalsChangedUptoSaid : Prop := journalsChangedUptoRow.holds Tryz.pinned (OpenSpec.upto journalsChangedSpec)

/-- 'vidimuslaw39.AnchorsCheck', WHERE WHAT IT READS IS OF BULK AT MOST 1048576: true; the input reads as it did. -/
def anchorsCheckUptoRow : OpenClaim := { program := "ytgjlofpfbhioaaagreatdoor", sum := "83ce049018ac2eff832602dee9ff34e46043ecff0fa1670eccecbbc1679d20f3", func := "vidimus/vidimuslaw39.AnchorsCheck", spec := "anchorsCheck", inPlace := ["internal/abi.NoEscape", "internal/bytealg.MakeNoZero", "internal/bytealg.IndexByteString", "internal/bytealg.IndexString", "internal/bytealg.CountString"], unfollowed := true, recurses := true, named := ["vidimus/anchors.words", "internal/strconv.uint64pow10", "math/bits.deBruijn32tab", "math/bits.deBruijn64tab", "internal/bytealg.MaxLen", "unicode/utf8.first", "unicode/utf8.acceptRanges", "strconv.ErrSyntax", "strconv.ErrRange"], apart := false, laid := [("math/bits.deBruijn32tab", laid_math_bits_deBruijn32tab), ("math/bits.deBruijn64tab", laid_math_bits_deBruijn64tab), ("internal/strconv.uint64pow10", laid_internal_strconv_uint64pow10), ("unicode/utf8.acceptRanges", laid_unicode_utf8_acceptRanges), ("strconv.ErrRange", laid_strconv_ErrRange), ("strconv.ErrSyntax", laid_strconv_ErrSyntax), ("vidimus/anchors.words", laid_vidimus_anchors_words), ("unicode/utf8.first", laid_unicode_utf8_first)], narrowed := true }
def AnchorsCheckUptoSaid : Prop := anchorsCheckUptoRow.holds Tryz.pinned (OpenSpec.upto anchorsCheckSpec)

/-- 'vidimuslaw43.JournalsCut', WHERE WHAT IT READS IS OF BULK AT MOST 1048576: true; the input reads as it did. -/
def journalsCutUptoRow : OpenClaim := { program := "ytgjlofpfbhioaaagreatdoor", sum := "83ce049018ac2eff832602dee9ff34e46043ecff0fa1670eccecbbc1679d20f3", func := "vidimus/vidimuslaw43.JournalsCut", spec := "journalsCut", inPlace := ["internal/bytealg.IndexByteString", "internal/bytealg.CountString", "internal/bytealg.IndexString", "internal/abi.NoEscape", "internal/bytealg.MakeNoZero"], unfollowed := true, recurses := true, named := ["unicode/utf8.first", "unicode/utf8.acceptRanges", "internal/bytealg.MaxLen", "strconv.ErrSyntax", "strconv.ErrRange", "internal/strconv.uint64pow10", "math/bits.deBruijn32tab", "math/bits.deBruijn64tab"], apart := false, laid := [("math/bits.deBruijn32tab", laid_math_bits_deBruijn32tab), ("math/bits.deBruijn64tab", laid_math_bits_deBruijn64tab), ("internal/strconv.uint64pow10", laid_internal_strconv_uint64pow10), ("unicode/utf8.acceptRanges", laid_unicode_utf8_acceptRanges), ("strconv.ErrRange", laid_strconv_ErrRange), ("strconv.ErrSyntax", laid_strconv_ErrSyntax), ("unicode/utf8.first", laid_unicode_utf8_first)], narrowed := true }
def JournalsCutUptoSaid : Prop := journalsCutUptoRow.holds Tryz.pinned (OpenSpec.upto journalsCutSpec)

/-- 'vidimuslaw43.JournalsParse', WHERE WHAT IT READS IS OF BULK AT MOST 1048576: true; the input reads as it did. -/
def journalsParseUptoRow : OpenClaim := { program := "ytgjlofpfbhioaaagreatdoor", sum := "83ce049018ac2eff832602dee9ff34e46043ecff0fa1670eccecbbc1679d20f3", func := "vidimus/vidimuslaw43.JournalsParse", spec := "journalsParse", inPlace := ["internal/bytealg.IndexByteString", "internal/bytealg.CountString", "internal/bytealg.IndexString", "internal/abi.NoEscape", "internal/bytealg.MakeNoZero"], unfollowed := true, recurses := true, named := ["unicode/utf8.first", "unicode/utf8.acceptRanges", "internal/bytealg.MaxLen", "strconv.ErrSyntax", "strconv.ErrRange", "internal/strconv.uint64pow10", "math/bits.deBruijn32tab", "math/bits.deBruijn64tab"], apart := false, laid := [("math/bits.deBruijn32tab", laid_math_bits_deBruijn32tab), ("math/bits.deBruijn64tab", laid_math_bits_deBruijn64tab), ("internal/strconv.uint64pow10", laid_internal_strconv_uint64pow10), ("unicode/utf8.acceptRanges", laid_unicode_utf8_acceptRanges), ("strconv.ErrRange", laid_strconv_ErrRange), ("strconv.ErrSyntax", laid_strconv_ErrSyntax), ("unicode/utf8.first", laid_unicode_utf8_first)], narrowed := true }
def JournalsParseUptoSaid : Prop := journalsParseUptoRow.holds Tryz.pinned (OpenSpec.upto journalsParseSpec)

/-- 'vidimuslaw43.JournalsCheck', WHERE WHAT IT READS IS OF BULK AT MOST 1048576: true; the input reads as it did. -/
def journalsCheckUptoRow : OpenClaim := { program := "ytgjlofpfbhioaaagreatdoor", sum := "83ce049018ac2eff832602dee9ff34e46043ecff0fa1670eccecbbc1679d20f3", func := "vidimus/vidimuslaw43.JournalsCheck", spec := "journalsCheck", inPlace := ["internal/bytealg.IndexByteString", "internal/bytealg.CountString", "internal/bytealg.IndexString", "internal/abi.NoEscape", "internal/bytealg.MakeNoZero"], unfollowed := true, recurses := true, named := ["unicode/utf8.first", "unicode/utf8.acceptRanges", "internal/bytealg.MaxLen", "strconv.ErrSyntax", "strconv.ErrRange", "internal/strconv.uint64pow10", "math/bits.deBruijn32tab", "math/bits.deBruijn64tab"], apart := false, laid := [("math/bits.deBruijn32tab", laid_math_bits_deBruijn32tab), ("math/bits.deBruijn64tab", laid_math_bits_deBruijn64tab), ("internal/strconv.uint64pow10", laid_internal_strconv_uint64pow10), ("unicode/utf8.acceptRanges", laid_unicode_utf8_acceptRanges), ("strconv.ErrRange", laid_strconv_ErrRange), ("strconv.ErrSyntax", laid_strconv_ErrSyntax), ("unicode/utf8.first", laid_unicode_utf8_first)], narrowed := true }
def JournalsCheckUptoSaid : Prop := journalsCheckUptoRow.holds Tryz.pinned (OpenSpec.upto journalsCheckSpec)

/-- 'vidimuslaw43.JournalsReplay', WHERE WHAT IT READS IS OF BULK AT MOST 1048576: true; the input reads as it did. -/
def journalsReplayUptoRow : OpenClaim := { program := "ytgjlofpfbhioaaagreatdoor", sum := "83ce049018ac2eff832602dee9ff34e46043ecff0fa1670eccecbbc1679d20f3", func := "vidimus/vidimuslaw43.JournalsReplay", spec := "journalsReplay", inPlace := ["internal/bytealg.IndexByteString", "internal/bytealg.CountString", "internal/bytealg.IndexString", "internal/abi.NoEscape", "internal/bytealg.MakeNoZero"], unfollowed := true, recurses := true, named := ["unicode/utf8.first", "unicode/utf8.acceptRanges", "internal/bytealg.MaxLen", "strconv.ErrSyntax", "strconv.ErrRange", "internal/strconv.uint64pow10", "math/bits.deBruijn32tab", "math/bits.deBruijn64tab"], apart := false, laid := [("math/bits.deBruijn32tab", laid_math_bits_deBruijn32tab), ("math/bits.deBruijn64tab", laid_math_bits_deBruijn64tab), ("internal/strconv.uint64pow10", laid_internal_strconv_uint64pow10), ("unicode/utf8.acceptRanges", laid_unicode_utf8_acceptRanges), ("strconv.ErrRange", laid_strconv_ErrRange), ("strconv.ErrSyntax", laid_strconv_ErrSyntax), ("unicode/utf8.first", laid_unicode_utf8_first)], narrowed := true }
def JournalsReplayUptoSaid : Prop := journalsReplayUptoRow.holds Tryz.pinned (OpenSpec.upto journalsReplaySpec)

/-- 'vidimuslaw43.JournalsKnown', WHERE WHAT IT READS IS OF BULK AT MOST 1048576: true; the input reads as it did. -/
def journalsKnownUptoRow : OpenClaim := { program := "ytgjlofpfbhioaaagreatdoor", sum := "83ce049018ac2eff832602dee9ff34e46043ecff0fa1670eccecbbc1679d20f3", func := "vidimus/vidimuslaw43.JournalsKnown", spec := "journalsKnown", inPlace := ["internal/bytealg.IndexByteString", "internal/bytealg.CountString", "internal/bytealg.IndexString", "internal/abi.NoEscape", "internal/bytealg.MakeNoZero"], unfollowed := true, recurses := true, named := ["unicode/utf8.first", "unicode/utf8.acceptRanges", "internal/bytealg.MaxLen", "strconv.ErrSyntax", "strconv.ErrRange", "internal/strconv.uint64pow10", "math/bits.deBruijn32tab", "math/bits.deBruijn64tab"], apart := false, laid := [("math/bits.deBruijn32tab", laid_math_bits_deBruijn32tab), ("math/bits.deBruijn64tab", laid_math_bits_deBruijn64tab), ("internal/strconv.uint64pow10", laid_internal_strconv_uint64pow10), ("unicode/utf8.acceptRanges", laid_unicode_utf8_acceptRanges), ("strconv.ErrRange", laid_strconv_ErrRange), ("strconv.ErrSyntax", laid_strconv_ErrSyntax), ("unicode/utf8.first", laid_unicode_utf8_first)], narrowed := true }
def JournalsKnownUptoSaid : Prop := journalsKnownUptoRow.holds Tryz.pinned (OpenSpec.upto journalsKnownSpec)

end Rows
end Go.Proofs.YtgjlofpfbhioaaaGreatDoor
