/-
  NARROWER THAN 'FOR EVERY INPUT', by the rows' own cells (each row's printed sentence says how): FamiliesWide: laid · FamiliesLong: laid · FamiliesLevels: laid · FamiliesSizes: laid · FamiliesKnown: laid · FamiliesPolicy: laid.
  DERIVED. THE GIVEN ROWS OF THIS SEAT. 6 by the template 'for every input the law returns true; each argument reads behind the call as it read before'; 0 by the template 'total and deterministic' (their statements: YtcilepbdddgpoaaDoorTotals.lean).
  GIVEN WITH THE SEED: the statements are not yours to turn. If you find one false, say at which input.
  Laid BY PROGRAM, IN A SANDBOX (cutbox-rows.mjs): the forced cells as the released guide's own fill.sh prints them over the translation d0ce6cf6b449bcaa… (all of the seat's roots in one cut). By AI agents, Wed Nov 11 2026. No macro, syntax, notation, axiom, sorry.
-/
import Derived.Test.YtcilepbdddgpoaaDoorChecked
import GoSem.Claim
import GoSem.ClaimJoined
import GoSem.ClaimMapViews
import Derived.JoinedTies
import Derived.KernelRfl
namespace Go.Proofs.YtcilepbdddgpoaaDoor
/- THE CELL 'sum', in the pinned program and in every row, IS THE sha256 OF THE DUMP (.gsa) THAT YtcilepbdddgpoaaDoorProg.lean LOADS. Nothing in Lean hashes anything: it is a label: what it is worth is what the hold of that sum in a sandbox is worth. -/
noncomputable def Tryd.pinned : Pinned := { name := "ytcilepbdddgpoaadoor", sum := "d0ce6cf6b449bcaa43d3d77fe6035cac5fb8aa7335c7905a53a6a561fe31cb91", checked := Tryd.checked }
namespace Rows
def none {H : Type} : Left H := { results := [], args := [] }

/- WHAT THE LISTED PACKAGE-LEVEL VARIABLES READ AS WHEN THE CALL BEGINS. Each datum BY PROGRAM (the guide's laid-datum.mjs) off the statement by which the dump's own 'gosem.cut.vars' lays the variable. In a bare row this is a premise. The card (YtcilepbdddgpoaaDoorCards.lean) ties it to the program's text. -/
def laid_math_bits_deBruijn32tab {H : Type} : DataW H := .agg [.lit (.int .u8 0), .lit (.int .u8 1), .lit (.int .u8 28), .lit (.int .u8 2), .lit (.int .u8 29), .lit (.int .u8 14), .lit (.int .u8 24), .lit (.int .u8 3), .lit (.int .u8 30), .lit (.int .u8 22), .lit (.int .u8 20), .lit (.int .u8 15), .lit (.int .u8 25), .lit (.int .u8 17), .lit (.int .u8 4), .lit (.int .u8 8), .lit (.int .u8 31), .lit (.int .u8 27), .lit (.int .u8 13), .lit (.int .u8 23), .lit (.int .u8 21), .lit (.int .u8 19), .lit (.int .u8 16), .lit (.int .u8 7), .lit (.int .u8 26), .lit (.int .u8 12), .lit (.int .u8 18), .lit (.int .u8 6), .lit (.int .u8 11), .lit (.int .u8 5), .lit (.int .u8 10), .lit (.int .u8 9)]
def laid_math_bits_deBruijn64tab {H : Type} : DataW H := .agg [.lit (.int .u8 0), .lit (.int .u8 1), .lit (.int .u8 56), .lit (.int .u8 2), .lit (.int .u8 57), .lit (.int .u8 49), .lit (.int .u8 28), .lit (.int .u8 3), .lit (.int .u8 61), .lit (.int .u8 58), .lit (.int .u8 42), .lit (.int .u8 50), .lit (.int .u8 38), .lit (.int .u8 29), .lit (.int .u8 17), .lit (.int .u8 4), .lit (.int .u8 62), .lit (.int .u8 47), .lit (.int .u8 59), .lit (.int .u8 36), .lit (.int .u8 45), .lit (.int .u8 43), .lit (.int .u8 51), .lit (.int .u8 22), .lit (.int .u8 53), .lit (.int .u8 39), .lit (.int .u8 33), .lit (.int .u8 30), .lit (.int .u8 24), .lit (.int .u8 18), .lit (.int .u8 12), .lit (.int .u8 5), .lit (.int .u8 63), .lit (.int .u8 55), .lit (.int .u8 48), .lit (.int .u8 27), .lit (.int .u8 60), .lit (.int .u8 41), .lit (.int .u8 37), .lit (.int .u8 16), .lit (.int .u8 46), .lit (.int .u8 35), .lit (.int .u8 44), .lit (.int .u8 21), .lit (.int .u8 52), .lit (.int .u8 32), .lit (.int .u8 23), .lit (.int .u8 11), .lit (.int .u8 54), .lit (.int .u8 26), .lit (.int .u8 40), .lit (.int .u8 15), .lit (.int .u8 34), .lit (.int .u8 20), .lit (.int .u8 31), .lit (.int .u8 10), .lit (.int .u8 25), .lit (.int .u8 14), .lit (.int .u8 19), .lit (.int .u8 9), .lit (.int .u8 13), .lit (.int .u8 8), .lit (.int .u8 7), .lit (.int .u8 6)]
def laid_internal_strconv_uint64pow10 {H : Type} : DataW H := .agg [.lit (.int .u64 1), .lit (.int .u64 10), .lit (.int .u64 100), .lit (.int .u64 1000), .lit (.int .u64 10000), .lit (.int .u64 100000), .lit (.int .u64 1000000), .lit (.int .u64 10000000), .lit (.int .u64 100000000), .lit (.int .u64 1000000000), .lit (.int .u64 10000000000), .lit (.int .u64 100000000000), .lit (.int .u64 1000000000000), .lit (.int .u64 10000000000000), .lit (.int .u64 100000000000000), .lit (.int .u64 1000000000000000), .lit (.int .u64 10000000000000000), .lit (.int .u64 100000000000000000), .lit (.int .u64 1000000000000000000), .lit (.int .u64 10000000000000000000)]

/-- 'vidimuslaw35.FamiliesWide': WHATEVER THE INPUT: true; the input reads as it did. -/
def familiesWideSpec : ChangeSpec := { name := "familiesWide", fn := fun _ => fun
  | [d1, d2] => { results := [.lit (.bool true)], args := [d1, d2] }
  | _ => none }
def familiesWideRow : OpenClaim := { program := "ytcilepbdddgpoaadoor", sum := "d0ce6cf6b449bcaa43d3d77fe6035cac5fb8aa7335c7905a53a6a561fe31cb91", func := "vidimus/vidimuslaw35.FamiliesWide", spec := "familiesWide", inPlace := ["internal/abi.NoEscape", "internal/bytealg.MakeNoZero"], named := ["internal/strconv.uint64pow10", "math/bits.deBruijn32tab", "math/bits.deBruijn64tab"], apart := false, laid := [("math/bits.deBruijn32tab", laid_math_bits_deBruijn32tab), ("math/bits.deBruijn64tab", laid_math_bits_deBruijn64tab), ("internal/strconv.uint64pow10", laid_internal_strconv_uint64pow10)] }
def FamiliesWideSaid : Prop := familiesWideRow.holds Tryd.pinned (OpenSpec.ofChange familiesWideSpec)

/-- ITS FALSE NEIGHBOUR: 'it returns false'. Refute it at one input. -/
def familiesWideWrong : ChangeSpec := { name := "familiesWide", fn := fun _ => fun
  | [d1, d2] => { results := [.lit (.bool false)], args := [d1, d2] }
  | _ => none }
def FamiliesWideWrongFalsely : Prop := familiesWideRow.holds Tryd.pinned (OpenSpec.ofChange familiesWideWrong)

/-- 'vidimuslaw35.FamiliesLong': WHATEVER THE INPUT: true; the input reads as it did. -/
def familiesLongSpec : ChangeSpec := { name := "familiesLong", fn := fun _ => fun
  | [d] => { results := [.lit (.bool true)], args := [d] }
  | _ => none }
def familiesLongRow : OpenClaim := { program := "ytcilepbdddgpoaadoor", sum := "d0ce6cf6b449bcaa43d3d77fe6035cac5fb8aa7335c7905a53a6a561fe31cb91", func := "vidimus/vidimuslaw35.FamiliesLong", spec := "familiesLong", inPlace := ["internal/abi.NoEscape", "internal/bytealg.MakeNoZero"], named := ["internal/strconv.uint64pow10", "math/bits.deBruijn32tab", "math/bits.deBruijn64tab"], apart := false, laid := [("math/bits.deBruijn32tab", laid_math_bits_deBruijn32tab), ("math/bits.deBruijn64tab", laid_math_bits_deBruijn64tab), ("internal/strconv.uint64pow10", laid_internal_strconv_uint64pow10)] }
def FamiliesLongSaid : Prop := familiesLongRow.holds Tryd.pinned (OpenSpec.ofChange familiesLongSpec)

/-- ITS FALSE NEIGHBOUR: 'it returns false'. Refute it at one input. -/
def familiesLongWrong : ChangeSpec := { name := "familiesLong", fn := fun _ => fun
  | [d] => { results := [.lit (.bool false)], args := [d] }
  | _ => none }
def FamiliesLongWrongFalsely : Prop := familiesLongRow.holds Tryd.pinned (OpenSpec.ofChange familiesLongWrong)

/-- 'vidimuslaw35.FamiliesLevels': WHATEVER THE INPUT: true; the input reads as it did. -/
def familiesLevelsSpec : ChangeSpec := { name := "familiesLevels", fn := fun _ => fun
  | [d1, d2, d3] => { results := [.lit (.bool true)], args := [d1, d2, d3] }
  | _ => none }
def familiesLevelsRow : OpenClaim := { program := "ytcilepbdddgpoaadoor", sum := "d0ce6cf6b449bcaa43d3d77fe6035cac5fb8aa7335c7905a53a6a561fe31cb91", func := "vidimus/vidimuslaw35.FamiliesLevels", spec := "familiesLevels", inPlace := ["internal/abi.NoEscape", "internal/bytealg.MakeNoZero"], named := ["internal/strconv.uint64pow10", "math/bits.deBruijn32tab", "math/bits.deBruijn64tab"], apart := false, laid := [("math/bits.deBruijn32tab", laid_math_bits_deBruijn32tab), ("math/bits.deBruijn64tab", laid_math_bits_deBruijn64tab), ("internal/strconv.uint64pow10", laid_internal_strconv_uint64pow10)] }
def FamiliesLevelsSaid : Prop := familiesLevelsRow.holds Tryd.pinned (OpenSpec.ofChange familiesLevelsSpec)

/-- ITS FALSE NEIGHBOUR: 'it returns false'. Refute it at one input. -/
def familiesLevelsWrong : ChangeSpec := { name := "familiesLevels", fn := fun _ => fun
  | [d1, d2, d3] => { results := [.lit (.bool false)], args := [d1, d2, d3] }
  | _ => none }
def FamiliesLevelsWrongFalsely : Prop := familiesLevelsRow.holds Tryd.pinned (OpenSpec.ofChange familiesLevelsWrong)

/-- 'vidimuslaw35.FamiliesSizes': WHATEVER THE INPUT: true; the input reads as it did. -/
def familiesSizesSpec : ChangeSpec := { name := "familiesSizes", fn := fun _ => fun
  | [d1, d2] => { results := [.lit (.bool true)], args := [d1, d2] }
  | _ => none }
def familiesSizesRow : OpenClaim := { program := "ytcilepbdddgpoaadoor", sum := "d0ce6cf6b449bcaa43d3d77fe6035cac5fb8aa7335c7905a53a6a561fe31cb91", func := "vidimus/vidimuslaw35.FamiliesSizes", spec := "familiesSizes", inPlace := ["internal/abi.NoEscape", "internal/bytealg.MakeNoZero"], named := ["internal/strconv.uint64pow10", "math/bits.deBruijn32tab", "math/bits.deBruijn64tab"], apart := false, laid := [("math/bits.deBruijn32tab", laid_math_bits_deBruijn32tab), ("math/bits.deBruijn64tab", laid_math_bits_deBruijn64tab), ("internal/strconv.uint64pow10", laid_internal_strconv_uint64pow10)] }
def FamiliesSizesSaid : Prop := familiesSizesRow.holds Tryd.pinned (OpenSpec.ofChange familiesSizesSpec)

/-- ITS FALSE NEIGHBOUR: 'it returns false'. Refute it at one input. -/
def familiesSizesWrong : ChangeSpec := { name := "familiesSizes", fn := fun _ => fun
  | [d1, d2] => { results := [.lit (.bool false)], args := [d1, d2] }
  | _ => none }
def FamiliesSizesWrongFalsely : Prop := familiesSizesRow.holds Tryd.pinned (OpenSpec.ofChange familiesSizesWrong)

/-- 'vidimuslaw35.FamiliesKnown': WHATEVER THE INPUT: true; the input reads as it did. -/
def familiesKnownSpec : ChangeSpec := { name := "familiesKnown", fn := fun _ => fun
  | [] => { results := [.lit (.bool true)], args := [] }
  | _ => none }
def familiesKnownRow : OpenClaim := { program := "ytcilepbdddgpoaadoor", sum := "d0ce6cf6b449bcaa43d3d77fe6035cac5fb8aa7335c7905a53a6a561fe31cb91", func := "vidimus/vidimuslaw35.FamiliesKnown", spec := "familiesKnown", inPlace := ["internal/abi.NoEscape", "internal/bytealg.MakeNoZero"], named := ["internal/strconv.uint64pow10", "math/bits.deBruijn32tab", "math/bits.deBruijn64tab"], apart := false, laid := [("math/bits.deBruijn32tab", laid_math_bits_deBruijn32tab), ("math/bits.deBruijn64tab", laid_math_bits_deBruijn64tab), ("internal/strconv.uint64pow10", laid_internal_strconv_uint64pow10)] }
def FamiliesKnownSaid : Prop := familiesKnownRow.holds Tryd.pinned (OpenSpec.ofChange familiesKnownSpec)

/-- ITS FALSE NEIGHBOUR: 'it returns false'. Refute it at one input. -/
def familiesKnownWrong : ChangeSpec := { name := "familiesKnown", fn := fun _ => fun
  | [] => { results := [.lit (.bool false)], args := [] }
  | _ => none }
def FamiliesKnownWrongFalsely : Prop := familiesKnownRow.holds Tryd.pinned (OpenSpec.ofChange familiesKnownWrong)

/-- 'vidimuslaw35.FamiliesPolicy': WHATEVER THE INPUT: true; the input reads as it did. -/
def familiesPolicySpec : ChangeSpec := { name := "familiesPolicy", fn := fun _ => fun
  | [d1, d2] => { results := [.lit (.bool true)], args := [d1, d2] }
  | _ => none }
def familiesPolicyRow : OpenClaim := { program := "ytcilepbdddgpoaadoor", sum := "d0ce6cf6b449bcaa43d3d77fe6035cac5fb8aa7335c7905a53a6a561fe31cb91", func := "vidimus/vidimuslaw35.FamiliesPolicy", spec := "familiesPolicy", inPlace := ["internal/abi.NoEscape", "internal/bytealg.MakeNoZero"], named := ["internal/strconv.uint64pow10", "math/bits.deBruijn32tab", "math/bits.deBruijn64tab"], apart := false, laid := [("math/bits.deBruijn32tab", laid_math_bits_deBruijn32tab), ("math/bits.deBruijn64tab", laid_math_bits_deBruijn64tab), ("internal/strconv.uint64pow10", laid_internal_strconv_uint64pow10)] }
def FamiliesPolicySaid : Prop := familiesPolicyRow.holds Tryd.pinned (OpenSpec.ofChange familiesPolicySpec)

/-- ITS FALSE NEIGHBOUR: 'it returns false'. Refute it at one input. -/
def familiesPolicyWrong : ChangeSpec := { name := "familiesPolicy", fn := fun _ => fun
  | [d1, d2] => { results := [.lit (.bool false)], args := [d1, d2] }
  | _ => none }
def FamiliesPolicyWrongFalsely : Prop := familiesPolicyRow.holds Tryd.pinned (OpenSpec.ofChange familiesPolicyWrong)

/- THE SECOND FORM. 'bulk': how many values and letters a reading holds, each counted each time it is reached (what is shared counts as often as it is met; a slice's spare places count too). A statement '..UptoSaid' is the law's where the arguments, and the package variables that the reading takes, are together of bulk at most 1048576: NARROWER than '..Said'. Prove '..Said' where nothing that the law and all that it calls make is longer than what came in: it says more and counts as full. Else prove '..UptoSaid'. A law counts once. -/
mutual
def uptoBulk {H : Type} : DataW H → Nat
  | .lit (.string bytes) => bytes.length + 1
  | .lit _ => 1
  | .nil => 1
  | .ptr d => uptoBulk d + 1
  | .slice elems spare => uptoBulkAll elems + uptoBulkAll spare + 1
  | .agg parts => uptoBulkAll parts + 1
  | .iface _ d => uptoBulk d + 1
  | .map entries => uptoBulkEntries entries + 1
  | .held _ => 1
def uptoBulkAll {H : Type} : List (DataW H) → Nat
  | [] => 0
  | d :: r => uptoBulk d + uptoBulkAll r
def uptoBulkEntries {H : Type} : List (Lit × DataW H) → Nat
  | [] => 0
  | x :: r => uptoBulkEntry x + uptoBulkEntries r
def uptoBulkEntry {H : Type} : Lit × DataW H → Nat
  | (.string bytes, d) => bytes.length + uptoBulk d + 1
  | (_, d) => uptoBulk d + 1
 end
def uptoSmall : (H : Type) → List (DataW H) → Bool := fun _ ds => decide (uptoBulkAll ds ≤ 1048576)
def OpenSpec.upto (s : _root_.Go.ChangeSpec) : _root_.Go.OpenSpec := { _root_.Go.OpenSpec.ofChange s with cond := some uptoSmall }

/-- 'vidimuslaw35.FamiliesWide', WHERE WHAT IT READS IS OF BULK AT MOST 1048576: true; the input reads as it did. -/
def familiesWideUptoRow : OpenClaim := { program := "ytcilepbdddgpoaadoor", sum := "d0ce6cf6b449bcaa43d3d77fe6035cac5fb8aa7335c7905a53a6a561fe31cb91", func := "vidimus/vidimuslaw35.FamiliesWide", spec := "familiesWide", inPlace := ["internal/abi.NoEscape", "internal/bytealg.MakeNoZero"], named := ["internal/strconv.uint64pow10", "math/bits.deBruijn32tab", "math/bits.deBruijn64tab"], apart := false, laid := [("math/bits.deBruijn32tab", laid_math_bits_deBruijn32tab), ("math/bits.deBruijn64tab", laid_math_bits_deBruijn64tab), ("internal/strconv.uint64pow10", laid_internal_strconv_uint64pow10)], narrowed := true }
def FamiliesWideUptoSaid : Prop := familiesWideUptoRow.holds Tryd.pinned (OpenSpec.upto familiesWideSpec)

/-- 'vidimuslaw35.FamiliesLong', WHERE WHAT IT READS IS OF BULK AT MOST 1048576: true; the input reads as it did. -/
def familiesLongUptoRow : OpenClaim := { program := "ytcilepbdddgpoaadoor", sum := "d0ce6cf6b449bcaa43d3d77fe6035cac5fb8aa7335c7905a53a6a561fe31cb91", func := "vidimus/vidimuslaw35.FamiliesLong", spec := "familiesLong", inPlace := ["internal/abi.NoEscape", "internal/bytealg.MakeNoZero"], named := ["internal/strconv.uint64pow10", "math/bits.deBruijn32tab", "math/bits.deBruijn64tab"], apart := false, laid := [("math/bits.deBruijn32tab", laid_math_bits_deBruijn32tab), ("math/bits.deBruijn64tab", laid_math_bits_deBruijn64tab), ("internal/strconv.uint64pow10", laid_internal_strconv_uint64pow10)], narrowed := true }
def FamiliesLongUptoSaid : Prop := familiesLongUptoRow.holds Tryd.pinned (OpenSpec.upto familiesLongSpec)

/-- 'vidimuslaw35.FamiliesLevels', WHERE WHAT IT READS IS OF BULK AT MOST 1048576: true; the input reads as it did. -/
def familiesLevelsUptoRow : OpenClaim := { program := "ytcilepbdddgpoaadoor", sum := "d0ce6cf6b449bcaa43d3d77fe6035cac5fb8aa7335c7905a53a6a561fe31cb91", func := "vidimus/vidimuslaw35.FamiliesLevels", spec := "familiesLevels", inPlace := ["internal/abi.NoEscape", "internal/bytealg.MakeNoZero"], named := ["internal/strconv.uint64pow10", "math/bits.deBruijn32tab", "math/bits.deBruijn64tab"], apart := false, laid := [("math/bits.deBruijn32tab", laid_math_bits_deBruijn32tab), ("math/bits.deBruijn64tab", laid_math_bits_deBruijn64tab), ("internal/strconv.uint64pow10", laid_internal_strconv_uint64pow10)], narrowed := true }
def FamiliesLevelsUptoSaid : Prop := familiesLevelsUptoRow.holds Tryd.pinned (OpenSpec.upto familiesLevelsSpec)

/-- 'vidimuslaw35.FamiliesSizes', WHERE WHAT IT READS IS OF BULK AT MOST 1048576: true; the input reads as it did. -/
def familiesSizesUptoRow : OpenClaim := { program := "ytcilepbdddgpoaadoor", sum := "d0ce6cf6b449bcaa43d3d77fe6035cac5fb8aa7335c7905a53a6a561fe31cb91", func := "vidimus/vidimuslaw35.FamiliesSizes", spec := "familiesSizes", inPlace := ["internal/abi.NoEscape", "internal/bytealg.MakeNoZero"], named := ["internal/strconv.uint64pow10", "math/bits.deBruijn32tab", "math/bits.deBruijn64tab"], apart := false, laid := [("math/bits.deBruijn32tab", laid_math_bits_deBruijn32tab), ("math/bits.deBruijn64tab", laid_math_bits_deBruijn64tab), ("internal/strconv.uint64pow10", laid_internal_strconv_uint64pow10)], narrowed := true }
def FamiliesSizesUptoSaid : Prop := familiesSizesUptoRow.holds Tryd.pinned (OpenSpec.upto familiesSizesSpec)

/-- 'vidimuslaw35.FamiliesKnown', WHERE WHAT IT READS IS OF BULK AT MOST 1048576: true; the input reads as it did. -/
def familiesKnownUptoRow : OpenClaim := { program := "ytcilepbdddgpoaadoor", sum := "d0ce6cf6b449bcaa43d3d77fe6035cac5fb8aa7335c7905a53a6a561fe31cb91", func := "vidimus/vidimuslaw35.FamiliesKnown", spec := "familiesKnown", inPlace := ["internal/abi.NoEscape", "internal/bytealg.MakeNoZero"], named := ["internal/strconv.uint64pow10", "math/bits.deBruijn32tab", "math/bits.deBruijn64tab"], apart := false, laid := [("math/bits.deBruijn32tab", laid_math_bits_deBruijn32tab), ("math/bits.deBruijn64tab", laid_math_bits_deBruijn64tab), ("internal/strconv.uint64pow10", laid_internal_strconv_uint64pow10)], narrowed := true }
def FamiliesKnownUptoSaid : Prop := familiesKnownUptoRow.holds Tryd.pinned (OpenSpec.upto familiesKnownSpec)

/-- 'vidimuslaw35.FamiliesPolicy', WHERE WHAT IT READS IS OF BULK AT MOST 1048576: true; the input reads as it did. -/
def familiesPolicyUptoRow : OpenClaim := { program := "ytcilepbdddgpoaadoor", sum := "d0ce6cf6b449bcaa43d3d77fe6035cac5fb8aa7335c7905a53a6a561fe31cb91", func := "vidimus/vidimuslaw35.FamiliesPolicy", spec := "familiesPolicy", inPlace := ["internal/abi.NoEscape", "internal/bytealg.MakeNoZero"], named := ["internal/strconv.uint64pow10", "math/bits.deBruijn32tab", "math/bits.deBruijn64tab"], apart := false, laid := [("math/bits.deBruijn32tab", laid_math_bits_deBruijn32tab), ("math/bits.deBruijn64tab", laid_math_bits_deBruijn64tab), ("internal/strconv.uint64pow10", laid_internal_strconv_uint64pow10)], narrowed := true }
def FamiliesPolicyUptoSaid : Prop := familiesPolicyUptoRow.holds Tryd.pinned (OpenSpec.upto familiesPolicySpec)

end Rows
end Go.Proofs.YtcilepbdddgpoaaDoor
