/-
  JournalsKnown: texts of the proof, part 23.
-/
import Derived.Test.YtgjlofpfbhioaaaGreatDoorLX21
import Derived.Test.YtgjlofpfbhioaaaGreatDoorCards
import Derived.Test.YtgjlofpfbhioaaaGreatDoorTie
import Derived.WalkKit
import Derived.ProofKit
import Derived.OpenShut
import Derived.Deep.DeepHandedRow
import Derived.Lib.LaidTab
namespace Go.Proofs.YtgjlofpfbhioaaaGreatDoor
namespace Mini
open Go Go.ChangeShapes Go.WideShapes Go.ChangeAt Go.RowKit
theorem own : ownKnob Tryz.prog.godebug = none := by kernel_rfl
def val1 : DataW Unit → Value
  | .lit (.int k n) => .int k n
  | .lit (.string s) => .string ⟨s.toArray⟩
  | _ => .nilIface
def row1 : DataW Unit → List Value
  | .agg ds => ds.map val1
  | d => [val1 d]
def row2 : DataW Unit → List Value
  | .agg ds => ds.flatMap row1
  | _ => []
def putVar (h : Array Obj) (g : Nat) (cs : List Value) : Array Obj := h.modify g fun
      | .cells _ t frozen => .cells cs.toArray t frozen
      | o => o
def errText (d : DataW Unit) : Value :=
  match d with
  | .iface _ (.ptr (.agg [x])) => val1 x
  | _ => .nilIface
noncomputable def laidWorld (os : Os) : World :=
  let w := World.holding Tryz.prog os ⟨#[.cells #[errText Rows.laid_strconv_ErrSyntax] 245, .cells #[errText Rows.laid_strconv_ErrRange] 245], #[], []⟩
  let h := putVar w.heap 0 (row1 Rows.laid_vidimus_anchors_words)
  let h := putVar h 2 (row1 Rows.laid_internal_strconv_uint64pow10)
  let h := putVar h 3 (row1 Rows.laid_unicode_utf8_first)
  let h := putVar h 4 (row2 Rows.laid_unicode_utf8_acceptRanges)
  let h := putVar h 5 [.iface 243 (.pointer (some ⟨Tryz.prog.low, 0, none⟩))]
  let h := putVar h 6 [.iface 243 (.pointer (some ⟨Tryz.prog.low + 1, 0, none⟩))]
  let h := putVar h 7 (row1 Rows.laid_math_bits_deBruijn32tab)
  let h := putVar h 8 (row1 Rows.laid_math_bits_deBruijn64tab)
  { w with heap := h }
theorem laid_met (os : Os) (args : Array Value) : laidMet Tryz.prog Rows.anchorsInputsRow.laid ((laidWorld os).forCall (fun _ _ => 0) ⟨#[], args, []⟩).memory :=
  laidMet_of_run' 8 (by kernel_rfl) (by kernel_rfl)
end Mini
end Go.Proofs.YtgjlofpfbhioaaaGreatDoor
