/-
  A world in which the listed variables hold what their initialisers lay: for the witnesses.
-/
import Derived.Test.YtmcgaakbkgdljaaGreatDoorMiniO3
import Derived.Test.YtmcgaakbkgdljaaGreatDoorCards
import Derived.Test.YtmcgaakbkgdljaaGreatDoorTie
import Derived.WalkKit
import Derived.ProofKit
import Derived.OpenShut
import Derived.Deep.DeepHandedRow
import Derived.Lib.LaidTab
namespace Go.Proofs.YtmcgaakbkgdljaaGreatDoor
namespace Mini
open Go Go.ChangeShapes Go.WideShapes Go.ChangeAt Go.RowKit
theorem own : ownKnob Tryz.prog.godebug = none := by kernel_rfl
def val1 : DataW Unit → Value
  | .lit (.int k n) => .int k n
  | .lit (.bool b) => .bool b
  | .lit (.string s) => .string ⟨s.toArray⟩
  | _ => .nilIface
def row1 : DataW Unit → List Value
  | .agg ds => ds.map val1
  | d => [val1 d]
def row2 : DataW Unit → List Value
  | .agg ds => ds.flatMap row1
  | _ => []
def putVar (h : Array Obj) (g : Nat) (cs : List Value) : Array Obj := h.modify g fun
      | .cells _ t frozen => .cells cs.toArray t frozen
      | o => o
def errText (d : DataW Unit) : Value :=
  match d with
  | .iface _ (.ptr (.agg [x])) => val1 x
  | _ => .nilIface
noncomputable def laidWorld (os : Os) : World :=
  let w := World.holding Tryz.prog os ⟨#[], #[], []⟩
  let h := putVar w.heap 0 (row1 Rows.laid_vidimus_qualifiers_sequence)
  let h := putVar h 1 (row1 Rows.laid_vidimus_qualifiers_oid)
  let h := putVar h 2 (row1 Rows.laid_vidimus_qualifiers_ia5)
  let h := putVar h 3 (row1 Rows.laid_vidimus_qualifiers_integer)
  let h := putVar h 4 (row1 Rows.laid_vidimus_qualifiers_shown)
  let h := putVar h 5 (row1 Rows.laid_unicode_utf8_first)
  let h := putVar h 6 (row2 Rows.laid_unicode_utf8_acceptRanges)
  { w with heap := h }
theorem laid_met (os : Os) (args : Array Value) : laidMet Tryz.prog Rows.cachesKnownRow.laid ((laidWorld os).forCall (fun _ _ => 0) ⟨#[], args, []⟩).memory :=
  laidMet_of_run' 8 (by kernel_rfl) (by kernel_rfl)
end Mini
end Go.Proofs.YtmcgaakbkgdljaaGreatDoor
