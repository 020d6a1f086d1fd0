/-
  JournalsCheck: the row's closed cells are what the program forces.
-/
import Derived.Test.YtgjlofpfbhioaaaGreatDoorMiniPN4
import Derived.Test.YtgjlofpfbhioaaaGreatDoorCards
import Derived.Test.YtgjlofpfbhioaaaGreatDoorTie
import Derived.WalkKit
import Derived.ProofKit
import Derived.OpenShut
import Derived.Deep.DeepHandedRow
import Derived.Lib.LaidTab
namespace Go.Proofs.YtgjlofpfbhioaaaGreatDoor.journalsCheck
open Go Go.ChangeShapes Go.WideShapes Go.ChangeAt Go.RowKit Go.ChangeMaps Go.Proofs.YtgjlofpfbhioaaaGreatDoor.Mini

set_option maxRecDepth 100000 in
set_option maxHeartbeats 4000000 in
theorem facts : joinedFacts Tryz.prog 13 Tryz.f13 (OpenSpec.ofChange Rows.journalsCheckSpec).bare Rows.journalsCheckRow = true := by
  unfold joinedFacts
  repeat' (with_reducible refine Bool.and_eq_true_iff.2 ⟨?_, ?_⟩)
  all_goals as_aux_lemma => kernel_rfl
end Go.Proofs.YtgjlofpfbhioaaaGreatDoor.journalsCheck
