/-
  RecordsSame: the row's closed cells are what the program forces.
-/
import Derived.Test.YtjnghfhccjogeaaGreatDoorPA4
import Derived.Test.YtjnghfhccjogeaaGreatDoorCards
import Derived.Test.YtjnghfhccjogeaaGreatDoorTie
import Derived.WalkKit
import Derived.ProofKit
import Derived.OpenShut
import Derived.Deep.DeepHandedRow
import Derived.Lib.LaidTab
namespace Go.Proofs.YtjnghfhccjogeaaGreatDoor.recordsSame
open Go Go.ChangeShapes Go.WideShapes Go.ChangeAt Go.RowKit Go.ChangeMaps Go.Proofs.YtjnghfhccjogeaaGreatDoor.Mini

set_option maxRecDepth 100000 in
set_option maxHeartbeats 4000000 in
theorem facts : joinedFacts Tryz.prog 10 Tryz.f10 (OpenSpec.ofChange Rows.recordsSameSpec).bare Rows.recordsSameRow = true := by
  unfold joinedFacts
  repeat' (with_reducible refine Bool.and_eq_true_iff.2 ⟨?_, ?_⟩)
  all_goals as_aux_lemma => kernel_rfl
end Go.Proofs.YtjnghfhccjogeaaGreatDoor.recordsSame
