/-
  CachesNew: the row's closed cells are what the program forces.
-/
import Derived.Test.YtmcgaakbkgdljaaGreatDoorMiniPN4
import Derived.Test.YtmcgaakbkgdljaaGreatDoorCards
import Derived.Test.YtmcgaakbkgdljaaGreatDoorTie
import Derived.WalkKit
import Derived.ProofKit
import Derived.OpenShut
import Derived.Deep.DeepHandedRow
import Derived.Lib.LaidTab
namespace Go.Proofs.YtmcgaakbkgdljaaGreatDoor.cachesNew
open Go Go.ChangeShapes Go.WideShapes Go.ChangeAt Go.RowKit Go.ChangeMaps Go.Proofs.YtmcgaakbkgdljaaGreatDoor.Mini

set_option maxRecDepth 100000 in
set_option maxHeartbeats 4000000 in
theorem facts : joinedFacts Tryz.prog 3 Tryz.f3 (OpenSpec.ofChange Rows.cachesNewSpec).bare Rows.cachesNewRow = true := by
  unfold joinedFacts
  repeat' (with_reducible refine Bool.and_eq_true_iff.2 ⟨?_, ?_⟩)
  all_goals as_aux_lemma => kernel_rfl
end Go.Proofs.YtmcgaakbkgdljaaGreatDoor.cachesNew
