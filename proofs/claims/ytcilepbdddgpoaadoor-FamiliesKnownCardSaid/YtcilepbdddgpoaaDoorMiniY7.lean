/-
  The closed law of Families, by a run of the kernel.
-/
import Derived.Test.YtcilepbdddgpoaaDoorMiniX6
import Derived.Test.YtcilepbdddgpoaaDoorMiniR
namespace Go.Proofs.YtcilepbdddgpoaaDoor
namespace Mini
open Go
theorem law7_ok : vcallN X5 1000 7 [] = some (.c (.d (.bool true))) := by
  rw [← vcallF_eq]
  kernel_rfl
end Mini
end Go.Proofs.YtcilepbdddgpoaaDoor
