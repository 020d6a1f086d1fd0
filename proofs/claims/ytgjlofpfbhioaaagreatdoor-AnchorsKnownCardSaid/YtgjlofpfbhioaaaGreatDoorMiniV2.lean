/-
  The examples of the chapter on anchors hold: by a closed run of the kernel.
-/
import Derived.Test.YtgjlofpfbhioaaaGreatDoorMiniV1
import Derived.KernelRfl
namespace Go.Proofs.YtgjlofpfbhioaaaGreatDoor
namespace Mini
open Go
theorem lives39_run (m : Int) : vcallN (XA m) 200 16 [] = some (.c (.d (.bool true))) := by
  rw [← vcallF_eq]
  kernel_rfl
end Mini
end Go.Proofs.YtgjlofpfbhioaaaGreatDoor
