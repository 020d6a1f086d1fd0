/-
  Integers of a row, as natural numbers.
-/
import Derived.Test.YtcilepbdddgpoaaDoorMiniV
namespace Go.Proofs.YtcilepbdddgpoaaDoor
namespace Mini
open Go
/-- A byte, as a natural number. -/
theorem u8_nat {n : Int} (h : (Lit.int .u8 n).wf = true) : ∃ m : Nat, n = m ∧ m < 256 := by
  have h' : 0 ≤ n ∧ n ≤ 255 := by
    simpa [Lit.wf, IntKind.min, IntKind.max, IntKind.signed, IntKind.bits] using h
  exact ⟨n.toNat, by omega, by omega⟩
end Mini
end Go.Proofs.YtcilepbdddgpoaaDoor
