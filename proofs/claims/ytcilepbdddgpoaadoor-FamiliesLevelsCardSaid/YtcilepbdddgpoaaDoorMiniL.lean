/-
  The examples of the chapter hold: by a closed run. The second context: with that run's answer.
-/
import Derived.Test.YtcilepbdddgpoaaDoorMiniK
namespace Go.Proofs.YtcilepbdddgpoaaDoor
namespace Mini
open Go

theorem lives_run : vcallN X0 100 13 [] = some (.c (.d (.bool true))) := by kernel_rfl

def prim1 (f : FuncId) (vs : List V) : Option V := if f = 13 then (match vs with | [] => some (.c (.d (.bool true))) | _ => none) else prim0 f vs
def X1 : Ctx := ⟨fns, prim1, fun _ _ _ => none, fun _ => none⟩
theorem X1_ok : CtxOk Tryd.prog X1 := by
  refine ⟨fns_ok, fun f vs r h => ?_⟩
  simp only [X1, prim1] at h
  split at h
  · rename_i e
    subst e
    split at h
    · cases h
      exact ⟨en13.1, vcallN_ok X0_ok lives_run⟩
    · cases h
  · exact X0_ok.prim f vs r h
end Mini
end Go.Proofs.YtcilepbdddgpoaaDoor
