/-
  The chapter's examples as a primitive.
-/
import Derived.Test.YtmcgaakbkgdljaaGreatDoorMiniV1
namespace Go.Proofs.YtmcgaakbkgdljaaGreatDoor
namespace Mini
open Go

def primL (f : FuncId) (_ : List V) : Option V :=
  match f with
  | 11 => some (.c (.d (.bool true)))
  | _ => none
def primN (f : FuncId) (vs : List V) : Option V := match vs with
  | [] => primL f vs
  | _ => none
def X2 : Ctx := { X1 with prim := primN }
theorem X2_ok : CtxOk Tryz.prog X2 := by
  refine ⟨X1_ok.fns, fun f vs r h => ?_, X1_ok.hprim⟩
  unfold X2 primN primL at h
  simp only at h
  split at h <;> try (cases h; done)
  split at h <;> try (cases h; done)
  cases h
  exact ⟨en11.1, vcallN_ok X1_ok lives_run⟩
noncomputable def X2F : Ctx := { X1F with prim := primN }
theorem X2F_eq : X2F = X2 := by unfold X2F X2; rw [X1F_eq]
end Mini
end Go.Proofs.YtmcgaakbkgdljaaGreatDoor
