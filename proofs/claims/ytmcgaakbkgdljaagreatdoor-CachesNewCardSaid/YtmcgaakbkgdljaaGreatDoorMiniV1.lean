/-
  The contexts of the Caches: the forms; slices.Delete; the functions that use the channel. The chapter's examples.
-/
import Derived.Test.YtmcgaakbkgdljaaGreatDoorMiniK
import Derived.Test.YtmcgaakbkgdljaaGreatDoorMiniL7
import Derived.Test.YtmcgaakbkgdljaaGreatDoorMiniC1
namespace Go.Proofs.YtmcgaakbkgdljaaGreatDoor
namespace Mini
open Go

def hprim0 (f : FuncId) (vs : List V) (H : Heap) : Option (V × Heap) :=
  match f with
  | 34 => delV vs H
  | _ => none
theorem hprim0_ok {G : Nat → Option (List D)} {f : FuncId} {vs : List V} {H H' : Heap} {r : V} (h : hprim0 f vs H = some (r, H')) : Enters Tryz.prog f ∧ HeapPrim Tryz.prog G f vs H r H' := by
  unfold hprim0 at h
  split at h
  · exact delV_ok h
  · cases h
def X0 : Ctx := ⟨fnsC, fun _ _ => none, hprim0, fun _ _ _ => none, fun _ => none⟩
theorem X0_ok : CtxOk Tryz.prog X0 := ⟨fnsC_ok, fun _ _ _ h => (by cases h), fun _ _ _ _ _ h => hprim0_ok h⟩
def X1 : Ctx := withC X0 200 fnsCH
theorem X1_ok : CtxOk Tryz.prog X1 := withC_ok X0_ok fnsCH_ok
noncomputable def X1F : Ctx := withCF X0 200 fnsCH
theorem X1F_eq : X1F = X1 := withCF_eq _ _ _
theorem lives_runF : vcallF X1F 100 11 [] = some (.c (.d (.bool true))) := by kernel_rfl
theorem lives_run : vcallN X1 100 11 [] = some (.c (.d (.bool true))) := by rw [← X1F_eq, ← vcallF_eq]; exact lives_runF
end Mini
end Go.Proofs.YtmcgaakbkgdljaaGreatDoor
