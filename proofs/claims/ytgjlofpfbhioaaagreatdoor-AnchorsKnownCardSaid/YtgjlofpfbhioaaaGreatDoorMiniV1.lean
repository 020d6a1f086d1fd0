/-
  The first context: the forms, the library's functions as primitives, the variables.
-/
import Derived.Test.YtgjlofpfbhioaaaGreatDoorMiniK
import Derived.Test.YtgjlofpfbhioaaaGreatDoorMiniL6
import Derived.Test.YtgjlofpfbhioaaaGreatDoorMiniR
namespace Go.Proofs.YtgjlofpfbhioaaaGreatDoor
namespace Mini
open Go

def wordsD : List D := [.str [101, 120, 112, 108, 105, 99, 105, 116], .str [110, 111, 109, 97, 112, 112, 105, 110, 103], .str [110, 111, 97, 110, 121]]
def glob0 (m : Int) (b : Nat) : Option (List D) :=
  match b with
  | 0 => some wordsD
  | 1 => some [.int .i64 m]
  | 2 => some pow10D
  | 6 => some [.ifc]
  | _ => none
def prim0 (f : FuncId) (vs : List V) : Option V :=
  match f with
  | 65 => cutV vs
  | 73 => itoaV vs
  | 90 => joinV vs
  | 92 => splitV vs
  | 100 => lixV vs
  | 119 => parseV vs
  | 121 => ixbV vs
  | 137 => ndV vs
  | 147 => indexV vs
  | 151 => trimV vs
  | _ => none
def hprim0 (f : FuncId) (vs : List V) (H : Heap) : Option (V × Heap) :=
  match f with
  | 64 => bsV vs H
  | 88 => ccV vs H
  | 138 => fbV vs H
  | _ => none
theorem prim0_ok {m : Int} {f : FuncId} {vs : List V} {r : V} (h : prim0 f vs = some r) : Enters Tryz.prog f ∧ ValCall Tryz.prog (glob0 m) f vs r := by
  unfold prim0 at h
  split at h
  · exact cutV_ok (m := m) rfl h
  · exact itoaV_ok rfl h
  · exact joinV_ok h
  · exact splitV_ok (m := m) rfl h
  · exact lixV_ok h
  · exact parseV_ok rfl h
  · exact ixbV_ok h
  · exact ndV_ok rfl h
  · exact indexV_ok h
  · exact trimV_ok h
  · cases h
theorem hprim0_ok {m : Int} {f : FuncId} {vs : List V} {H H' : Heap} {r : V} (h : hprim0 f vs H = some (r, H')) : Enters Tryz.prog f ∧ HeapPrim Tryz.prog (glob0 m) f vs H r H' := by
  unfold hprim0 at h
  split at h
  · exact bsV_ok h
  · exact ccV_ok h
  · exact fbV_ok h
  · cases h
def XA (m : Int) : Ctx := ⟨fnsA, prim0, hprim0, fun _ _ _ => none, glob0 m⟩
theorem XA_ok (m : Int) : CtxOk Tryz.prog (XA m) := ⟨fnsA_ok, fun _ _ _ h => prim0_ok h, fun _ _ _ _ _ h => hprim0_ok h⟩
end Mini
end Go.Proofs.YtgjlofpfbhioaaaGreatDoor
