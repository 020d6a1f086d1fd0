/-
  RecordsSame: texts of the proof: V1.
-/
import Derived.Test.YtjnghfhccjogeaaGreatDoorAK
import Derived.Test.YtjnghfhccjogeaaGreatDoorAJL1
import Derived.Test.YtjnghfhccjogeaaGreatDoorAR
namespace Go.Proofs.YtjnghfhccjogeaaGreatDoor
namespace Mini
open Go
def glob0 (m : Int) (b : Nat) : Option (List D) :=
  match b with
  | 3 => some [.int .i64 m]
  | 7 => some pow10D
  | _ => none
def prim0 (f : FuncId) (vs : List V) : Option V :=
  match f with
  | 99 => cutV vs
  | 129 => itoaV vs
  | 125 => joinV vs
  | 100 => splitV vs
  | 210 => ndV vs
  | _ => none
def hprim0 (f : FuncId) (vs : List V) (H : Heap) : Option (V × Heap) :=
  match f with
  | 58 => bsV vs H
  | 122 => ccV vs H
  | 211 => fbV vs H
  | _ => none
theorem prim0_ok {m : Int} {f : FuncId} {vs : List V} {r : V} (h : prim0 f vs = some r) : Enters Tryz.prog f ∧ ValCall Tryz.prog (glob0 m) f vs r := by
  unfold prim0 at h
  split at h
  · exact cutV_ok (m := m) rfl h
  · exact itoaV_ok rfl h
  · exact joinV_ok h
  · exact splitV_ok (m := m) rfl h
  · exact ndV_ok rfl h
  · cases h
theorem hprim0_ok {m : Int} {f : FuncId} {vs : List V} {H H' : Heap} {r : V} (h : hprim0 f vs H = some (r, H')) : Enters Tryz.prog f ∧ HeapPrim Tryz.prog (glob0 m) f vs H r H' := by
  unfold hprim0 at h
  split at h
  · exact bsV_ok h
  · exact ccV_ok h
  · exact fbV_ok h
  · cases h
def XS (m : Int) : Ctx := ⟨fnsS, prim0, hprim0, fun _ _ _ => none, glob0 m⟩
theorem XS_ok (m : Int) : CtxOk Tryz.prog (XS m) := ⟨fnsS_ok, fun _ _ _ h => prim0_ok h, fun _ _ _ _ _ h => hprim0_ok h⟩
theorem lives_runF (m : Int) : vcallF (XS m) 300 12 [] = some (.c (.d (.bool true))) := by kernel_rfl
end Mini
end Go.Proofs.YtjnghfhccjogeaaGreatDoor
