/-
  Families: small functions of the program, told; policies.
-/
import Derived.Test.YtcilepbdddgpoaaDoorMiniL
namespace Go.Proofs.YtcilepbdddgpoaaDoor
namespace Mini
open Go

def i64 (n : Int) : V := .c (.d (.int .i64 n))
def bl (b : Bool) : V := .c (.d (.bool b))
def u32 (n : Int) : C := .d (.int .u32 n)
def polV (i k : Int) : V := .agg ([.d (.int .u8 9), u32 1, u32 3, u32 6, u32 1, u32 4, u32 1, u32 99, u32 (IntKind.u32.wrap i), u32 (IntKind.u32.wrap k)] ++ List.replicate 7 (u32 0))

theorem within_ok {X : Ctx} (h : X.fns 27 = some fn27) (n : Nat) (v lo hi : Int) : callN X (n + 1) (.d (.fn 27 [] [])) [i64 v, i64 lo, i64 hi] [] = some (bl (decide (v ≥ lo) && decide (v ≤ hi)), []) := by
  by_cases h1 : v ≥ lo <;> by_cases h2 : v ≤ hi <;>
  simp [callN, h, fn27, runFn, exec, runOps, Mini.step, stepP, O.eff, Mini.look, nth, wants, bin, binInt, exports, put, pad, i64, bl, Mini.results, result, mapO, h1, h2]
theorem fits_ok {X : Ctx} (h : X.fns 12 = some fn12) (n : Nat) (v lo hi : Int) : callN X (n + 1) (.d (.fn 12 [] [])) [i64 v, i64 lo, i64 hi] [] = some (bl (decide (v ≥ lo) && decide (v ≤ hi)), []) := by
  by_cases h1 : v ≥ lo <;> by_cases h2 : v ≤ hi <;>
  simp [callN, h, fn12, runFn, exec, runOps, Mini.step, stepP, O.eff, Mini.look, nth, wants, bin, binInt, exports, put, pad, i64, bl, Mini.results, result, mapO, h1, h2]
theorem policy_ok (i k : Int) : vcallN X1 100 28 [i64 i, i64 k] = some (polV i k) := by kernel_rfl
theorem refPolicy_ok (i k : Int) : vcallN X1 100 26 [i64 i, i64 k] = some (polV i k) := by kernel_rfl

def prim2 (f : FuncId) (vs : List V) : Option V :=
  match f, vs with
  | 27, [.c (.d (.int .i64 v)), .c (.d (.int .i64 lo)), .c (.d (.int .i64 hi))] => some (bl (decide (v ≥ lo) && decide (v ≤ hi)))
  | 12, [.c (.d (.int .i64 v)), .c (.d (.int .i64 lo)), .c (.d (.int .i64 hi))] => some (bl (decide (v ≥ lo) && decide (v ≤ hi)))
  | 28, [.c (.d (.int .i64 i)), .c (.d (.int .i64 k))] => some (polV i k)
  | 26, [.c (.d (.int .i64 i)), .c (.d (.int .i64 k))] => some (polV i k)
  | f, vs => prim1 f vs
def X2 : Ctx := ⟨fns, prim2, fun _ _ _ => none, fun _ => none⟩

theorem vcall_flat {X : Ctx} {n : Nat} {f : FuncId} {vs : List V} {b : Bool} (h : callN X n (.d (.fn f [] [])) vs [] = some (bl b, [])) : vcallN X n f vs = some (bl b) := by
  unfold vcallN
  rw [h]
  rfl

theorem X2_ok : CtxOk Tryd.prog X2 := by
  refine ⟨fns_ok, fun f vs r h => ?_⟩
  simp only [X2, prim2] at h
  split at h
  · cases h; exact ⟨en27.1, vcallN_ok X1_ok (vcall_flat (within_ok (X := X1) rfl 0 _ _ _))⟩
  · cases h; exact ⟨en12.1, vcallN_ok X1_ok (vcall_flat (fits_ok (X := X1) rfl 0 _ _ _))⟩
  · cases h; exact ⟨en28.1, vcallN_ok X1_ok (policy_ok _ _)⟩
  · cases h; exact ⟨en26.1, vcallN_ok X1_ok (refPolicy_ok _ _)⟩
  · exact X1_ok.prim f vs r h

/-- Is a number from 0 to 65535? -/
def inr (v : Int) : Bool := decide (v ≥ 0) && decide (v ≤ 65535)
def polR (i k : Int) : V := if inr i && inr k then .tup [polV i k, i64 0] else .tup [.agg (.d (.int .u8 0) :: List.replicate 16 (u32 0)), i64 1]
theorem famPolicy_ok (n : Nat) (i k : Int) : vcallN X2 (n + 1) 25 [i64 i, i64 k] = some (polR i k) := by
  have h27 : ∀ v lo hi, X2.prim 27 [.c (.d (.int .i64 v)), .c (.d (.int .i64 lo)), .c (.d (.int .i64 hi))] = some (.c (.d (.bool (decide (v ≥ lo) && decide (v ≤ hi))))) := fun _ _ _ => rfl
  have h28 : ∀ i k, X2.prim 28 [.c (.d (.int .i64 i)), .c (.d (.int .i64 k))] = some (polV i k) := fun _ _ => rfl
  have hf : X2.fns 25 = some fn25 := rfl
  by_cases a1 : i ≥ 0 <;> by_cases a2 : i ≤ 65535 <;> by_cases a3 : k ≥ 0 <;> by_cases a4 : k ≤ 65535 <;>
  simp [vcallN, callN, hf, fn25, runFn, exec, runOps, Mini.step, byValue, stepP, stepE, O.eff, Mini.look, nth, wants, un, exports, put, pad, i64, Mini.results, result, mapO, h27, h28, V.flat, V.flat1, C.flat, D.flat, deepV, deepV1, deepC, deepMax, ob?, setOb, lay, V.cells, splice, ofCells, polV, polR, inr, u32, List.replicate, a1, a2, a3, a4]

def prim3 (f : FuncId) (vs : List V) : Option V :=
  match f, vs with
  | 25, [.c (.d (.int .i64 i)), .c (.d (.int .i64 k))] => some (polR i k)
  | f, vs => prim2 f vs
def X3 : Ctx := ⟨fns, prim3, fun _ _ _ => none, fun _ => none⟩
theorem X3_ok : CtxOk Tryd.prog X3 := by
  refine ⟨fns_ok, fun f vs r h => ?_⟩
  simp only [X3, prim3] at h
  split at h
  · cases h; exact ⟨en25.1, vcallN_ok X2_ok (famPolicy_ok 0 _ _)⟩
  · exact X2_ok.prim f vs r h

theorem lawPolicy_ok (n : Nat) (i k : Int) : vcallN X3 (n + 1) 8 [i64 i, i64 k] = some (.c (.d (.bool true))) := by
  have h12 : ∀ v lo hi, X3.prim 12 [.c (.d (.int .i64 v)), .c (.d (.int .i64 lo)), .c (.d (.int .i64 hi))] = some (.c (.d (.bool (decide (v ≥ lo) && decide (v ≤ hi))))) := fun _ _ _ => rfl
  have h26 : ∀ i k, X3.prim 26 [.c (.d (.int .i64 i)), .c (.d (.int .i64 k))] = some (polV i k) := fun _ _ => rfl
  have h25 : ∀ i k, X3.prim 25 [.c (.d (.int .i64 i)), .c (.d (.int .i64 k))] = some (polR i k) := fun _ _ => rfl
  have h13 : X3.prim 13 [] = some (.c (.d (.bool true))) := rfl
  have hf : X3.fns 8 = some fn8 := rfl
  by_cases a1 : i ≥ 0 <;> by_cases a2 : i ≤ 65535 <;> by_cases a3 : k ≥ 0 <;> by_cases a4 : k ≤ 65535 <;>
  simp [vcallN, callN, hf, fn8, runFn, exec, runOps, Mini.step, byValue, stepP, O.eff, Mini.look, nth, wants, un, bin, binInt, exports, put, pad, i64, Mini.results, result, mapO, h12, h25, h26, h13, V.flat, V.flat1, C.flat, D.flat, deepV, deepV1, deepC, deepMax, ob?, lay, V.cells, ofCells, polV, polR, inr, u32, List.replicate, eqInts, a1, a2, a3, a4]
end Mini
end Go.Proofs.YtcilepbdddgpoaaDoor
