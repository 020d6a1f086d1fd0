/-
  The law CachesNew: numbers outside by rewriting, the others one by one by the kernel.
-/
import Derived.Test.YtmcgaakbkgdljaaGreatDoorMiniV2
namespace Go.Proofs.YtmcgaakbkgdljaaGreatDoor
namespace Mini
open Go
theorem new_out {m : Int} (H : Heap) (h : m < 1 ∨ 64 < m) : runFnC (envN X0 200) 200 fn10 [.c (.d (.int .i64 m))] H = some (.tup [.c (.d .nilp), .c (.d (.int .i64 1))], H) := by
  by_cases h1 : m < 1
  · simp [runFnC, fn10, execC, exec, runOps, wants, step, stepP, look, nth, bin, binInt, exports, put, pad, h1, results, result, mapO, O.eff]
  · have h2 : 64 < m := h.resolve_left h1
    simp [runFnC, fn10, execC, exec, runOps, wants, step, stepP, look, nth, bin, binInt, exports, put, pad, h1, h2, results, result, mapO, O.eff]
theorem f3_out {m : Int} (h : m < 1 ∨ 64 < m) : vcallN X2 300 3 [.c (.d (.int .i64 m))] = some (.c (.d (.bool true))) := by
  have hn : callN X2 299 (.d (.fn 10 [] [])) [.c (.d (.int .i64 m))] [] = some (.tup [.c (.d .nilp), .c (.d (.int .i64 1))], []) := by
    show runFnC (envN X0 200) 200 fn10 [.c (.d (.int .i64 m))] [] = _
    exact new_out [] h
  have hc : callN X2 300 (.d (.fn 3 [] [])) [.c (.d (.int .i64 m))] [] = runFn (envN X2 299) 299 fn3 [.c (.d (.int .i64 m))] [] := rfl
  have hl : (envN X2 299).vcall 11 [] = some (.c (.d (.bool true))) := rfl
  have hcall : (envN X2 299).call = callN X2 299 := rfl
  unfold vcallN
  rw [hc]
  generalize envN X2 299 = E at hl hcall ⊢
  by_cases h1 : m < 1
  · simp [runFn, fn3, exec, runOps, wants, step, stepP, stepE, look, nth, bin, binInt, exports, put, pad, h1, results, result, mapO, O.eff, hl, hcall, hn, isZ, byValue, V.flat, V.flat1, C.flat, D.flat, deepV, deepV1, deepC]
  · have h2 : 64 < m := h.resolve_left h1
    simp [runFn, fn3, exec, runOps, wants, step, stepP, stepE, look, nth, bin, binInt, exports, put, pad, h1, h2, results, result, mapO, O.eff, hl, hcall, hn, isZ, byValue, V.flat, V.flat1, C.flat, D.flat, deepV, deepV1, deepC]
theorem new_inF : (List.range 64).all (fun k => match vcallF X2F 300 3 [.c (.d (.int .i64 (Int.ofNat (k + 1))))] with
    | some (.c (.d (.bool true))) => true
    | _ => false) = true := by kernel_rfl
theorem f3_in {k : Nat} (hk : k < 64) : vcallN X2 300 3 [.c (.d (.int .i64 (Int.ofNat (k + 1))))] = some (.c (.d (.bool true))) := by
  have := List.all_eq_true.1 new_inF k (List.mem_range.2 hk)
  rw [vcallF_eq, X2F_eq] at this
  split at this
  · assumption
  · cases this
theorem f3 (m : Int) : vcallN X2 300 3 [.c (.d (.int .i64 m))] = some (.c (.d (.bool true))) := by
  by_cases h : m < 1 ∨ 64 < m
  · exact f3_out h
  · have := f3_in (k := (m - 1).toNat) (by omega)
    rwa [show Int.ofNat ((m - 1).toNat + 1) = m by show (((m - 1).toNat + 1 : Nat) : Int) = m; omega] at this
end Mini
end Go.Proofs.YtmcgaakbkgdljaaGreatDoor
