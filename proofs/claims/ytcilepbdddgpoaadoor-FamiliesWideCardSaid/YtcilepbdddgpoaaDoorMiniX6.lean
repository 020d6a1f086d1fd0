/-
  Families: the small functions and the great ones, told; the context of the laws.
-/
import Derived.Test.YtcilepbdddgpoaaDoorMiniX5
import Derived.Test.YtcilepbdddgpoaaDoorMiniN2
namespace Go.Proofs.YtcilepbdddgpoaaDoor
namespace Mini
open Go

/-- Is a number from one to another one? -/
def w (v lo hi : Int) : Bool := decide (v ≥ lo) && decide (v ≤ hi)
theorem p27 (v lo hi : Int) : X3.prim 27 [.c (.d (.int .i64 v)), .c (.d (.int .i64 lo)), .c (.d (.int .i64 hi))] = some (.c (.d (.bool (w v lo hi)))) := rfl
theorem r38 : vcallN X3 100 38 [] = some (.agg anyE) := by kernel_rfl
theorem r40 : vcallN X3 100 40 [] = some (.agg anyE) := by kernel_rfl
theorem r30 : vcallN X3 100 30 [] = some (.agg inpsC) := by kernel_rfl
theorem r22 : vcallN X3 100 22 [] = some (.agg inpsC) := by kernel_rfl
def inLw (n p m : Int) : Bool := (w n 1 64 && w p 0 63) && w m 0 64
theorem r37 (N : Nat) (n p m : Int) : vcallN X3 (N + 1) 37 [i64 n, i64 p, i64 m] = some (bl (inLw n p m)) := by
  have hX : X3.fns 37 = some fn37' := rfl
  have hv := fun v lo hi => zenv_prim (n := N) (p27 v lo hi)
  refine vcall_of (H := []) (r := bl (inLw n p m)) ?_ rfl
  rw [callN_fn hX]
  unfold inLw
  cases h1 : w n 1 64 <;> cases h2 : w p 0 63 <;> cases h3 : w m 0 64 <;>
  simp only [fn37', runFn, pad, List.replicate, Nat.reduceSub, List.cons_append, List.nil_append, byValue, mapO, deepV1, deepC, hv, h1, h2, h3, V.flat, V.flat1, C.flat, D.flat, results, result, Bool.and_self, Bool.and_true, Bool.and_false, Bool.false_beq, Bool.not_true, beq_self_eq_true, exec, runOps, wants, Mini.step, stepP, stepE, O.eff, Mini.look, nth, put, exports, i64, bl, List.length_cons, List.length_nil, Option.map_some, if_true, if_false, List.all_nil, Nat.zero_add, Bool.false_eq_true, Nat.reduceAdd]
/-- WideGraph. -/
def graphW (n k : Int) : V := .tup [i64 (IntKind.i64.wrap (IntKind.i64.wrap (n * k) + 1)), i64 (IntKind.i64.wrap (k + IntKind.i64.wrap (IntKind.i64.wrap (IntKind.i64.wrap (n - 1) * k) * k))), i64 0]
theorem r11_in (N : Nat) (n k : Int) (h : (w n 1 64 && w k 1 8) = true) : vcallN X3 (N + 1) 11 [i64 n, i64 k] = some (graphW n k) := by
  have hX : X3.fns 11 = some fn11' := rfl
  have hv := fun v lo hi => zenv_prim (n := N) (p27 v lo hi)
  rw [Bool.and_eq_true] at h
  obtain ⟨h1, h2⟩ := h
  refine vcall_of (H := []) (r := graphW n k) ?_ rfl
  rw [callN_fn hX, graphW]
  simp only [fn11', runFn, pad, List.replicate, Nat.reduceSub, List.cons_append, List.nil_append, byValue, mapO, deepV1, deepC, hv, h1, h2, V.flat, V.flat1, C.flat, D.flat, results, result, Bool.not_true, beq_self_eq_true, exec, runOps, wants, Mini.step, stepP, stepE, O.eff, Mini.look, nth, put, exports, bin, binInt, un, i64, List.length_cons, List.length_nil, Option.map_some, if_true, if_false, List.all_nil, cond_false, Nat.zero_add, Bool.false_eq_true, Nat.reduceAdd]
theorem r11_out (N : Nat) (n k : Int) (h : (w n 1 64 && w k 1 8) = false) : vcallN X3 (N + 1) 11 [i64 n, i64 k] = some (.tup [i64 0, i64 0, i64 1]) := by
  have hX : X3.fns 11 = some fn11' := rfl
  have hv := fun v lo hi => zenv_prim (n := N) (p27 v lo hi)
  refine vcall_of (H := []) (r := .tup [i64 0, i64 0, i64 1]) ?_ rfl
  rw [callN_fn hX]
  cases h1 : w n 1 64 <;> cases h2 : w k 1 8 <;> first
    | (rw [h1, h2] at h; cases h; done)
    | simp only [fn11', runFn, pad, List.replicate, Nat.reduceSub, List.cons_append, List.nil_append, byValue, mapO, deepV1, deepC, hv, h1, h2, V.flat, V.flat1, C.flat, D.flat, results, result, Bool.true_beq, Bool.not_true, Bool.not_false, beq_self_eq_true, exec, runOps, wants, Mini.step, stepP, stepE, O.eff, Mini.look, nth, put, exports, un, i64, List.length_cons, List.length_nil, Option.map_some, if_true, if_false, List.all_nil, cond_true, Nat.zero_add, Bool.false_eq_true, Nat.reduceAdd]
theorem r9_out {X : Ctx} (hX : X.fns 9 = some fn9) {N : Nat} (h27 : ∀ v lo hi, (zenv X N).vcall 27 [.c (.d (.int .i64 v)), .c (.d (.int .i64 lo)), .c (.d (.int .i64 hi))] = some (.c (.d (.bool (w v lo hi))))) (n k : Int) (h : (w n 1 64 && w k 1 8) = false) (H0 : Heap) : callN X (N + 1) (.d (.fn 9 [] [])) [i64 n, i64 k] H0 = some (.tup [.c (.d .nils), .agg inp0, i64 1], H0 ++ [.cells inp0 0 false]) := by
  rw [fn9_is] at hX
  rw [callN_fn hX]
  cases h1 : w n 1 64 <;> cases h2 : w k 1 8 <;> first
    | (rw [h1, h2] at h; cases h; done)
    | simp only [fn9', inp0, runFn, pad, List.replicate, Nat.reduceSub, List.cons_append, List.nil_append, byValue, mapO, deepV1, deepC, h27, h1, h2, lay, splice, at0, se0, V.flat, V.flat1, C.flat, D.flat, results, result, List.map_cons, List.map_nil, List.take_zero, List.take_succ_cons, List.take_nil, List.drop_zero, List.drop_succ_cons, List.drop_nil, Nat.le_refl, Bool.true_beq, Bool.not_true, Bool.not_false, beq_self_eq_true, exec, runOps, wants, Mini.step, stepP, stepE, O.eff, Mini.look, nth, put, exports, un, i64, ob_eq, setOb_eq, ofCells, V.cells, List.length_cons, List.length_nil, Option.map_some, if_true, if_false, List.append_nil, List.all_nil, cond_true, Nat.zero_add, and_self, Bool.false_eq_true, Nat.reduceAdd]
theorem r17_out {X : Ctx} (hX : X.fns 17 = some fn17) {N : Nat} (h37 : ∀ n p m, (zenv X N).vcall 37 [.c (.d (.int .i64 n)), .c (.d (.int .i64 p)), .c (.d (.int .i64 m))] = some (.c (.d (.bool (inLw n p m))))) (n p m : Int) (h : inLw n p m = false) (H0 : Heap) : callN X (N + 1) (.d (.fn 17 [] [])) [i64 n, i64 p, i64 m] H0 = some (.tup [.c (.d .nils), .agg inp0, i64 1], H0 ++ [.cells inp0 0 false]) := by
  rw [fn17_is] at hX
  rw [callN_fn hX]
  simp only [fn17', inp0, runFn, pad, List.replicate, Nat.reduceSub, List.cons_append, List.nil_append, byValue, mapO, deepV1, deepC, h37, h, lay, splice, at0, se0, V.flat, V.flat1, C.flat, D.flat, results, result, List.map_cons, List.map_nil, List.take_zero, List.take_succ_cons, List.take_nil, List.drop_zero, List.drop_succ_cons, List.drop_nil, Nat.le_refl, Bool.not_false, exec, runOps, wants, Mini.step, stepP, stepE, O.eff, Mini.look, nth, put, exports, un, i64, ob_eq, setOb_eq, ofCells, V.cells, List.length_cons, List.length_nil, Option.map_some, if_true, if_false, List.append_nil, List.all_nil, cond_true, Nat.zero_add, and_self, Bool.false_eq_true, Nat.reduceAdd]
/-! ### The context with the small ones -/
def prim4 (f : FuncId) (vs : List V) : Option V :=
  match f, vs with
  | 37, [.c (.d (.int .i64 n)), .c (.d (.int .i64 p)), .c (.d (.int .i64 m))] => some (bl (inLw n p m))
  | 38, [] => some (.agg anyE)
  | 40, [] => some (.agg anyE)
  | 30, [] => some (.agg inpsC)
  | 22, [] => some (.agg inpsC)
  | 11, [.c (.d (.int .i64 n)), .c (.d (.int .i64 k))] => some (if (w n 1 64 && w k 1 8) = true then graphW n k else .tup [i64 0, i64 0, i64 1])
  | f, vs => prim3 f vs
def X4 : Ctx := ⟨fns, prim4, fun _ _ _ => none, fun _ => none⟩
theorem X4_ok : CtxOk Tryd.prog X4 := by
  refine ⟨fns_ok, fun f vs r h => ?_⟩
  simp only [X4, prim4] at h
  split at h
  · cases h; exact ⟨en37.1, vcallN_ok X3_ok (r37 0 _ _ _)⟩
  · cases h; exact ⟨en38.1, vcallN_ok X3_ok r38⟩
  · cases h; exact ⟨en40.1, vcallN_ok X3_ok r40⟩
  · cases h; exact ⟨en30.1, vcallN_ok X3_ok r30⟩
  · cases h; exact ⟨en22.1, vcallN_ok X3_ok r22⟩
  · rename_i n k
    cases h
    by_cases hc : (w n 1 64 && w k 1 8) = true
    · rw [if_pos hc]; exact ⟨en11.1, vcallN_ok X3_ok (r11_in 0 _ _ hc)⟩
    · rw [if_neg hc]; exact ⟨en11.1, vcallN_ok X3_ok (r11_out 0 _ _ (by simpa using hc))⟩
  · exact X3_ok.prim f vs r h
theorem w_nat {n : Int} {lo hi : Nat} (h : w n lo hi = true) : ∃ m : Nat, n = m ∧ lo ≤ m ∧ m ≤ hi := by
  simp only [w, Bool.and_eq_true, decide_eq_true_eq] at h
  exact ⟨n.toNat, by omega, by omega, by omega⟩
theorem r10_out' (N : Nat) (n k : Int) (h : (w n 1 64 && w k 1 8) = false) : vcallN X4 (N + 1) 10 [i64 n, i64 k] = some (.tup [.c (.d (.str [])), i64 1]) := by
  have hX : X4.fns 10 = some fn10' := rfl
  have hv := fun v lo hi => zenv_prim (X := X4) (n := N) (f := 27) (r := .c (.d (.bool (w v lo hi)))) (vs := [.c (.d (.int .i64 v)), .c (.d (.int .i64 lo)), .c (.d (.int .i64 hi))]) rfl
  refine vcall_of (H := []) (r := .tup [.c (.d (.str [])), i64 1]) ?_ rfl
  rw [callN_fn hX]
  cases h1 : w n 1 64 <;> cases h2 : w k 1 8 <;> first
    | (rw [h1, h2] at h; cases h; done)
    | simp only [fn10', runFn, pad, List.replicate, Nat.reduceSub, List.cons_append, List.nil_append, byValue, mapO, deepV1, deepC, hv, h1, h2, V.flat, V.flat1, C.flat, D.flat, results, result, Bool.true_beq, Bool.not_true, Bool.not_false, beq_self_eq_true, exec, runOps, wants, Mini.step, stepP, stepE, O.eff, Mini.look, nth, put, exports, un, i64, List.length_cons, List.length_nil, Option.map_some, if_true, if_false, List.all_nil, cond_true, Nat.zero_add, Bool.false_eq_true, Nat.reduceAdd]
theorem q10 (n k : Int) : vcallN X4 1002 10 [i64 n, i64 k] = some (if (w n 1 64 && w k 1 8) = true then .tup [.c (.d (.str (treeS k.toNat n.toNat))), i64 0] else .tup [.c (.d (.str [])), i64 1]) := by
  by_cases hc : (w n 1 64 && w k 1 8) = true
  · rw [if_pos hc]
    rw [Bool.and_eq_true] at hc
    obtain ⟨n, rfl, h1, h2⟩ := w_nat (lo := 1) (hi := 64) hc.1
    obtain ⟨k, rfl, h3, h4⟩ := w_nat (lo := 1) (hi := 8) hc.2
    exact fn10_in (X := X4) rfl rfl (fun _ _ _ => rfl) (N := 1000) (by omega) h1 h2 h3 h4
  · rw [if_neg hc]
    exact r10_out' 1001 n k (by simpa using hc)
def wideR (n k : Int) : V := if (w n 1 64 && w k 1 8) = true then .tup [wideV n.toNat k.toNat, .agg inpsC, i64 0] else .tup [.c (.d .nils), .agg inp0, i64 1]
theorem q9 (n k : Int) : vcallN X4 1002 9 [i64 n, i64 k] = some (wideR n k) := by
  unfold wideR
  by_cases hc : (w n 1 64 && w k 1 8) = true
  · rw [if_pos hc]
    rw [Bool.and_eq_true] at hc
    obtain ⟨n, rfl, h1, h2⟩ := w_nat (lo := 1) (hi := 64) hc.1
    obtain ⟨k, rfl, h3, h4⟩ := w_nat (lo := 1) (hi := 8) hc.2
    obtain ⟨H', a, b, _⟩ := fn9_in (X := X4) rfl rfl (N := 1000) (by omega) (fun _ _ => zenv_prim rfl) (zenv_prim rfl) (fun _ _ _ => zenv_prim rfl) h1 h2 h3 h4 [] Hp.nil
    refine vcall_of a ?_
    have b := b []
    rw [List.append_nil] at b
    have hi : deepV1 H' (.agg inpsC) = some (.agg inpsC) := rfl
    simp only [deepV, mapO, b, hi]
    rfl
  · rw [if_neg hc]
    exact vcall_of (r9_out (X := X4) rfl (N := 1001) (fun _ _ _ => zenv_prim rfl) n k (by simpa using hc) []) rfl
def longR (n p m : Int) : V := if inLw n p m = true then .tup [longV n.toNat p.toNat m.toNat, .agg inpsC, i64 0] else .tup [.c (.d .nils), .agg inp0, i64 1]
theorem inLw_nat {n p m : Int} (h : inLw n p m = true) : ∃ a b c : Nat, n = a ∧ p = b ∧ m = c ∧ 1 ≤ a ∧ a ≤ 64 ∧ b ≤ 63 ∧ c ≤ 64 := by
  simp only [inLw, Bool.and_eq_true] at h
  obtain ⟨a, rfl, h1, h2⟩ := w_nat (lo := 1) (hi := 64) h.1.1
  obtain ⟨b, rfl, _, h3⟩ := w_nat (lo := 0) (hi := 63) h.1.2
  obtain ⟨c, rfl, _, h4⟩ := w_nat (lo := 0) (hi := 64) h.2
  exact ⟨a, b, c, rfl, rfl, rfl, h1, h2, h3, h4⟩
theorem q17 (n p m : Int) : vcallN X4 1002 17 [i64 n, i64 p, i64 m] = some (longR n p m) := by
  unfold longR
  by_cases hc : inLw n p m = true
  · rw [if_pos hc]
    obtain ⟨n, p, m, rfl, rfl, rfl, h1, h2, h3, h4⟩ := inLw_nat hc
    obtain ⟨H', a, b, _⟩ := fn17_in (X := X4) rfl rfl (N := 1000) (by omega) (fun _ _ => zenv_prim rfl) (zenv_prim rfl) (zenv_prim rfl) (fun _ _ _ => zenv_prim rfl) h1 h2 h3 h4 [] Hp.nil
    refine vcall_of a ?_
    have b := b []
    rw [List.append_nil] at b
    have hi : deepV1 H' (.agg inpsC) = some (.agg inpsC) := rfl
    simp only [deepV, mapO, b, hi]
    rfl
  · rw [if_neg hc]
    exact vcall_of (r17_out (X := X4) rfl (N := 1001) (fun _ _ _ => zenv_prim rfl) n p m (by simpa using hc) []) rfl
def prim5 (f : FuncId) (vs : List V) : Option V :=
  match f, vs with
  | 10, [.c (.d (.int .i64 n)), .c (.d (.int .i64 k))] => some (if (w n 1 64 && w k 1 8) = true then .tup [.c (.d (.str (treeS k.toNat n.toNat))), i64 0] else .tup [.c (.d (.str [])), i64 1])
  | 9, [.c (.d (.int .i64 n)), .c (.d (.int .i64 k))] => some (wideR n k)
  | 17, [.c (.d (.int .i64 n)), .c (.d (.int .i64 p)), .c (.d (.int .i64 m))] => some (longR n p m)
  | f, vs => prim4 f vs
def X5 : Ctx := ⟨fns, prim5, fun _ _ _ => none, fun _ => none⟩
theorem X5_ok : CtxOk Tryd.prog X5 := by
  refine ⟨fns_ok, fun f vs r h => ?_⟩
  simp only [X5, prim5] at h
  split at h
  · cases h; exact ⟨en10.1, vcallN_ok X4_ok (q10 _ _)⟩
  · cases h; exact ⟨en9.1, vcallN_ok X4_ok (q9 _ _)⟩
  · cases h; exact ⟨en17.1, vcallN_ok X4_ok (q17 _ _ _)⟩
  · exact X4_ok.prim f vs r h
end Mini
end Go.Proofs.YtcilepbdddgpoaaDoor
