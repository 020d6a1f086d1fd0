/-
  Families: levels and graphs told; the context of the law on long paths.
-/
import Derived.Test.YtcilepbdddgpoaaDoorMiniL4
import Derived.Test.YtcilepbdddgpoaaDoorMiniX6
import Derived.Test.YtcilepbdddgpoaaDoorMiniR
namespace Go.Proofs.YtcilepbdddgpoaaDoor
namespace Mini
open Go

/-- The size of a level. -/
def levelI (n p m i : Int) : Int :=
  if i = 0 then 1 else if i = n then IntKind.i64.wrap (IntKind.i64.wrap (1 + IntKind.i64.wrap (n * p)) + IntKind.i64.wrap (IntKind.i64.wrap (n - 1) * m)) else IntKind.i64.wrap (1 + IntKind.i64.wrap (i * IntKind.i64.wrap (p + m)))
theorem r39 (N : Nat) (n p m i : Int) : vcallN X5 (N + 1) 39 [i64 n, i64 p, i64 m, i64 i] = some (i64 (levelI n p m i)) := by
  have hX : X5.fns 39 = some fn39' := rfl
  refine vcall_of (H := []) (r := i64 (levelI n p m i)) ?_ rfl
  rw [callN_fn hX, levelI]
  by_cases h0 : i = 0
  · have h0' : (i == 0) = true := by simp [h0]
    simp only [fn39', if_pos h0, h0', runFn, pad, List.replicate, Nat.reduceSub, List.cons_append, List.nil_append, results, result, mapO, exec, runOps, wants, Mini.step, stepP, stepE, O.eff, Mini.look, nth, put, exports, bin, binInt, i64, List.length_cons, List.length_nil, Option.map_some, if_true, if_false, List.all_nil, cond_true, Nat.zero_add, Bool.false_eq_true, Nat.reduceAdd]
  · have h0' : (i == 0) = false := by simp [h0]
    by_cases h1 : i = n
    · have h1' : (i == n) = true := by simp [h1]
      simp only [fn39', if_neg h0, if_pos h1, h0', h1', runFn, pad, List.replicate, Nat.reduceSub, List.cons_append, List.nil_append, results, result, mapO, exec, runOps, wants, Mini.step, stepP, stepE, O.eff, Mini.look, nth, put, exports, bin, binInt, i64, List.length_cons, List.length_nil, Option.map_some, if_true, if_false, List.all_nil, cond_true, cond_false, Nat.zero_add, Bool.false_eq_true, Nat.reduceAdd]
    · have h1' : (i == n) = false := by simp [h1]
      simp only [fn39', if_neg h0, if_neg h1, h0', h1', runFn, pad, List.replicate, Nat.reduceSub, List.cons_append, List.nil_append, results, result, mapO, exec, runOps, wants, Mini.step, stepP, stepE, O.eff, Mini.look, nth, put, exports, bin, binInt, i64, List.length_cons, List.length_nil, Option.map_some, if_true, if_false, List.all_nil, cond_false, Nat.zero_add, Bool.false_eq_true, Nat.reduceAdd]
theorem r16 : vcallN X5 200 16 [.agg inpsC] = some (i64 1) := by
  rw [← vcallF_eq]
  kernel_rfl
theorem r33 : vcallN X5 100 33 [] = some (.agg blankC) := by
  rw [← vcallF_eq]
  kernel_rfl
theorem q20 (n p m : Nat) (h2 : n ≤ 64) (h3 : p ≤ 63) (h4 : m ≤ 64) (X : Ctx) (hX : X.fns = fns) (hv : ∀ i k, X.prim 26 [.c (.d (.int .i64 i)), .c (.d (.int .i64 k))] = some (.agg (polE i k))) (h33 : X.prim 33 [] = some (.agg blankC)) (h40 : X.prim 40 [] = some (.agg anyE)) : vcallN X 1002 20 [i64 n, i64 p, i64 m] = some (slV (recRL p m) n) :=
  fn20_ok (N := 1000) (by rw [hX]; rfl) (by rw [hX]; rfl) (by rw [hX]; rfl) (by omega) (fun i k => zenv_prim (hv i k)) (zenv_prim h33) (zenv_prim h40) (by omega) (by omega) (by omega)
def prim6 (f : FuncId) (vs : List V) : Option V :=
  match f, vs with
  | 39, [.c (.d (.int .i64 n)), .c (.d (.int .i64 p)), .c (.d (.int .i64 m)), .c (.d (.int .i64 i))] => some (i64 (levelI n p m i))
  | 33, [] => some (.agg blankC)
  | f, vs => prim5 f vs
def X6 : Ctx := ⟨fns, prim6, fun _ _ _ => none, fun _ => none⟩
theorem X6_ok : CtxOk Tryd.prog X6 := by
  refine ⟨fns_ok, fun f vs r h => ?_⟩
  simp only [X6, prim6] at h
  split at h
  · cases h; exact ⟨en39.1, vcallN_ok X5_ok (r39 0 _ _ _ _)⟩
  · cases h; exact ⟨en33.1, vcallN_ok X5_ok r33⟩
  · exact X5_ok.prim f vs r h

/-- LongLevel. -/
theorem p37 (N : Nat) (n p m : Int) : (zenv X6 N).vcall 37 [.c (.d (.int .i64 n)), .c (.d (.int .i64 p)), .c (.d (.int .i64 m))] = some (.c (.d (.bool (inLw n p m)))) := zenv_prim rfl
theorem p27' (N : Nat) (v lo hi : Int) : (zenv X6 N).vcall 27 [.c (.d (.int .i64 v)), .c (.d (.int .i64 lo)), .c (.d (.int .i64 hi))] = some (.c (.d (.bool (w v lo hi)))) := zenv_prim rfl
theorem p39 (N : Nat) (n p m i : Int) : (zenv X6 N).vcall 39 [.c (.d (.int .i64 n)), .c (.d (.int .i64 p)), .c (.d (.int .i64 m)), .c (.d (.int .i64 i))] = some (.c (.d (.int .i64 (levelI n p m i)))) := zenv_prim rfl
theorem r19_in (N : Nat) (n p m i : Int) (h : inLw n p m = true) (h' : w i 0 n = true) : vcallN X6 (N + 1) 19 [i64 n, i64 p, i64 m, i64 i] = some (.tup [i64 (levelI n p m i), i64 0]) := by
  have hX : X6.fns 19 = some fn19' := rfl
  refine vcall_of (H := []) (r := .tup [i64 (levelI n p m i), i64 0]) ?_ rfl
  rw [callN_fn hX]
  simp only [fn19', runFn, pad, List.replicate, Nat.reduceSub, List.cons_append, List.nil_append, byValue, mapO, deepV1, deepC, p37, p27', p39, h, h', V.flat, V.flat1, C.flat, D.flat, results, result, Bool.not_true, beq_self_eq_true, exec, runOps, wants, Mini.step, stepP, stepE, O.eff, Mini.look, nth, put, exports, un, i64, List.length_cons, List.length_nil, Option.map_some, if_true, if_false, List.all_nil, cond_false, Nat.zero_add, Bool.false_eq_true, Nat.reduceAdd]
theorem r19_out (N : Nat) (n p m i : Int) (h : (inLw n p m && w i 0 n) = false) : vcallN X6 (N + 1) 19 [i64 n, i64 p, i64 m, i64 i] = some (.tup [i64 0, i64 1]) := by
  have hX : X6.fns 19 = some fn19' := rfl
  refine vcall_of (H := []) (r := .tup [i64 0, i64 1]) ?_ rfl
  rw [callN_fn hX]
  cases h1 : inLw n p m <;> cases h2 : w i 0 n <;> first
    | (rw [h1, h2] at h; cases h; done)
    | simp only [fn19', runFn, pad, List.replicate, Nat.reduceSub, List.cons_append, List.nil_append, byValue, mapO, deepV1, deepC, p37, p27', h1, h2, V.flat, V.flat1, C.flat, D.flat, results, result, Bool.true_beq, Bool.not_true, Bool.not_false, beq_self_eq_true, exec, runOps, wants, Mini.step, stepP, stepE, O.eff, Mini.look, nth, put, exports, un, i64, List.length_cons, List.length_nil, Option.map_some, if_true, if_false, List.all_nil, cond_true, Nat.zero_add, Bool.false_eq_true, Nat.reduceAdd]

/-- LongGraph. -/
def sumL (n p m : Int) : Nat → Int
  | 0 => 0
  | i + 1 => IntKind.i64.wrap (sumL n p m i + levelI n p m i)
def R18 (n p m : Int) (s : Int) (L i : Nat) : List V := [i64 n, i64 p, i64 m, i64 s, .any, .any, .any, .any, i64 L, i64 i, .any]
theorem loop18 {N M : Nat} (n p m : Int) (L : Nat) (hL : L < 1000) : ∀ (c i fuel : Nat), i + c = L → c < fuel →
    iter (some [0, 1, 2, 3, 8, 9]) 0 (exec (zenv X6 N) M false fn18L0) fuel ⟨R18 n p m (sumL n p m i) L i, []⟩ = some (.exit 0, ⟨put (R18 n p m (sumL n p m L) L L) 10 (bl false), []⟩) := by
  intro c
  induction c with
  | zero =>
    intro i fuel a1 a2
    obtain ⟨f, rfl⟩ : ∃ f, fuel = f + 1 := ⟨fuel - 1, by omega⟩
    obtain rfl : i = L := by omega
    refine iter_stop ?_
    simp only [fn18L0, R18, Int.lt_irrefl, exec, runOps, wants, Mini.step, stepP, stepE, O.eff, Mini.look, nth, put, exports, bin, binInt, i64, bl, Option.map_some, if_true, if_false, decide_false, List.append_nil, List.all_nil, cond_false, Bool.false_eq_true]
  | succ c ih =>
    intro i fuel a1 a2
    obtain ⟨f, rfl⟩ : ∃ f, fuel = f + 1 := ⟨fuel - 1, by omega⟩
    have hlt : (i : Int) < (L : Int) := by omega
    have e7 : IntKind.i64.wrap ((i : Int) + 1) = ((i + 1 : Nat) : Int) := wrap_succ (by omega)
    have hr : exec (zenv X6 N) M false fn18L0 ⟨R18 n p m (sumL n p m i) L i, []⟩ = some (.nrm, ⟨put (put (R18 n p m (sumL n p m (i + 1)) L (i + 1)) 6 (i64 i)) 10 (bl true), []⟩) := by
      simp only [fn18L0, R18, hlt, e7, sumL, byValue, mapO, deepV1, deepC, p39, V.flat, V.flat1, C.flat, D.flat, exec, runOps, wants, Mini.step, stepP, stepE, O.eff, Mini.look, nth, put, exports, bin, binInt, i64, bl, Option.map_some, if_true, if_false, decide_true, List.append_nil, List.all_nil, cond_true, Bool.false_eq_true]
    rw [iter_step hr, show tidy 0 (some [0, 1, 2, 3, 8, 9]) ⟨put (put (R18 n p m (sumL n p m (i + 1)) L (i + 1)) 6 (i64 i)) 10 (bl true), []⟩ = ⟨R18 n p m (sumL n p m (i + 1)) L (i + 1), []⟩ from rfl]
    exact ih (i + 1) f (by omega) (by omega)
theorem r18_in (N : Nat) (hN : 1000 ≤ N) (n : Nat) (p m : Int) (hn : n ≤ 64) (h : inLw n p m = true) : vcallN X6 (N + 1) 18 [i64 n, i64 p, i64 m] = some (.tup [i64 (sumL n p m (n + 1)), i64 (IntKind.i64.wrap (sumL n p m (n + 1) - 1)), i64 0]) := by
  have hX : X6.fns 18 = some fn18' := rfl
  have hl := loop18 (N := N) (M := N) n p m (n + 1) (by omega) (n + 1) 0 N (by omega) (by omega)
  have e1 : IntKind.i64.wrap ((n : Int) + 1) = ((n + 1 : Nat) : Int) := wrap_succ (by omega)
  have t1 : ∀ a b c d, tidy 0 (some [0, 1, 2, 3, 8, 9]) ⟨[i64 n, i64 p, i64 m, i64 0, a, b, c, d, i64 (n + 1 : Nat), i64 0, .any], []⟩ = ⟨R18 n p m 0 (n + 1) 0, []⟩ := fun _ _ _ _ => rfl
  refine vcall_of (H := []) (r := .tup [i64 (sumL n p m (n + 1)), i64 (IntKind.i64.wrap (sumL n p m (n + 1) - 1)), i64 0]) ?_ rfl
  rw [callN_fn hX]
  rw [show sumL n p m 0 = 0 from rfl] at hl
  simp only [R18, i64, put, bl, Int.ofNat_zero] at hl t1
  simp only [fn18', runFn, pad, List.replicate, Nat.reduceSub, List.cons_append, List.nil_append, byValue, mapO, deepV1, deepC, p37, h, e1, t1, hl, V.flat, V.flat1, C.flat, D.flat, results, result, Bool.not_true, exec, runOps, wants, Mini.step, stepP, stepE, O.eff, Mini.look, nth, put, exports, bin, binInt, un, i64, List.length_cons, List.length_nil, Option.map_some, if_true, if_false, List.all_nil, cond_false, Nat.zero_add, Bool.false_eq_true, Nat.reduceAdd]
theorem r18_out (N : Nat) (n p m : Int) (h : inLw n p m = false) : vcallN X6 (N + 1) 18 [i64 n, i64 p, i64 m] = some (.tup [i64 0, i64 0, i64 1]) := by
  have hX : X6.fns 18 = some fn18' := rfl
  refine vcall_of (H := []) (r := .tup [i64 0, i64 0, i64 1]) ?_ rfl
  rw [callN_fn hX]
  simp only [fn18', runFn, pad, List.replicate, Nat.reduceSub, List.cons_append, List.nil_append, byValue, mapO, deepV1, deepC, p37, h, V.flat, V.flat1, C.flat, D.flat, results, result, Bool.not_false, exec, runOps, wants, Mini.step, stepP, stepE, O.eff, Mini.look, nth, put, exports, un, i64, List.length_cons, List.length_nil, Option.map_some, if_true, if_false, List.all_nil, cond_true, Nat.zero_add, Bool.false_eq_true, Nat.reduceAdd]
end Mini
end Go.Proofs.YtcilepbdddgpoaaDoor
