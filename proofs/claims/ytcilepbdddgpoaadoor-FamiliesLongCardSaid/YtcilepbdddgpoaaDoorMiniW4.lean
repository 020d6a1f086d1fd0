/-
  Four integers in a row, as a parameter: opened, shut, related.
-/
import Derived.Test.YtcilepbdddgpoaaDoorMiniY4
import Derived.Test.YtcilepbdddgpoaaDoorMiniW
import Derived.ProofKit
import Derived.OpenShut
namespace Go.Proofs.YtcilepbdddgpoaaDoor
namespace Mini
open Go Go.ChangeShapes Go.WideShapes Go.ChangeAt Go.RowKit
theorem list_four {α : Type} : ∀ {l : List α}, l.length = 4 → ∃ a b c d, l = [a, b, c, d]
  | [a, b, c, d], _ => ⟨a, b, c, d, rfl⟩
theorem und39 : Tryd.prog.underlying 39 = some (.array 4 3) := by kernel_rfl
theorem und3 : Tryd.prog.underlying 3 = some (.int .i64) := by kernel_rfl
theorem cells39 : Tryd.prog.cellsOf 39 = 4 := by kernel_rfl
theorem cells3 : Tryd.prog.cellsOf 3 = 1 := by kernel_rfl
def wfs (l : List Int) : Prop := ∀ n ∈ l, (Lit.int .i64 n).wf = true
section
variable {H : Type} {enc : TypeId × Value → H} {W : World} {base : Nat} {sp : Nat → Bool} {held : Bool}
theorem trod_z4 {fuel : Nat} {cs : List Value} {x : DataW H × List MemPlace} (h : DataW.trod enc Tryd.prog W base sp held fuel 39 cs = some x) :
    ∃ a b c e : Int, cs = [.int .i64 a, .int .i64 b, .int .i64 c, .int .i64 e] ∧ x = (.agg [.lit (.int .i64 a), .lit (.int .i64 b), .lit (.int .i64 c), .lit (.int .i64 e)], []) ∧ wfs [a, b, c, e] := by
  obtain ⟨xs, m, rfl, rfl, hl, hn, hi⟩ := DataW.trod_array und39 h
  rw [cells39] at hl
  rw [cells3] at hi
  obtain ⟨c0, c1, c2, c3, rfl⟩ := list_four hl
  obtain ⟨x0, x1, x2, x3, rfl⟩ := list_four hn
  obtain ⟨a, h0, rfl, w0⟩ := DataW.trod_int und3 (hi 0 (by omega))
  obtain ⟨b, h1, rfl, w1⟩ := DataW.trod_int und3 (hi 1 (by omega))
  obtain ⟨c, h2, rfl, w2⟩ := DataW.trod_int und3 (hi 2 (by omega))
  obtain ⟨e, h3, rfl, w3⟩ := DataW.trod_int und3 (hi 3 (by omega))
  simp at h0 h1 h2 h3
  subst h0 h1 h2 h3
  refine ⟨a, b, c, e, rfl, rfl, fun n hn => ?_⟩
  simp only [List.mem_cons, List.not_mem_nil, or_false] at hn
  rcases hn with h | h | h | h
  · rw [h]; exact w0
  · rw [h]; exact w1
  · rw [h]; exact w2
  · rw [h]; exact w3
theorem open_z4 {v : Value} {d : DataW H} {p : List MemPlace} (h : DataW.Trod enc Tryd.prog W base sp held 39 v d p) :
    ∃ a b c e : Int, v = .agg #[.int .i64 a, .int .i64 b, .int .i64 c, .int .i64 e] ∧ d = .agg [.lit (.int .i64 a), .lit (.int .i64 b), .lit (.int .i64 c), .lit (.int .i64 e)] ∧ p = [] ∧ wfs [a, b, c, e] := by
  obtain ⟨fuel, hf⟩ := h
  obtain ⟨a, b, c, e, h1, h2, h3⟩ := trod_z4 hf
  simp only [Prod.mk.injEq] at h2
  refine ⟨a, b, c, e, ?_, h2.1, h2.2, h3⟩
  have hsz := congrArg List.length h1
  cases v with
  | agg cs =>
    have : cs.toList = [.int .i64 a, .int .i64 b, .int .i64 c, .int .i64 e] := h1
    cases cs
    simp only at this
    rw [this]
  | _ => simp [Value.cells] at hsz
theorem shut_z4 {a b c e : Int} (h : wfs [a, b, c, e]) : DataW.Trod enc Tryd.prog W base sp held 39 (.agg #[.int .i64 a, .int .i64 b, .int .i64 c, .int .i64 e]) (.agg [.lit (.int .i64 a), .lit (.int .i64 b), .lit (.int .i64 c), .lit (.int .i64 e)]) [] := by
  have h0 := h a (by simp)
  have h1 := h b (by simp)
  have h2 := h c (by simp)
  have h3 := h e (by simp)
  refine ⟨2, ?_⟩
  simp [DataW.trod, Value.cells, cells39, cells3, List.range, List.range.loop, h0, h1, h2, h3]
end
theorem rel_z4 {I : Imm} {a b c e : Int} : RelVs (mm I) [.agg (z4 a b c e)] [.agg #[.int .i64 a, .int .i64 b, .int .i64 c, .int .i64 e]] := by
  simp [RelVs, RelV, RelCs, RelC, RelD, z4]
end Mini
end Go.Proofs.YtcilepbdddgpoaaDoor
