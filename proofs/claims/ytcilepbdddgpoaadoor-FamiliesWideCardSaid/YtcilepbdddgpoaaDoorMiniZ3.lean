/-
  The definition's long path: all rounds; what it returns, read out.
-/
import Derived.Test.YtcilepbdddgpoaaDoorMiniZ2
namespace Go.Proofs.YtcilepbdddgpoaaDoor
namespace Mini
open Go

def blankC : List C := recC false false (.d .nils) (.d .nils)
def os0 (g k : Nat) : V := .c (.os 0 g 0 k 8 none)
def RZ (n p m : Nat) (r4 : V) (i : Nat) : List V := [i64 n, i64 p, i64 m, .any, r4, i64 (i + 1 : Nat), .any, .any, .any, .any, .any, .any]
theorem roundZ {X : Ctx} (hX34 : X.fns 34 = some fn34) (hX35 : X.fns 35 = some fn35) {N M n p m i : Nat} {rs : List (List C)} {H : Heap} (hM : 1000 ≤ M)
    (hv : ∀ i k, (zenv X (N + 1)).vcall 26 [.c (.d (.int .i64 i)), .c (.d (.int .i64 k))] = some (.agg (polE i k))) (h33 : (zenv X (N + 1)).vcall 33 [] = some (.agg blankC)) (h40 : (zenv X (N + 1)).vcall 40 [] = some (.agg anyE))
    (hp : p < 900) (hm : m < 900) (hin : i < n) (hn : n < 900) (hH : Hp H.length H) (h0 : H[0]? = some (.cells rs.flatten i false)) (hrs : ∀ e ∈ rs, e.length = 8) (hri : rs.length = i) :
    ∃ H4 P M', exec (zenv X (N + 1)) M false fn20L2 ⟨RZ n p m (os0 i i) i, H⟩ = some (.nrm, ⟨[i64 n, i64 p, i64 m, .any, os0 (i + 1) (i + 1), i64 (i + 1 + 1 : Nat), .c (.ptr H.length 0 0), .any, i64 (m + 1 : Nat), .any, .any, bl false], (H4 ++ [.cells (recC true (decide (0 < m)) P M') 0 false]).set 0 (.cells (rs ++ [recC true (decide (0 < m)) P M']).flatten (i + 1) false)⟩) ∧
      Hp H4.length H4 ∧ H.length < H4.length ∧ (∀ j, j < H.length → H4[j]? = H[j]?) ∧ ArrAt H4 (H.length + 1) 18 P ((polA i p).map polC) ∧ ArrAt H4 (H.length + 1) 34 M' (mapL i p m 0 m) := by
  have hl0 : 0 < H.length := (List.getElem?_eq_some_iff.1 h0).1
  have hl1 : (H ++ [Ob.cells blankC 0 false]).length = H.length + 1 := by simp
  have hR1 : RecAt (H ++ [.cells blankC 0 false]) (H ++ [.cells blankC 0 false]) H.length (H.length + 1) (H.length + 1) false false [] [] :=
    ⟨by rw [hl1]; exact (hH.mono (by omega)).app (Hp.cons rfl Hp.nil), fun _ _ => rfl, ⟨by omega, by omega⟩, .d .nils, .d .nils, at0, Or.inl ⟨rfl, rfl⟩, Or.inl ⟨rfl, rfl⟩, fun _ _ _ _ _ _ _ _ _ _ e => by cases e⟩
  obtain ⟨hp', H2, hA, hR2, hl2⟩ := loopP hX34 (M := M) (n := n) (m := m) (i := i) (r4 := os0 i i) hv hp p 0 M false [] _ (by omega) (by omega) rfl (fun e he => by cases he) (fun e he => by cases he) hR1
  have hps : ∀ e ∈ (polL i 0 p).map polC, e.length = 18 := fun e he => by
    obtain ⟨x, hx, rfl⟩ := List.mem_map.1 he; exact polC_len (polL_17 i 0 p x hx)
  have hpd : ∀ e ∈ (polL i 0 p).map polC, e.all C.isD = true := fun e he => by
    obtain ⟨x, hx, rfl⟩ := List.mem_map.1 he; exact polC_dd (polL_d i 0 p x hx)
  rw [List.nil_append] at hR2
  obtain ⟨P1, M1, rec', H3, c1, c2, c3, ⟨c, c4, c4'⟩, hR3, hl3⟩ := list_step hX34 (N := N) (a := anyE) rfl rfl hR2 hps hpd (by rw [List.length_map, polL_len]; omega) (by omega)
  have hl3' : (H3.set H.length (.cells rec' 0 false)).length = H3.length := List.length_set
  have hR3' := hR3.rebm (bm' := H3.length) (by omega)
  obtain ⟨H4, hB, hR4, hl4⟩ := loopM hX35 (M := M) (n := n) (i := i) (r4 := os0 i i) hv hp hm m 0 M false [] _ (by omega) (by omega) rfl (fun e he => by cases he) (fun e he => by cases he) hR3' (by omega) (by simp)
  obtain ⟨hH4, low4, wid4, P, M', d1, d2, d3, d4⟩ := hR4
  have h04 : H4[0]? = some (.cells rs.flatten i false) := by rw [low4 0 hl0]; exact atL h0
  have hsp := splice_all (c := c) (new := rec') (by omega)
  have e0 : ((i + 1 : Nat) : Int) ≤ (n : Int) := by omega
  have e1 : IntKind.i64.wrap (((i + 1 : Nat) : Int) + 1) = ((i + 1 + 1 : Nat) : Int) := wrap_succ (by omega)
  have t1 : ∀ a b, tidy (H.length + 1) (some [0, 1, 2, 4, 5, 6, 7]) ⟨[i64 n, i64 p, i64 m, .any, os0 i i, i64 (i + 1 : Nat), .c (.ptr H.length 0 0), i64 1, a, b, .any, .any], H ++ [.cells blankC 0 false]⟩ = ⟨RP n p m (os0 i i) i H.length 0, H ++ [.cells blankC 0 false]⟩ := fun a b =>
    (show _ = gc (H.length + 1) ⟨RP n p m (os0 i i) i H.length 0, H ++ [.cells blankC 0 false]⟩ from rfl).trans (gc_le (by simp))
  have t2 : ∀ a b c, tidy H3.length (some [0, 1, 2, 4, 5, 6, 8]) ⟨[i64 n, i64 p, i64 m, .any, os0 i i, i64 (i + 1 : Nat), .c (.ptr H.length 0 0), a, i64 1, b, c, .any], H3.set H.length (.cells rec' 0 false)⟩ = ⟨RM n p m (os0 i i) i H.length 0, H3.set H.length (.cells rec' 0 false)⟩ := fun a b c =>
    (show _ = gc H3.length ⟨RM n p m (os0 i i) i H.length 0, H3.set H.length (.cells rec' 0 false)⟩ from rfl).trans (gc_le (by simp))
  have hfl : rs.flatten.length = i * 8 := by rw [flat_len rs hrs, hri]
  have htk : rs.flatten.take (i * 8) = rs.flatten := by rw [← hfl, List.take_length]
  have hap : rs.flatten ++ recC true (decide (0 < m)) P M' = (rs ++ [recC true (decide (0 < m)) P M']).flatten := by simp
  have hb : i + 1 ≤ 1073741824 := by omega
  have l8 : ∀ a : List C, a.length = 8 → lay [C.d (.bool false), .d (.bool false), .d .nils, .d (.bool false), .d .nils, .d (.int .i64 0), .d (.int .i64 0), .d (.int .i64 0)] [(0, 8, .agg a)] = some a := fun a ha => by
    simp [lay, V.cells, splice, ha]
  have hat : ∀ t, (H4 ++ t)[0]? = some (Ob.cells rs.flatten i false) := fun t => atL h04
  have h17 : anyE.length = 17 := rfl
  have hafl : anyE.all C.flat = true := rfl
  have hbfl : blankC.all C.flat = true := rfl
  have hbl8 : blankC.length = 8 := rfl
  refine ⟨H4, P, M', ?_, hH4, by omega, fun j hj => by rw [low4 j hj, List.getElem?_append_left hj], ?_, ?_⟩
  · simp only [RP, RM, os0, i64, bl, put, Nat.zero_add, Int.ofNat_one] at hA hB t1 t2
    simp only [fn20L2, RZ, os0, e0, e1, h33, h40, byValue, mapO, V.flat, V.flat1, hafl, hbfl, hbl8, t1, hA, c1, rec_take, rec_len, zenv_call, c2, c3, c4, c4', hsp, hl3', t2, hB, d1, rep, List.map_cons, List.map_nil, l8 _ rec_len, elems, at0, hat, hfl, htk, hap, hb, List.append_assoc, List.cons_append, List.nil_append, List.length_append, List.drop_zero, Nat.le_refl, exec, runOps, wants, Mini.step, stepP, stepE, O.eff, Mini.look, nth, put, exports, bin, binInt, i64, bl, ob_eq, setOb_eq, ofCells, V.cells, List.length_cons, List.length_nil, Option.map_some, if_true, if_false, decide_true, List.append_nil, List.all_nil, cond_true, Nat.zero_add, Nat.one_mul, and_self, reduceCtorEq, Bool.false_eq_true, and_true]
  · simpa [polA] using d2
  · have : ArrAt H4 H3.length 34 M' (mapL i p m 0 m) := by simpa using d3
    rcases this with h | ⟨id, g, h1, h2, h3⟩
    · exact Or.inl h
    · exact Or.inr ⟨id, g, h1, by omega, h3⟩
end Mini
end Go.Proofs.YtcilepbdddgpoaaDoor
