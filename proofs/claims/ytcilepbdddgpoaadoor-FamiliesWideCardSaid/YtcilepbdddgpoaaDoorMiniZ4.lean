/-
  The definition's long path, told.
-/
import Derived.Test.YtcilepbdddgpoaaDoorMiniZ3
namespace Go.Proofs.YtcilepbdddgpoaaDoor
namespace Mini
open Go

structure InvZ (p m : Nat) (f g : Nat → List (List C)) (H : Heap) (i : Nat) (rs : List (List C)) : Prop where
  hp : Hp H.length H
  arr : H[0]? = some (.cells rs.flatten i false)
  len : rs.length = i
  eig : ∀ e ∈ rs, e.length = 8
  each : ∀ k, k < i → ∃ P M, rs[k]? = some (recC true (decide (0 < m)) P M) ∧ ArrAt H 1 18 P (f k) ∧ ArrAt H 1 34 M (g k)
theorem arr_low {H : Heap} {b b' sz : Nat} {P : C} {es : List (List C)} (h : ArrAt H b sz P es) (hb : b' ≤ b) : ArrAt H b' sz P es := by
  rcases h with h | ⟨id, g, h1, h2, h3⟩
  · exact Or.inl h
  · exact Or.inr ⟨id, g, h1, by omega, h3⟩
theorem inv_next {p m : Nat} {f g : Nat → List (List C)} {H H4 : Heap} {i : Nat} {rs : List (List C)} {P M : C} (h : InvZ p m f g H i rs) (hp : Hp H4.length H4) (hl : H.length < H4.length) (hlow : ∀ j, j < H.length → H4[j]? = H[j]?) (a1 : ArrAt H4 (H.length + 1) 18 P (f i)) (a2 : ArrAt H4 (H.length + 1) 34 M (g i)) :
    InvZ p m f g ((H4 ++ [Ob.cells (recC true (decide (0 < m)) P M) 0 false]).set 0 (.cells (rs ++ [recC true (decide (0 < m)) P M]).flatten (i + 1) false)) (i + 1) (rs ++ [recC true (decide (0 < m)) P M]) := by
  have h0 : 0 < H.length := (List.getElem?_eq_some_iff.1 h.arr).1
  have hu : (recC true (decide (0 < m)) P M).all (uC (H4.length + 1)) = true := recC_u (arr_u a1 (by omega)) (arr_u a2 (by omega))
  have hlen : ((H4 ++ [Ob.cells (recC true (decide (0 < m)) P M) 0 false]).set 0 (.cells (rs ++ [recC true (decide (0 < m)) P M]).flatten (i + 1) false)).length = H4.length + 1 := by simp
  have hk : ∀ j, j ≠ 0 → j < H4.length → ((H4 ++ [Ob.cells (recC true (decide (0 < m)) P M) 0 false]).set 0 (.cells (rs ++ [recC true (decide (0 < m)) P M]).flatten (i + 1) false))[j]? = H4[j]? := fun j h1 h2 => by
    rw [List.getElem?_set_ne (by omega), List.getElem?_append_left h2]
  have hold : ∀ e ∈ rs, e.all (uC (H4.length + 1)) = true := fun e he => by
    obtain ⟨k, hk⟩ := List.mem_iff_getElem?.1 he
    have hlt : k < i := by rw [← h.len]; exact (List.getElem?_eq_some_iff.1 hk).1
    obtain ⟨P', M', e1, e2, e3⟩ := h.each k hlt
    rw [hk, Option.some.injEq] at e1
    subst e1
    exact recC_u (arr_u e2 (by omega)) (arr_u e3 (by omega))
  refine ⟨?_, List.getElem?_set_self (by rw [List.length_append]; omega), by simp [h.len], mem_snoc h.eig rec_len, ?_⟩
  · rw [hlen]
    exact ((hp.mono (by omega)).app (Hp.cells hu Hp.nil)).setc (flat_u (mem_snoc hold hu))
  · intro k hki
    by_cases he : k = i
    · subst he
      refine ⟨P, M, ?_, arr_keep (arr_low a1 (by omega)) fun j g e => ?_, arr_keep (arr_low a2 (by omega)) fun j g e => ?_⟩
      · rw [List.getElem?_append_right (by rw [h.len]; exact Nat.le_refl _), h.len]; simp
      · rcases a1 with ⟨_, h1⟩ | ⟨id, g', h1, h2, h3, _⟩
        · rw [h1] at e; cases e
        · rw [h1] at e; cases e; exact hk _ (by omega) (List.getElem?_eq_some_iff.1 h3).1
      · rcases a2 with ⟨_, h1⟩ | ⟨id, g', h1, h2, h3, _⟩
        · rw [h1] at e; cases e
        · rw [h1] at e; cases e; exact hk _ (by omega) (List.getElem?_eq_some_iff.1 h3).1
    · obtain ⟨P', M', e1, e2, e3⟩ := h.each k (by omega)
      refine ⟨P', M', by rw [List.getElem?_append_left (by rw [h.len]; omega)]; exact e1, arr_keep e2 fun j g e => ?_, arr_keep e3 fun j g e => ?_⟩
      · rcases e2 with ⟨_, h1⟩ | ⟨id, g', h1, h2, h3, _⟩
        · rw [h1] at e; cases e
        · rw [h1] at e; cases e
          have := (List.getElem?_eq_some_iff.1 h3).1
          exact (hk _ (by omega) (Nat.lt_trans this hl)).trans (hlow _ this)
      · rcases e3 with ⟨_, h1⟩ | ⟨id, g', h1, h2, h3, _⟩
        · rw [h1] at e; cases e
        · rw [h1] at e; cases e
          have := (List.getElem?_eq_some_iff.1 h3).1
          exact (hk _ (by omega) (Nat.lt_trans this hl)).trans (hlow _ this)
theorem inv_back {p m : Nat} {f g : Nat → List (List C)} {H : Heap} {i : Nat} {rs : List (List C)} (h : InvZ p m f g H i rs) (hi : 0 < i) (hf : f 0 ≠ []) : ∃ o, H[0]? = some o ∧ o.under 1 = false := by
  obtain ⟨P, M, e1, e2, _⟩ := h.each 0 hi
  rcases e2 with ⟨h1, _⟩ | ⟨id, g', rfl, h2, h3, _⟩
  · exact absurd h1 hf
  · exact ⟨_, h.arr, undersC_false (c := .os id g' 0 (f 0).length 18 none) (decide_eq_false (by omega)) (List.mem_flatten.2 ⟨_, List.mem_of_getElem? e1, by simp [recC]⟩)⟩
theorem endZ {E : Env} {M n p m : Nat} {r4 : V} {H : Heap} : exec E M false fn20L2 ⟨RZ n p m r4 n, H⟩ = some (.exit 0, ⟨put (RZ n p m r4 n) 9 (bl false), H⟩) := by
  have e0 : ¬ ((n + 1 : Nat) : Int) ≤ (n : Int) := by omega
  simp only [fn20L2, RZ, e0, exec, runOps, wants, Mini.step, stepP, stepE, O.eff, Mini.look, nth, put, exports, bin, binInt, i64, bl, Option.map_some, if_true, if_false, decide_false, List.append_nil, List.all_nil, cond_false, Bool.false_eq_true]
theorem loopZ {X : Ctx} (hX34 : X.fns 34 = some fn34) (hX35 : X.fns 35 = some fn35) {N M n p m : Nat} (hM : 1000 ≤ M)
    (hv : ∀ i k, (zenv X (N + 1)).vcall 26 [.c (.d (.int .i64 i)), .c (.d (.int .i64 k))] = some (.agg (polE i k))) (h33 : (zenv X (N + 1)).vcall 33 [] = some (.agg blankC)) (h40 : (zenv X (N + 1)).vcall 40 [] = some (.agg anyE))
    (hp : p < 900) (hm : m < 900) (hn : n < 900) : ∀ (c i fuel : Nat) (H : Heap) (rs : List (List C)), i + c = n → c < fuel → InvZ p m (fun k => (polA k p).map polC) (fun k => mapL k p m 0 m) H i rs →
    ∃ H' rs', iter (some [0, 1, 2, 4, 5]) 1 (exec (zenv X (N + 1)) M false fn20L2) fuel ⟨RZ n p m (os0 i i) i, H⟩ = some (.exit 0, ⟨put (RZ n p m (os0 n n) n) 9 (bl false), H'⟩) ∧ InvZ p m (fun k => (polA k p).map polC) (fun k => mapL k p m 0 m) H' n rs' := by
  intro c
  induction c with
  | zero =>
    intro i fuel H rs a1 a2 a3
    obtain ⟨f, rfl⟩ : ∃ f, fuel = f + 1 := ⟨fuel - 1, by omega⟩
    obtain rfl : i = n := by omega
    exact ⟨H, rs, iter_stop endZ, a3⟩
  | succ c ih =>
    intro i fuel H rs a1 a2 a3
    obtain ⟨f, rfl⟩ : ∃ f, fuel = f + 1 := ⟨fuel - 1, by omega⟩
    obtain ⟨H4, P, M', hr, h1, h2, h3, h4, h5⟩ := roundZ hX34 hX35 (M := M) hM hv h33 h40 hp hm (by omega : i < n) hn a3.hp a3.arr a3.eig a3.len
    have inv := inv_next a3 h1 h2 h3 h4 h5
    obtain ⟨o, ho, hou⟩ := inv_back inv (by omega) (by simp [polA])
    have ht : ∀ a b c, tidy 1 (some [0, 1, 2, 4, 5]) ⟨[i64 n, i64 p, i64 m, .any, os0 (i + 1) (i + 1), i64 (i + 1 + 1 : Nat), a, .any, b, .any, .any, c], (H4 ++ [Ob.cells (recC true (decide (0 < m)) P M') 0 false]).set 0 (.cells (rs ++ [recC true (decide (0 < m)) P M']).flatten (i + 1) false)⟩ = ⟨RZ n p m (os0 (i + 1) (i + 1)) (i + 1), (H4 ++ [Ob.cells (recC true (decide (0 < m)) P M') 0 false]).set 0 (.cells (rs ++ [recC true (decide (0 < m)) P M']).flatten (i + 1) false)⟩ := fun a b c =>
      (show _ = gc 1 ⟨RZ n p m (os0 (i + 1) (i + 1)) (i + 1), _⟩ from rfl).trans (gc_no2 ho (by omega) hou)
    rw [iter_step hr, ht]
    exact ih (i + 1) f _ _ (by omega) (by omega) inv

/-! ### Read out -/
def recR (pd md : List D) (a m : Nat) : List D := [.bool false, .bool true, .sl pd a, .bool (decide (0 < m)), (if m = 0 then .nils else .sl md m), .int .i64 (-1), .int .i64 (-1), .int .i64 (-1)]
def recsR (F : Nat → List D) : Nat → List D
  | 0 => []
  | i + 1 => recsR F i ++ F i
theorem deep_arr {H : Heap} {b sz k : Nat} {P : C} {es : List (List C)} (h : ArrAt H b sz P es) (h1 : ∀ e ∈ es, e.length = sz) (h3 : ∀ e ∈ es, e.all C.isD = true) : deepC H (k + 1) P = some (if es.length = 0 then .nils else .sl (es.flatten.map unD) es.length) := by
  rcases h with ⟨rfl, rfl⟩ | ⟨id, g, rfl, _, h4, h5⟩
  · rfl
  · rw [if_neg (by simpa using h5)]
    exact deep_os h4 h1 rfl h3
theorem deep_recR {H : Heap} {k : Nat} {P M : C} {ps ms : List (List C)} {m : Nat} (a1 : ArrAt H 1 18 P ps) (a2 : ArrAt H 1 34 M ms) (p1 : ∀ e ∈ ps, e.length = 18) (p2 : ∀ e ∈ ps, e.all C.isD = true) (m1' : ∀ e ∈ ms, e.length = 34) (m2 : ∀ e ∈ ms, e.all C.isD = true) (hne : ps.length ≠ 0) (hm : ms.length = m) :
    mapO (deepC H (k + 1)) (recC true (decide (0 < m)) P M) = some (recR (ps.flatten.map unD) (ms.flatten.map unD) ps.length m) := by
  have a := deep_arr (k := k) a1 p1 p2
  have b := deep_arr (k := k) a2 m1' m2
  rw [if_neg hne] at a
  rw [hm] at b
  simp only [recC, m1, mapO, deepC_dd, a, b]
  rfl
theorem deep_recsR {p m k : Nat} {f g : Nat → List (List C)} {F : Nat → List D} {H : Heap} {i : Nat} {rs : List (List C)} (h : InvZ p m f g H i rs) (hF : ∀ j P M, ArrAt H 1 18 P (f j) → ArrAt H 1 34 M (g j) → mapO (deepC H (k + 1)) (recC true (decide (0 < m)) P M) = some (F j)) :
    ∀ j, j ≤ i → mapO (deepC H (k + 1)) (rs.take j).flatten = some (recsR F j)
  | 0, _ => rfl
  | j + 1, hj => by
    obtain ⟨P, M, e1, e2, e3⟩ := h.each j (by omega)
    have : rs.take (j + 1) = rs.take j ++ [recC true (decide (0 < m)) P M] := by
      obtain ⟨hlt, he⟩ := List.getElem?_eq_some_iff.1 e1
      rw [List.take_succ_eq_append_getElem hlt, he]
    rw [this, List.flatten_append, List.flatten_singleton, recsR]
    exact mapO_app _ (deep_recsR h hF j (by omega)) (hF j P M e2 e3)
theorem deep_refs {p m : Nat} {f g : Nat → List (List C)} {F : Nat → List D} {H : Heap} {n : Nat} {rs : List (List C)} (h : InvZ p m f g H n rs) (hF : ∀ j P M, ArrAt H 1 18 P (f j) → ArrAt H 1 34 M (g j) → mapO (deepC H 7) (recC true (decide (0 < m)) P M) = some (F j)) :
    deepV H (os0 n n) = some (.c (.d (.sl (recsR F n) n))) := by
  have hl : rs.flatten.length = n * 8 := by rw [flat_len rs h.eig, h.len]
  have hr := deep_recsR (k := 6) h hF n (Nat.le_refl _)
  rw [List.take_of_length_le (by rw [h.len]; exact Nat.le_refl _)] at hr
  simp only [deepV, deepV1, deepMax, os0, deepC, ob_eq, h.arr, if_true, Nat.zero_add, hl, Nat.le_refl, List.drop_zero]
  rw [← hl, List.take_length, hr]
  rfl
def recRL (p m i : Nat) : List D := recR (polsD i p) (mapsD i p m) (p + 1) m
theorem fn20_ok {X : Ctx} (hX : X.fns 20 = some fn20) (hX34 : X.fns 34 = some fn34) (hX35 : X.fns 35 = some fn35) {N n p m : Nat} (hN : 1000 ≤ N)
    (hv : ∀ i k, (zenv X (N + 1)).vcall 26 [.c (.d (.int .i64 i)), .c (.d (.int .i64 k))] = some (.agg (polE i k))) (h33 : (zenv X (N + 1)).vcall 33 [] = some (.agg blankC)) (h40 : (zenv X (N + 1)).vcall 40 [] = some (.agg anyE))
    (hp : p < 900) (hm : m < 900) (hn : n < 900) : vcallN X (N + 2) 20 [i64 n, i64 p, i64 m] = some (.c (.d (.sl (recsR (recRL p m) n) n))) := by
  have inv0 : InvZ p m (fun k => (polA k p).map polC) (fun k => mapL k p m 0 m) [.cells [] 0 false] 0 [] :=
    ⟨Hp.cons rfl Hp.nil, rfl, rfl, (fun e he => by cases he), (fun k hk => by omega)⟩
  obtain ⟨H', rs, hl, inv⟩ := loopZ hX34 hX35 (M := N + 1) (by omega) hv h33 h40 hp hm hn n 0 (N + 1) _ _ (by omega) (by omega) inv0
  have hd := deep_refs inv (F := recRL p m) fun j P M a1 a2 => deep_recR a1 a2 (polC_18 j p) (polC_d j p) (mapL_34 j p m 0 m) (mapL_d j p m 0 m) (by simp [polA]) (mapL_len j p m 0 m) |>.trans (by simp [recRL, polsD, mapsD, polA, polL_len])
  have t1 : tidy 1 (some [0, 1, 2, 4, 5]) ⟨[i64 n, i64 p, i64 m, .c (.d .nils), os0 0 0, i64 1, .any, .any, .any, .any, .any, .any], [.cells [] 0 false]⟩ = ⟨RZ n p m (os0 0 0) 0, [.cells [] 0 false]⟩ := rfl
  refine vcall_of (r := os0 n n) (H := H') ?_ hd
  rw [fn20_is] at hX
  rw [callN_fn hX]
  simp only [RZ, os0, i64, put, bl] at hl t1
  simp only [fn20', runFn, pad, List.replicate, Nat.reduceSub, List.cons_append, List.nil_append, freshen, t1, hl, os0, results, result, mapO, exec, runOps, wants, Mini.step, stepP, stepE, O.eff, Mini.look, nth, put, exports, i64, List.length_cons, List.length_nil, Option.map_some, if_true, if_false, List.append_nil, List.all_nil, Nat.zero_add, Bool.false_eq_true, Nat.reduceAdd]
end Mini
end Go.Proofs.YtcilepbdddgpoaaDoor
