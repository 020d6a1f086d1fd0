/-
  The definition's long path: its loops, walked.
-/
import Derived.Test.YtcilepbdddgpoaaDoorMiniZ1
namespace Go.Proofs.YtcilepbdddgpoaaDoor
namespace Mini
open Go

theorem rec_take {hp hm : Bool} {P M : C} : (recC hp hm P M).take 8 = recC hp hm P M := rfl
theorem rec_len {hp hm : Bool} {P M : C} : (recC hp hm P M).length = 8 := rfl
theorem splice_all {c new : List C} (h : c.length = new.length) : splice c 0 new = new := by
  unfold splice
  rw [List.take_zero, List.nil_append, Nat.zero_add, List.drop_eq_nil_of_le (by omega), List.append_nil]
theorem RecAt.pol_back {H0 H : Heap} {R bp bm : Nat} {hp hm : Bool} {ps ms : List (List C)} (h : RecAt H0 H R bp bm hp hm ps ms) (hne : ps ≠ []) : ∃ o, H[R]? = some o ∧ o.under bp = false := by
  obtain ⟨P, M, h1, h2, _, _⟩ := h.cel
  rcases h2 with ⟨rfl, _⟩ | ⟨id, g, rfl, h3, _, _⟩
  · exact absurd rfl hne
  · exact ⟨_, h1, undersC_false (c := .os id g 0 ps.length 18 none) (decide_eq_false (by omega)) (by simp [recC])⟩
theorem RecAt.map_back {H0 H : Heap} {R bp bm : Nat} {hp hm : Bool} {ps ms : List (List C)} (h : RecAt H0 H R bp bm hp hm ps ms) (hne : ms ≠ []) : ∃ o, H[R]? = some o ∧ o.under bm = false := by
  obtain ⟨P, M, h1, _, h2, _⟩ := h.cel
  rcases h2 with ⟨rfl, _⟩ | ⟨id, g, rfl, h3, _, _⟩
  · exact absurd rfl hne
  · exact ⟨_, h1, undersC_false (c := .os id g 0 ms.length 34 none) (decide_eq_false (by omega)) (by simp [recC])⟩
theorem RecAt.rebm {H0 H : Heap} {R bp bm bm' : Nat} {hp hm : Bool} {ps : List (List C)} (h : RecAt H0 H R bp bm hp hm ps []) (hb : bm' > R) : RecAt H0 H R bp bm' hp hm ps [] := by
  obtain ⟨a, b, c, P, M, h1, h2, h3, h4⟩ := h
  refine ⟨a, b, ⟨c.1, hb⟩, P, M, h1, h2, ?_, h4⟩
  rcases h3 with h3 | ⟨id, g, _, _, _, h7⟩
  · exact Or.inl h3
  · exact absurd rfl h7
/-- Registers: L the number in register 7 or 8. -/
def RP (n p m : Nat) (r4 : V) (i R k : Nat) : List V := [i64 n, i64 p, i64 m, .any, r4, i64 (i + 1 : Nat), .c (.ptr R 0 0), i64 (k + 1 : Nat), .any, .any, .any, .any]
def RM (n p m : Nat) (r4 : V) (i R k : Nat) : List V := [i64 n, i64 p, i64 m, .any, r4, i64 (i + 1 : Nat), .c (.ptr R 0 0), .any, i64 (k + 1 : Nat), .any, .any, .any]
theorem polC_len {a : List C} (h : a.length = 17) : (polC a).length = 18 := by simp [polC, h]
theorem polC_dd {a : List C} (h : a.all C.isD = true) : (polC a).all C.isD = true := by rw [polC, List.all_append, h]; rfl
theorem mem_snoc {α : Type} {P : α → Prop} {l : List α} {x : α} (h : ∀ e ∈ l, P e) (hx : P x) : ∀ e ∈ l ++ [x], P e := fun e he => by
  rcases List.mem_append.1 he with h' | h'
  · exact h e h'
  · rw [List.mem_singleton.1 h']; exact hx
theorem roundP {X : Ctx} (hX : X.fns 34 = some fn34) {N M n p m i R k bm : Nat} {r4 : V} {hp hm : Bool} {ps ms : List (List C)} {H0 H : Heap} (hv : ∀ i k, (zenv X (N + 1)).vcall 26 [.c (.d (.int .i64 i)), .c (.d (.int .i64 k))] = some (.agg (polE i k))) (hR : RecAt H0 H R (R + 1) bm hp hm ps ms) (hx : ∀ e ∈ ps, e.length = 18) (hxd : ∀ e ∈ ps, e.all C.isD = true) (hk : k < p) (hp1 : p < 900) (hl : ps.length = k) :
    ∃ H', exec (zenv X (N + 1)) M false fn20L1 ⟨RP n p m r4 i R k, H⟩ = some (.nrm, ⟨put (RP n p m r4 i R (k + 1)) 10 (bl true), H'⟩) ∧ RecAt H0 H' R (R + 1) bm true hm (ps ++ [polC (polE (i + 1 : Nat) (k + 1 : Nat))]) ms ∧ H.length ≤ H'.length := by
  have hRl : R + 1 ≤ H.length := by
    obtain ⟨P, M, h1, _⟩ := hR.cel
    exact (List.getElem?_eq_some_iff.1 h1).1
  obtain ⟨P, M', rec', H1, h1, h2, h3, ⟨c, h4, h4'⟩, h5, h6⟩ := list_step hX (N := N) (a := polE (i + 1 : Nat) (k + 1 : Nat)) rfl rfl hR hx hxd (by omega) hRl
  refine ⟨_, ?_, h5, by rw [List.length_set]; exact h6⟩
  have e0 : ((k + 1 : Nat) : Int) ≤ (p : Int) := by omega
  have e1 : IntKind.i64.wrap (((k + 1 : Nat) : Int) + 1) = ((k + 1 + 1 : Nat) : Int) := wrap_succ (by omega)
  have hsp := splice_all (c := c) (new := rec') (by omega)
  simp only [fn20L1, RP, e0, e1, h1, rec_take, rec_len, hv, byValue, mapO, deepV1, deepC, V.flat, V.flat1, polE_flat, zenv_call, h2, h4, h4', h3, hsp, List.map_cons, List.map_nil, List.drop_zero, Nat.le_refl, exec, runOps, wants, Mini.step, stepP, stepE, O.eff, Mini.look, nth, put, exports, bin, binInt, i64, bl, ob_eq, setOb_eq, ofCells, V.cells, Option.map_some, if_true, if_false, decide_true, List.append_nil, List.all_nil, cond_true, Nat.zero_add, and_self, Bool.false_eq_true]
theorem endP {E : Env} {M n p m i R : Nat} {r4 : V} {H : Heap} : exec E M false fn20L1 ⟨RP n p m r4 i R p, H⟩ = some (.exit 2, ⟨put (RP n p m r4 i R p) 10 (bl false), H⟩) := by
  have e0 : ¬ ((p + 1 : Nat) : Int) ≤ (p : Int) := by omega
  simp only [fn20L1, RP, e0, exec, runOps, wants, Mini.step, stepP, stepE, O.eff, Mini.look, nth, put, exports, bin, binInt, i64, bl, Option.map_some, if_true, if_false, decide_false, List.append_nil, List.all_nil, cond_false, Bool.false_eq_true]
theorem loopP {X : Ctx} (hX : X.fns 34 = some fn34) {N M n p m i R bm : Nat} {r4 : V} {hm : Bool} {ms : List (List C)} {H0 : Heap} (hv : ∀ i k, (zenv X (N + 1)).vcall 26 [.c (.d (.int .i64 i)), .c (.d (.int .i64 k))] = some (.agg (polE i k))) (hp1 : p < 900) :
    ∀ (c k fuel : Nat) (hp : Bool) (ps : List (List C)) (H : Heap), k + c = p → c < fuel → ps.length = k → (∀ e ∈ ps, e.length = 18) → (∀ e ∈ ps, e.all C.isD = true) → RecAt H0 H R (R + 1) bm hp hm ps ms →
    ∃ hp' H', iter (some [0, 1, 2, 4, 5, 6, 7]) (R + 1) (exec (zenv X (N + 1)) M false fn20L1) fuel ⟨RP n p m r4 i R k, H⟩ = some (.exit 2, ⟨put (RP n p m r4 i R p) 10 (bl false), H'⟩) ∧ RecAt H0 H' R (R + 1) bm hp' hm (ps ++ (polL i k c).map polC) ms ∧ H.length ≤ H'.length := by
  intro c
  induction c with
  | zero =>
    intro k fuel hp ps H a1 a2 a3 a4 a5 a6
    obtain ⟨f, rfl⟩ : ∃ f, fuel = f + 1 := ⟨fuel - 1, by omega⟩
    obtain rfl : k = p := by omega
    exact ⟨hp, H, iter_stop endP, by simpa [polL] using a6, Nat.le_refl _⟩
  | succ c ih =>
    intro k fuel hp ps H a1 a2 a3 a4 a5 a6
    obtain ⟨f, rfl⟩ : ∃ f, fuel = f + 1 := ⟨fuel - 1, by omega⟩
    obtain ⟨H', hr, hR', hlen⟩ := roundP hX (M := M) (n := n) (m := m) (i := i) (r4 := r4) hv a6 a4 a5 (by omega : k < p) hp1 a3
    obtain ⟨o, ho, hou⟩ := hR'.pol_back (by simp)
    have ht : tidy (R + 1) (some [0, 1, 2, 4, 5, 6, 7]) ⟨put (RP n p m r4 i R (k + 1)) 10 (bl true), H'⟩ = ⟨RP n p m r4 i R (k + 1), H'⟩ :=
      (show _ = gc (R + 1) ⟨RP n p m r4 i R (k + 1), H'⟩ from rfl).trans (gc_no2 ho (by omega) hou)
    obtain ⟨hp', H2, h1, h2, h3⟩ := ih (k + 1) f true _ H' (by omega) (by omega) (by simp [a3]) (mem_snoc a4 (polC_len rfl)) (mem_snoc a5 (polC_dd rfl)) hR'
    refine ⟨hp', H2, by rw [iter_step hr, ht]; exact h1, by simpa [polL] using h2, by omega⟩
theorem roundM {X : Ctx} (hX : X.fns 35 = some fn35) {N M n p m i R k bm : Nat} {r4 : V} {hp hm : Bool} {ps ms : List (List C)} {H0 H : Heap} (hv : ∀ i k, (zenv X (N + 1)).vcall 26 [.c (.d (.int .i64 i)), .c (.d (.int .i64 k))] = some (.agg (polE i k))) (hR : RecAt H0 H R (R + 1) bm hp hm ps ms) (hx : ∀ e ∈ ms, e.length = 34) (hxd : ∀ e ∈ ms, e.all C.isD = true) (hk : k < m) (hp1 : p < 900) (hm1 : m < 900) (hl : ms.length = k) (hbl : bm ≤ H.length) :
    ∃ H', exec (zenv X (N + 1)) M false fn20L0 ⟨RM n p m r4 i R k, H⟩ = some (.nrm, ⟨put (RM n p m r4 i R (k + 1)) 11 (bl true), H'⟩) ∧ RecAt H0 H' R (R + 1) bm hp true ps (ms ++ [mapE i p m k]) ∧ H.length ≤ H'.length := by
  obtain ⟨P, M', rec', H1, h1, h2, h3, ⟨c, h4, h4'⟩, h5, h6⟩ := pair_step hX (N := N) (a := polE (i + 1 : Nat) (p + k + 1 : Nat)) (b := polE (i + 1 : Nat) (p + m + k + 1 : Nat)) rfl rfl rfl rfl hR hx hxd (by omega) hbl
  refine ⟨_, ?_, h5, by rw [List.length_set]; exact h6⟩
  have e0 : ((k + 1 : Nat) : Int) ≤ (m : Int) := by omega
  have e1 : IntKind.i64.wrap (((k + 1 : Nat) : Int) + 1) = ((k + 1 + 1 : Nat) : Int) := wrap_succ (by omega)
  have e2 : IntKind.i64.wrap ((p : Int) + ((k + 1 : Nat) : Int)) = ((p + k + 1 : Nat) : Int) := i64_id (by omega) (by omega)
  have e3 : IntKind.i64.wrap ((p : Int) + (m : Int)) = ((p + m : Nat) : Int) := i64_id (by omega) (by omega)
  have e4 : IntKind.i64.wrap (((p + m : Nat) : Int) + ((k + 1 : Nat) : Int)) = ((p + m + k + 1 : Nat) : Int) := i64_id (by omega) (by omega)
  have hsp := splice_all (c := c) (new := rec') (by omega)
  simp only [fn20L0, RM, e0, e1, e2, e3, e4, h1, rec_take, rec_len, hv, byValue, mapO, deepV1, deepC, V.flat, V.flat1, polE_flat, zenv_call, h2, h4, h4', h3, hsp, List.map_cons, List.map_nil, List.drop_zero, Nat.le_refl, exec, runOps, wants, Mini.step, stepP, stepE, O.eff, Mini.look, nth, put, exports, bin, binInt, i64, bl, ob_eq, setOb_eq, ofCells, V.cells, Option.map_some, if_true, if_false, decide_true, List.append_nil, List.all_nil, cond_true, Nat.zero_add, and_self, Bool.false_eq_true]
theorem endM {E : Env} {M n p m i R : Nat} {r4 : V} {H : Heap} : exec E M false fn20L0 ⟨RM n p m r4 i R m, H⟩ = some (.exit 4, ⟨put (RM n p m r4 i R m) 11 (bl false), H⟩) := by
  have e0 : ¬ ((m + 1 : Nat) : Int) ≤ (m : Int) := by omega
  simp only [fn20L0, RM, e0, exec, runOps, wants, Mini.step, stepP, stepE, O.eff, Mini.look, nth, put, exports, bin, binInt, i64, bl, Option.map_some, if_true, if_false, decide_false, List.append_nil, List.all_nil, cond_false, Bool.false_eq_true]
theorem loopM {X : Ctx} (hX : X.fns 35 = some fn35) {N M n p m i R bm : Nat} {r4 : V} {hp : Bool} {ps : List (List C)} {H0 : Heap} (hv : ∀ i k, (zenv X (N + 1)).vcall 26 [.c (.d (.int .i64 i)), .c (.d (.int .i64 k))] = some (.agg (polE i k))) (hp1 : p < 900) (hm1 : m < 900) :
    ∀ (c k fuel : Nat) (hm : Bool) (ms : List (List C)) (H : Heap), k + c = m → c < fuel → ms.length = k → (∀ e ∈ ms, e.length = 34) → (∀ e ∈ ms, e.all C.isD = true) → RecAt H0 H R (R + 1) bm hp hm ps ms → bm ≤ H.length → hm = decide (0 < k) →
    ∃ H', iter (some [0, 1, 2, 4, 5, 6, 8]) bm (exec (zenv X (N + 1)) M false fn20L0) fuel ⟨RM n p m r4 i R k, H⟩ = some (.exit 4, ⟨put (RM n p m r4 i R m) 11 (bl false), H'⟩) ∧ RecAt H0 H' R (R + 1) bm hp (decide (0 < m)) ps (ms ++ mapL i p m k c) ∧ H.length ≤ H'.length := by
  intro c
  induction c with
  | zero =>
    intro k fuel hm ms H a1 a2 a3 a4 a5 a6 a7 a8
    obtain ⟨f, rfl⟩ : ∃ f, fuel = f + 1 := ⟨fuel - 1, by omega⟩
    obtain rfl : k = m := by omega
    subst a8
    exact ⟨H, iter_stop endM, by simpa [mapL] using a6, Nat.le_refl _⟩
  | succ c ih =>
    intro k fuel hm ms H a1 a2 a3 a4 a5 a6 a7 a8
    obtain ⟨f, rfl⟩ : ∃ f, fuel = f + 1 := ⟨fuel - 1, by omega⟩
    obtain ⟨H', hr, hR', hlen⟩ := roundM hX (M := M) (n := n) (i := i) (r4 := r4) hv a6 a4 a5 (by omega : k < m) hp1 hm1 a3 a7
    obtain ⟨o, ho, hou⟩ := hR'.map_back (by simp)
    have hbR := hR'.wid.2
    have ht : tidy bm (some [0, 1, 2, 4, 5, 6, 8]) ⟨put (RM n p m r4 i R (k + 1)) 11 (bl true), H'⟩ = ⟨RM n p m r4 i R (k + 1), H'⟩ :=
      (show _ = gc bm ⟨RM n p m r4 i R (k + 1), H'⟩ from rfl).trans (gc_no2 ho (by omega) hou)
    obtain ⟨H2, h1, h2, h3⟩ := ih (k + 1) f true _ H' (by omega) (by omega) (by simp [a3]) (mem_snoc a4 rfl) (mem_snoc a5 rfl) hR' (by omega) (by simp)
    refine ⟨H2, by rw [iter_step hr, ht]; exact h1, by simpa [mapL] using h2, by omega⟩
end Mini
end Go.Proofs.YtcilepbdddgpoaaDoor
