/-
  The definition's wide path: its loops, walked; it is told; the wide paths match.
-/
import Derived.Test.YtcilepbdddgpoaaDoorMiniZ4
import Derived.Test.YtcilepbdddgpoaaDoorMiniL4
namespace Go.Proofs.YtcilepbdddgpoaaDoor
namespace Mini
open Go

theorem u_of_under {n L : Nat} {c : C} (h : uC n c = true) (h' : c.under L = true) : uC L c = true := by
  cases c with
  | d x => rfl
  | ptr id g o => exact h'
  | os id g o l s cp => exact h'
  | _ => cases h
theorem us_of_under {n L : Nat} : ∀ {cs : List C}, cs.all (uC n) = true → undersC L cs = true → cs.all (uC L) = true
  | [], _, _ => rfl
  | c :: cs, h, h' => by
    simp only [List.all_cons, undersC, Bool.and_eq_true] at h h' ⊢
    exact ⟨u_of_under h.1 h'.1, us_of_under h.2 h'.2⟩
theorem hp_take {n L : Nat} {H : Heap} (h : Hp n H) (h' : (H.take L).all (Ob.under L) = true) : Hp L (H.take L) := fun o ho => by
  have h1 := h o (List.mem_of_mem_take ho)
  have h2 := List.all_eq_true.1 h' o ho
  cases o with
  | cells cs g f => exact us_of_under h1 h2
  | _ => cases h1
/-- What is let go does not touch the record. -/
theorem rec_gc {H0 H : Heap} {R bp bm L : Nat} {hp hm : Bool} {ps ms : List (List C)} (h : RecAt H0 H R bp bm hp hm ps ms) (hR : R < L) (hL : L ≤ H.length) (regs : List V) : ∃ H', gc L ⟨regs, H⟩ = ⟨regs, H'⟩ ∧ RecAt H0 H' R bp bm hp hm ps ms ∧ L ≤ H'.length := by
  unfold gc
  cases hc : (regs.all (V.under L) && (H.take L).all (Ob.under L)) with
  | false => exact ⟨H, rfl, h, hL⟩
  | true =>
    rw [Bool.and_eq_true] at hc
    obtain ⟨hH, low, hw, P, M, h1, h2, h3, h4⟩ := h
    have hlen : (H.take L).length = L := by rw [List.length_take]; omega
    have hat : ∀ j, j < L → (H.take L)[j]? = H[j]? := fun j hj => List.getElem?_take_of_lt hj
    have hu : ∀ c ∈ recC hp hm P M, c.under L = true := fun c hc' => by
      have hob : (Ob.cells (recC hp hm P M) 0 false).under L = true := List.all_eq_true.1 hc.2 _ (List.mem_of_getElem? (i := R) (by rw [hat R hR]; exact h1))
      cases hcu : c.under L with
      | true => rfl
      | false => rw [show (Ob.cells (recC hp hm P M) 0 false).under L = undersC L (recC hp hm P M) from rfl, undersC_false hcu hc'] at hob; cases hob
    refine ⟨H.take L, rfl, ⟨by rw [hlen]; exact hp_take hH hc.2, fun j hj => by rw [hat j (by omega)]; exact low j hj, hw, P, M, by rw [hat R hR]; exact h1, arr_keep h2 fun i g e => ?_, arr_keep h3 fun i g e => ?_, h4⟩, by omega⟩
    · have := hu P (by simp [recC])
      rw [e] at this
      exact hat i (of_decide_eq_true this)
    · have := hu M (by simp [recC])
      rw [e] at this
      exact hat i (of_decide_eq_true this)
/-- Registers. -/
def V0 (n k : Nat) (r3 : V) (i R a b : Nat) : List V := [i64 n, i64 k, .any, r3, i64 (i + 1 : Nat), .c (.ptr R 0 0), i64 (a + 1 : Nat), i64 (b + 1 : Nat), .any, .any, .any]
def V1 (n k : Nat) (r3 : V) (i R a : Nat) : List V := [i64 n, i64 k, .any, r3, i64 (i + 1 : Nat), .c (.ptr R 0 0), i64 (a + 1 : Nat), .any, .any, .any, .any]
theorem roundV0 {X : Ctx} (hX : X.fns 35 = some fn35) {N M n k i R a b : Nat} {r3 : V} {hp hm : Bool} {ps ms : List (List C)} {H0 H : Heap} (hv : ∀ i k, (zenv X (N + 1)).vcall 26 [.c (.d (.int .i64 i)), .c (.d (.int .i64 k))] = some (.agg (polE i k))) (hR : RecAt H0 H R (R + 1) (R + 1) hp hm ps ms) (hx : ∀ e ∈ ms, e.length = 34 ∧ e.all C.isD = true) (hb : b < k) (hk : k ≤ 8) (hl : ms.length < 900) :
    ∃ H', exec (zenv X (N + 1)) M false fn15L0 ⟨V0 n k r3 i R a b, H⟩ = some (.nrm, ⟨put (V0 n k r3 i R a (b + 1)) 10 (bl true), H'⟩) ∧ RecAt H0 H' R (R + 1) (R + 1) hp true ps (ms ++ [pairE a b]) ∧ H.length ≤ H'.length := by
  have hRl : R + 1 ≤ H.length := by
    obtain ⟨P, M, h1, _⟩ := hR.cel
    exact (List.getElem?_eq_some_iff.1 h1).1
  obtain ⟨P, M', rec', H1, h1, h2, h3, ⟨c, h4, h4'⟩, h5, h6⟩ := pair_step hX (N := N) (a := polE 0 (a + 1 : Nat)) (b := polE 0 (b + 1 : Nat)) rfl rfl rfl rfl hR (fun e he => (hx e he).1) (fun e he => (hx e he).2) (by omega) hRl
  refine ⟨_, ?_, h5, by rw [List.length_set]; exact h6⟩
  have e0 : ((b + 1 : Nat) : Int) ≤ (k : Int) := by omega
  have e1 : IntKind.i64.wrap (((b + 1 : Nat) : Int) + 1) = ((b + 1 + 1 : Nat) : Int) := wrap_succ (by omega)
  have hsp := splice_all (c := c) (new := rec') (by omega)
  simp only [fn15L0, V0, e0, e1, h1, rec_take, rec_len, hv, byValue, mapO, deepV1, deepC, V.flat, V.flat1, polE_flat, zenv_call, h2, h4, h4', h3, hsp, List.map_cons, List.map_nil, List.drop_zero, Nat.le_refl, exec, runOps, wants, Mini.step, stepP, stepE, O.eff, Mini.look, nth, put, exports, bin, binInt, i64, bl, ob_eq, setOb_eq, ofCells, V.cells, Option.map_some, if_true, if_false, decide_true, List.append_nil, List.all_nil, cond_true, Nat.zero_add, and_self, Bool.false_eq_true]
theorem endV0 {E : Env} {M n k i R a : Nat} {r3 : V} {H : Heap} : exec E M false fn15L0 ⟨V0 n k r3 i R a k, H⟩ = some (.exit 4, ⟨put (V0 n k r3 i R a k) 10 (bl false), H⟩) := by
  have e0 : ¬ ((k + 1 : Nat) : Int) ≤ (k : Int) := by omega
  simp only [fn15L0, V0, e0, exec, runOps, wants, Mini.step, stepP, stepE, O.eff, Mini.look, nth, put, exports, bin, binInt, i64, bl, Option.map_some, if_true, if_false, decide_false, List.append_nil, List.all_nil, cond_false, Bool.false_eq_true]
theorem snoc34 {ms : List (List C)} {a b : Nat} (h : ∀ e ∈ ms, e.length = 34 ∧ e.all C.isD = true) : ∀ e ∈ ms ++ [pairE a b], e.length = 34 ∧ e.all C.isD = true := mem_snoc h ⟨rfl, rfl⟩
theorem loopV0 {X : Ctx} (hX : X.fns 35 = some fn35) {N M n k i R a L : Nat} {r3 : V} {hp : Bool} {ps : List (List C)} {H0 : Heap} (hv : ∀ i k, (zenv X (N + 1)).vcall 26 [.c (.d (.int .i64 i)), .c (.d (.int .i64 k))] = some (.agg (polE i k))) (hk : k ≤ 8) (hRL : R < L) :
    ∀ (c b fuel : Nat) (hm : Bool) (ms : List (List C)) (H : Heap), b + c = k → c < fuel → ms.length + c < 900 → (∀ e ∈ ms, e.length = 34 ∧ e.all C.isD = true) → RecAt H0 H R (R + 1) (R + 1) hp hm ps ms → L ≤ H.length →
    ∃ hm' H', iter (some [0, 1, 3, 4, 5, 6, 7]) L (exec (zenv X (N + 1)) M false fn15L0) fuel ⟨V0 n k r3 i R a b, H⟩ = some (.exit 4, ⟨put (V0 n k r3 i R a k) 10 (bl false), H'⟩) ∧ RecAt H0 H' R (R + 1) (R + 1) hp hm' ps (ms ++ rowW a b c) ∧ L ≤ H'.length ∧ (0 < c → hm' = true) ∧ (c = 0 → hm' = hm) := by
  intro c
  induction c with
  | zero =>
    intro b fuel hm ms H a1 a2 a3 a4 a5 a6
    obtain ⟨f, rfl⟩ : ∃ f, fuel = f + 1 := ⟨fuel - 1, by omega⟩
    obtain rfl : b = k := by omega
    exact ⟨hm, H, iter_stop endV0, by simpa [rowW] using a5, a6, by omega, fun _ => rfl⟩
  | succ c ih =>
    intro b fuel hm ms H a1 a2 a3 a4 a5 a6
    obtain ⟨f, rfl⟩ : ∃ f, fuel = f + 1 := ⟨fuel - 1, by omega⟩
    obtain ⟨H', hr, hR', hlen⟩ := roundV0 hX (M := M) (n := n) (i := i) (a := a) (r3 := r3) hv a5 a4 (by omega : b < k) hk (by omega)
    obtain ⟨H2, hg, hR2, hl2⟩ := rec_gc hR' hRL (by omega) (V0 n k r3 i R a (b + 1))
    have ht : tidy L (some [0, 1, 3, 4, 5, 6, 7]) ⟨put (V0 n k r3 i R a (b + 1)) 10 (bl true), H'⟩ = ⟨V0 n k r3 i R a (b + 1), H2⟩ :=
      (show _ = gc L ⟨V0 n k r3 i R a (b + 1), H'⟩ from rfl).trans hg
    obtain ⟨hm', H3, h1, h2, h3, h4, h5⟩ := ih (b + 1) f true _ H2 (by omega) (by omega) (by simp; omega) (snoc34 a4) hR2 hl2
    refine ⟨hm', H3, by rw [iter_step hr, ht]; exact h1, by simpa [rowW] using h2, h3, fun _ => ?_, by omega⟩
    by_cases hc : 0 < c
    · exact h4 hc
    · exact h5 (by omega)
theorem roundV1 {X : Ctx} (hX34 : X.fns 34 = some fn34) (hX35 : X.fns 35 = some fn35) {N M n k i R a : Nat} {r3 : V} {hp hm : Bool} {ps ms : List (List C)} {H0 H : Heap} (hM : 1000 ≤ M) (hv : ∀ i k, (zenv X (N + 1)).vcall 26 [.c (.d (.int .i64 i)), .c (.d (.int .i64 k))] = some (.agg (polE i k))) (hR : RecAt H0 H R (R + 1) (R + 1) hp hm ps ms) (hx : ∀ e ∈ ms, e.length = 34 ∧ e.all C.isD = true) (hps : ∀ e ∈ ps, e.length = 18 ∧ e.all C.isD = true) (hk : k ≤ 8) (ha : a < k) (hl : ms.length < 800) (hpl : ps.length < 800) :
    ∃ r H', exec (zenv X (N + 1)) M false fn15L1 ⟨V1 n k r3 i R a, H⟩ = some (.nrm, ⟨r, H'⟩) ∧ keepOnly [0, 1, 3, 4, 5, 6] 0 r = V1 n k r3 i R (a + 1) ∧ RecAt H0 H' R (R + 1) (R + 1) true true (ps ++ [polC (polE 0 (a + 1 : Nat))]) (ms ++ rowW a 0 k) ∧ H.length ≤ H'.length := by
  have hRl : R + 1 ≤ H.length := by
    obtain ⟨P, M, h1, _⟩ := hR.cel
    exact (List.getElem?_eq_some_iff.1 h1).1
  obtain ⟨P, M', rec', H1, h1, h2, h3, ⟨c, h4, h4'⟩, h5, h6⟩ := list_step hX34 (N := N) (a := polE 0 (a + 1 : Nat)) rfl rfl hR (fun e he => (hps e he).1) (fun e he => (hps e he).2) (by omega) hRl
  have hl1 : (H1.set R (.cells rec' 0 false)).length = H1.length := List.length_set
  obtain ⟨hm', H2, hB, hR2, hl2, hm2, _⟩ := loopV0 hX35 (M := M) (n := n) (i := i) (a := a) (L := H1.length) (r3 := r3) hv hk (by omega) k 0 M hm ms _ (by omega) (by omega) (by omega) hx h5 (by omega)
  have hm3 := hm2 (by omega)
  subst hm3
  have e0 : ((a + 1 : Nat) : Int) ≤ (k : Int) := by omega
  have e1 : IntKind.i64.wrap (((a + 1 : Nat) : Int) + 1) = ((a + 1 + 1 : Nat) : Int) := wrap_succ (by omega)
  have hsp := splice_all (c := c) (new := rec') (by omega)
  have t1 : ∀ x y z, tidy H1.length (some [0, 1, 3, 4, 5, 6, 7]) ⟨[i64 n, i64 k, .any, r3, i64 (i + 1 : Nat), .c (.ptr R 0 0), i64 (a + 1 : Nat), i64 1, x, y, z], H1.set R (.cells rec' 0 false)⟩ = ⟨V0 n k r3 i R a 0, H1.set R (.cells rec' 0 false)⟩ := fun x y z =>
    (show _ = gc H1.length ⟨V0 n k r3 i R a 0, H1.set R (.cells rec' 0 false)⟩ from rfl).trans (gc_le (by simp))
  refine ⟨[i64 n, i64 k, .any, r3, i64 (i + 1 : Nat), .c (.ptr R 0 0), i64 (a + 1 + 1 : Nat), i64 (k + 1 : Nat), .any, .any, bl false], H2, ?_, rfl, hR2, by omega⟩
  simp only [V0, i64, bl, put, Nat.zero_add, Int.ofNat_one] at hB t1
  simp only [fn15L1, V1, e0, e1, h1, rec_take, rec_len, hv, byValue, mapO, deepV1, deepC, V.flat, V.flat1, polE_flat, zenv_call, h2, h4, h4', h3, hsp, hl1, t1, hB, List.map_cons, List.map_nil, List.drop_zero, Nat.le_refl, exec, runOps, wants, Mini.step, stepP, stepE, O.eff, Mini.look, nth, put, exports, bin, binInt, i64, bl, ob_eq, setOb_eq, ofCells, V.cells, Option.map_some, if_true, if_false, decide_true, List.append_nil, List.all_nil, cond_true, Nat.zero_add, and_self, Bool.false_eq_true]
theorem endV1 {E : Env} {M n k i R : Nat} {r3 : V} {H : Heap} : exec E M false fn15L1 ⟨V1 n k r3 i R k, H⟩ = some (.exit 2, ⟨put (V1 n k r3 i R k) 9 (bl false), H⟩) := by
  have e0 : ¬ ((k + 1 : Nat) : Int) ≤ (k : Int) := by omega
  simp only [fn15L1, V1, e0, exec, runOps, wants, Mini.step, stepP, stepE, O.eff, Mini.look, nth, put, exports, bin, binInt, i64, bl, Option.map_some, if_true, if_false, decide_false, List.append_nil, List.all_nil, cond_false, Bool.false_eq_true]
theorem loopV1 {X : Ctx} (hX34 : X.fns 34 = some fn34) (hX35 : X.fns 35 = some fn35) {N M n k i R : Nat} {r3 : V} {H0 : Heap} (hM : 1000 ≤ M) (hv : ∀ i k, (zenv X (N + 1)).vcall 26 [.c (.d (.int .i64 i)), .c (.d (.int .i64 k))] = some (.agg (polE i k))) (hk : k ≤ 8) :
    ∀ (c a fuel : Nat) (hp hm : Bool) (ps ms : List (List C)) (H : Heap), a + c = k → c < fuel → ms.length + c * k < 800 → ps.length + c < 800 → (∀ e ∈ ms, e.length = 34 ∧ e.all C.isD = true) → (∀ e ∈ ps, e.length = 18 ∧ e.all C.isD = true) → RecAt H0 H R (R + 1) (R + 1) hp hm ps ms →
    ∃ hp' hm' H', iter (some [0, 1, 3, 4, 5, 6]) (R + 1) (exec (zenv X (N + 1)) M false fn15L1) fuel ⟨V1 n k r3 i R a, H⟩ = some (.exit 2, ⟨put (V1 n k r3 i R k) 9 (bl false), H'⟩) ∧ RecAt H0 H' R (R + 1) (R + 1) hp' hm' (ps ++ (polW a c).map polC) (ms ++ rowsW k a c) ∧ (0 < c → hp' = true ∧ hm' = true) ∧ (c = 0 → hp' = hp ∧ hm' = hm) := by
  intro c
  induction c with
  | zero =>
    intro a fuel hp hm ps ms H a1 a2 a3 a4 a5 a6 a7
    obtain ⟨f, rfl⟩ : ∃ f, fuel = f + 1 := ⟨fuel - 1, by omega⟩
    obtain rfl : a = k := by omega
    exact ⟨hp, hm, H, iter_stop endV1, by simpa [polW, rowsW] using a7, by omega, fun _ => ⟨rfl, rfl⟩⟩
  | succ c ih =>
    intro a fuel hp hm ps ms H a1 a2 a3 a4 a5 a6 a7
    obtain ⟨f, rfl⟩ : ∃ f, fuel = f + 1 := ⟨fuel - 1, by omega⟩
    rw [Nat.succ_mul] at a3
    obtain ⟨r, H', hr, hkp, hR', hlen⟩ := roundV1 hX34 hX35 (n := n) (i := i) (r3 := r3) hM hv a7 a5 a6 hk (by omega : a < k) (by omega) (by omega)
    have hRl : R + 1 ≤ H'.length := by
      obtain ⟨P, M, h1, _⟩ := hR'.cel
      exact (List.getElem?_eq_some_iff.1 h1).1
    obtain ⟨H2, hg, hR2, _⟩ := rec_gc hR' (L := R + 1) (by omega) hRl (V1 n k r3 i R (a + 1))
    have ht : tidy (R + 1) (some [0, 1, 3, 4, 5, 6]) ⟨r, H'⟩ = ⟨V1 n k r3 i R (a + 1), H2⟩ := by
      have : tidy (R + 1) (some [0, 1, 3, 4, 5, 6]) ⟨r, H'⟩ = gc (R + 1) ⟨V1 n k r3 i R (a + 1), H'⟩ := by rw [← hkp]; rfl
      rw [this]; exact hg
    have a5' : ∀ e ∈ ms ++ rowW a 0 k, e.length = 34 ∧ e.all C.isD = true := fun e he => by
      rcases List.mem_append.1 he with h | h
      · exact a5 e h
      · exact rowW_34 a 0 k e h
    obtain ⟨hp', hm', H3, h1, h2, h3, h4⟩ := ih (a + 1) f true true _ _ H2 (by omega) (by omega) (by rw [List.length_append, rowW_len]; omega) (by simp; omega) a5' (mem_snoc a6 ⟨polC_len rfl, polC_dd rfl⟩) hR2
    refine ⟨hp', hm', H3, by rw [iter_step hr, ht]; exact h1, by simpa [polW, rowsW] using h2, fun _ => ?_, by omega⟩
    by_cases hc : 0 < c
    · exact h3 hc
    · exact h4 (by omega)
/-! ### The outer loop -/
def V2 (n k : Nat) (r3 : V) (i : Nat) : List V := [i64 n, i64 k, .any, r3, i64 (i + 1 : Nat), .any, .any, .any, .any, .any, .any]
theorem roundV2 {X : Ctx} (hX34 : X.fns 34 = some fn34) (hX35 : X.fns 35 = some fn35) {N M n k i : Nat} {rs : List (List C)} {H : Heap} (hM : 1000 ≤ M)
    (hv : ∀ i k, (zenv X (N + 1)).vcall 26 [.c (.d (.int .i64 i)), .c (.d (.int .i64 k))] = some (.agg (polE i k))) (h33 : (zenv X (N + 1)).vcall 33 [] = some (.agg blankC))
    (hk : k ≤ 8) (hk1 : 1 ≤ k) (hin : i < n) (hn : n < 900) (hH : Hp H.length H) (h0 : H[0]? = some (.cells rs.flatten i false)) (hrs : ∀ e ∈ rs, e.length = 8) (hri : rs.length = i) :
    ∃ H4 P M', exec (zenv X (N + 1)) M false fn15L2 ⟨V2 n k (os0 i i) i, H⟩ = some (.nrm, ⟨[i64 n, i64 k, .any, os0 (i + 1) (i + 1), i64 (i + 1 + 1 : Nat), .c (.ptr H.length 0 0), i64 (k + 1 : Nat), .any, .any, bl false, .any], (H4 ++ [.cells (recC true (decide (0 < k * k)) P M') 0 false]).set 0 (.cells (rs ++ [recC true (decide (0 < k * k)) P M']).flatten (i + 1) false)⟩) ∧
      Hp H4.length H4 ∧ H.length < H4.length ∧ (∀ j, j < H.length → H4[j]? = H[j]?) ∧ ArrAt H4 (H.length + 1) 18 P ((polW 0 k).map polC) ∧ ArrAt H4 (H.length + 1) 34 M' (rowsW k 0 k) := by
  have hl0 : 0 < H.length := (List.getElem?_eq_some_iff.1 h0).1
  have hkk : k * k ≤ 8 * 8 := Nat.mul_le_mul hk hk
  have hdec : decide (0 < k * k) = true := decide_eq_true (Nat.mul_pos hk1 hk1)
  rw [hdec]
  have hl1 : (H ++ [Ob.cells blankC 0 false]).length = H.length + 1 := by simp
  have hR1 : RecAt (H ++ [.cells blankC 0 false]) (H ++ [.cells blankC 0 false]) H.length (H.length + 1) (H.length + 1) false false [] [] :=
    ⟨by rw [hl1]; exact (hH.mono (by omega)).app (Hp.cons rfl Hp.nil), fun _ _ => rfl, ⟨by omega, by omega⟩, .d .nils, .d .nils, at0, Or.inl ⟨rfl, rfl⟩, Or.inl ⟨rfl, rfl⟩, fun _ _ _ _ _ _ _ _ _ _ e => by cases e⟩
  obtain ⟨hp', hm', H4, hA, hR4, hfl1, _⟩ := loopV1 hX34 hX35 (n := n) (i := i) (r3 := os0 i i) hM hv hk k 0 M false false [] [] _ (by omega) (by omega) (by simp; omega) (by simp; omega) (fun e he => by cases he) (fun e he => by cases he) hR1
  obtain ⟨rfl, rfl⟩ := hfl1 (by omega)
  obtain ⟨hH4, low4, wid4, P, M', d1, d2, d3, d4⟩ := hR4
  have hl4 : H.length < H4.length := (List.getElem?_eq_some_iff.1 d1).1
  have h04 : H4[0]? = some (.cells rs.flatten i false) := by rw [low4 0 hl0]; exact atL h0
  have e0 : ((i + 1 : Nat) : Int) ≤ (n : Int) := by omega
  have e1 : IntKind.i64.wrap (((i + 1 : Nat) : Int) + 1) = ((i + 1 + 1 : Nat) : Int) := wrap_succ (by omega)
  have t1 : ∀ a b c d, tidy (H.length + 1) (some [0, 1, 3, 4, 5, 6]) ⟨[i64 n, i64 k, .any, os0 i i, i64 (i + 1 : Nat), .c (.ptr H.length 0 0), i64 1, a, b, c, d], H ++ [.cells blankC 0 false]⟩ = ⟨V1 n k (os0 i i) i H.length 0, H ++ [.cells blankC 0 false]⟩ := fun a b c d =>
    (show _ = gc (H.length + 1) ⟨V1 n k (os0 i i) i H.length 0, H ++ [.cells blankC 0 false]⟩ from rfl).trans (gc_le (by simp))
  have hfl : rs.flatten.length = i * 8 := by rw [flat_len rs hrs, hri]
  have htk : rs.flatten.take (i * 8) = rs.flatten := by rw [← hfl, List.take_length]
  have hap : rs.flatten ++ recC true true P M' = (rs ++ [recC true true P M']).flatten := by simp
  have hb : i + 1 ≤ 1073741824 := by omega
  have l8 : ∀ a : List C, a.length = 8 → lay [C.d (.bool false), .d (.bool false), .d .nils, .d (.bool false), .d .nils, .d (.int .i64 0), .d (.int .i64 0), .d (.int .i64 0)] [(0, 8, .agg a)] = some a := fun a ha => by
    simp [lay, V.cells, splice, ha]
  have hat : ∀ t, (H4 ++ t)[0]? = some (Ob.cells rs.flatten i false) := fun t => atL h04
  have hbfl : blankC.all C.flat = true := rfl
  have hbl8 : blankC.length = 8 := rfl
  refine ⟨H4, P, M', ?_, hH4, hl4, fun j hj => by rw [low4 j hj, List.getElem?_append_left hj], by simpa using d2, by simpa using d3⟩
  simp only [V1, os0, i64, bl, put, Nat.zero_add, Int.ofNat_one] at hA t1
  simp only [fn15L2, V2, os0, e0, e1, h33, byValue, mapO, V.flat, V.flat1, hbfl, hbl8, t1, hA, rec_take, rec_len, d1, rep, List.map_cons, List.map_nil, l8 _ rec_len, elems, at0, hat, hfl, htk, hap, hb, List.append_assoc, List.cons_append, List.nil_append, List.length_append, List.drop_zero, Nat.le_refl, exec, runOps, wants, Mini.step, stepP, stepE, O.eff, Mini.look, nth, put, exports, bin, binInt, i64, bl, ob_eq, setOb_eq, ofCells, V.cells, List.length_cons, List.length_nil, Option.map_some, if_true, if_false, decide_true, List.append_nil, List.all_nil, cond_true, Nat.zero_add, Nat.one_mul, and_self, reduceCtorEq, Bool.false_eq_true, and_true]
theorem endV2 {E : Env} {M n k : Nat} {r3 : V} {H : Heap} : exec E M false fn15L2 ⟨V2 n k r3 n, H⟩ = some (.exit 0, ⟨put (V2 n k r3 n) 8 (bl false), H⟩) := by
  have e0 : ¬ ((n + 1 : Nat) : Int) ≤ (n : Int) := by omega
  simp only [fn15L2, V2, e0, exec, runOps, wants, Mini.step, stepP, stepE, O.eff, Mini.look, nth, put, exports, bin, binInt, i64, bl, Option.map_some, if_true, if_false, decide_false, List.append_nil, List.all_nil, cond_false, Bool.false_eq_true]
theorem loopV2 {X : Ctx} (hX34 : X.fns 34 = some fn34) (hX35 : X.fns 35 = some fn35) {N M n k : Nat} (hM : 1000 ≤ M)
    (hv : ∀ i k, (zenv X (N + 1)).vcall 26 [.c (.d (.int .i64 i)), .c (.d (.int .i64 k))] = some (.agg (polE i k))) (h33 : (zenv X (N + 1)).vcall 33 [] = some (.agg blankC))
    (hk : k ≤ 8) (hk1 : 1 ≤ k) (hn : n < 900) : ∀ (c i fuel : Nat) (H : Heap) (rs : List (List C)), i + c = n → c < fuel → InvZ 0 (k * k) (fun _ => (polW 0 k).map polC) (fun _ => rowsW k 0 k) H i rs →
    ∃ H' rs', iter (some [0, 1, 3, 4]) 1 (exec (zenv X (N + 1)) M false fn15L2) fuel ⟨V2 n k (os0 i i) i, H⟩ = some (.exit 0, ⟨put (V2 n k (os0 n n) n) 8 (bl false), H'⟩) ∧ InvZ 0 (k * k) (fun _ => (polW 0 k).map polC) (fun _ => rowsW k 0 k) H' n rs' := by
  intro c
  induction c with
  | zero =>
    intro i fuel H rs a1 a2 a3
    obtain ⟨f, rfl⟩ : ∃ f, fuel = f + 1 := ⟨fuel - 1, by omega⟩
    obtain rfl : i = n := by omega
    exact ⟨H, rs, iter_stop endV2, a3⟩
  | succ c ih =>
    intro i fuel H rs a1 a2 a3
    obtain ⟨f, rfl⟩ : ∃ f, fuel = f + 1 := ⟨fuel - 1, by omega⟩
    obtain ⟨H4, P, M', hr, h1, h2, h3, h4, h5⟩ := roundV2 hX34 hX35 hM hv h33 hk hk1 (by omega : i < n) hn a3.hp a3.arr a3.eig a3.len
    have inv := inv_next a3 h1 h2 h3 h4 h5
    have hne : (polW 0 k).map polC ≠ [] := fun h => by
      have := congrArg List.length h
      rw [List.length_map, polW_len] at this
      simp at this
      omega
    obtain ⟨o, ho, hou⟩ := inv_back inv (by omega) hne
    have ht : ∀ a b c d, tidy 1 (some [0, 1, 3, 4]) ⟨[i64 n, i64 k, .any, os0 (i + 1) (i + 1), i64 (i + 1 + 1 : Nat), a, b, .any, c, d, .any], (H4 ++ [Ob.cells (recC true (decide (0 < k * k)) P M') 0 false]).set 0 (.cells (rs ++ [recC true (decide (0 < k * k)) P M']).flatten (i + 1) false)⟩ = ⟨V2 n k (os0 (i + 1) (i + 1)) (i + 1), (H4 ++ [Ob.cells (recC true (decide (0 < k * k)) P M') 0 false]).set 0 (.cells (rs ++ [recC true (decide (0 < k * k)) P M']).flatten (i + 1) false)⟩ := fun a b c d =>
      (show _ = gc 1 ⟨V2 n k (os0 (i + 1) (i + 1)) (i + 1), _⟩ from rfl).trans (gc_no2 ho (by omega) hou)
    rw [iter_step hr, ht]
    exact ih (i + 1) f _ _ (by omega) (by omega) inv
def recRW (k : Nat) (_i : Nat) : List D := recR (polsWD k) (mapsWD k) k (k * k)
theorem fn15_ok {X : Ctx} (hX : X.fns 15 = some fn15) (hX34 : X.fns 34 = some fn34) (hX35 : X.fns 35 = some fn35) {N n k : Nat} (hN : 1000 ≤ N)
    (hv : ∀ i k, (zenv X (N + 1)).vcall 26 [.c (.d (.int .i64 i)), .c (.d (.int .i64 k))] = some (.agg (polE i k))) (h33 : (zenv X (N + 1)).vcall 33 [] = some (.agg blankC))
    (hk : k ≤ 8) (hk1 : 1 ≤ k) (hn : n < 900) : vcallN X (N + 2) 15 [i64 n, i64 k] = some (slV (recRW k) n) := by
  have inv0 : InvZ 0 (k * k) (fun _ => (polW 0 k).map polC) (fun _ => rowsW k 0 k) [.cells [] 0 false] 0 [] :=
    ⟨Hp.cons rfl Hp.nil, rfl, rfl, (fun e he => by cases he), (fun k hk => by omega)⟩
  obtain ⟨H', rs, hl, inv⟩ := loopV2 hX34 hX35 (M := N + 1) (by omega) hv h33 hk hk1 hn n 0 (N + 1) _ _ (by omega) (by omega) inv0
  have hd := deep_refs inv (F := recRW k) fun j P M a1 a2 => deep_recR a1 a2 (polWC_18 k) (polWC_d k) (fun e he => (rowsW_34 k 0 k e he).1) (fun e he => (rowsW_34 k 0 k e he).2) (by rw [List.length_map, polW_len]; omega) (rowsW_len k 0 k) |>.trans (by simp [recRW, polsWD, mapsWD, polW_len])
  have t1 : tidy 1 (some [0, 1, 3, 4]) ⟨[i64 n, i64 k, .c (.d .nils), os0 0 0, i64 1, .any, .any, .any, .any, .any, .any], [.cells [] 0 false]⟩ = ⟨V2 n k (os0 0 0) 0, [.cells [] 0 false]⟩ := rfl
  refine vcall_of (r := os0 n n) (H := H') ?_ hd
  rw [fn15_is] at hX
  rw [callN_fn hX]
  simp only [V2, os0, i64, put, bl] at hl t1
  simp only [fn15', runFn, pad, List.replicate, Nat.reduceSub, List.cons_append, List.nil_append, freshen, t1, hl, os0, results, result, mapO, exec, runOps, wants, Mini.step, stepP, stepE, O.eff, Mini.look, nth, put, exports, i64, List.length_cons, List.length_nil, Option.map_some, if_true, if_false, List.append_nil, List.all_nil, Nat.zero_add, Bool.false_eq_true, Nat.reduceAdd]

/-! ### The wide paths match -/
theorem recsWD_R (k : Nat) : ∀ n, recsWD k n = recsR (fun _ => recWD k) n
  | 0 => rfl
  | n + 1 => by rw [recsWD, recsR, recsWD_R k n]
theorem wideV_R (n k : Nat) : wideV n k = slV (fun _ => recWD k) n := by rw [wideV, slV, recsWD_R]
theorem polsWD_eq (k : Nat) : polsWD k = (((polW 0 k).map (·.map unD)).map qblk).flatten := by
  rw [polsWD, map_flat_unD, List.map_map, List.map_map]
  congr 1
  apply List.map_congr_left
  intro a _
  exact unD_polC
theorem polW_int : ∀ a c, ∀ e ∈ polW a c, e.all dInt = true
  | _, 0, _, h => by cases h
  | a, c + 1, e, h => by
    rcases List.mem_cons.1 h with rfl | h
    · rfl
    · exact polW_int (a + 1) c e h
theorem rowW_int (a : Nat) : ∀ b c, ∀ e ∈ rowW a b c, e.all dInt = true
  | _, 0, _, h => by cases h
  | b, c + 1, e, h => by
    rcases List.mem_cons.1 h with rfl | h
    · rfl
    · exact rowW_int a (b + 1) c e h
theorem rowsW_int (k : Nat) : ∀ a c, ∀ e ∈ rowsW k a c, e.all dInt = true
  | _, 0, _, h => by cases h
  | a, c + 1, e, h => by
    rcases List.mem_append.1 h with h | h
    · exact rowW_int a 0 k e h
    · exact rowsW_int k (a + 1) c e h
theorem match_wide (k j : Nat) (hk : k ≤ 8) (hk1 : 1 ≤ k) : ∃ os ms hm' M M', Match (recWD k) (recRW k j) os ms hm' M M' := by
  have hkk : k * k ≤ 8 * 8 := Nat.mul_le_mul hk hk
  have hpos : 0 < k * k := Nat.mul_pos hk1 hk1
  have hlen : ((polW 0 k).map (·.map unD)).length = k := by rw [List.length_map, polW_len]
  have hml : ((rowsW k 0 k).map (·.map unD)).length = k * k := by rw [List.length_map, rowsW_len]
  have hmm : decide (((k * k : Nat) : Int) > 0) = decide (0 < k * k) := decide_eq_decide.2 (by omega)
  refine ⟨(polW 0 k).map (·.map unD), (rowsW k 0 k).map (·.map unD), decide (0 < k * k), .sl (mapsWD k) (k * k), .sl (mapsWD k) (k * k), ⟨?_, ?_, blk_un (fun e he => (polW_17 0 k e he).1) (polW_int 0 k), blk_un (fun e he => (rowsW_34 k 0 k e he).1) (rowsW_int k 0 k), by omega, by omega, ?_, ?_⟩⟩
  · rw [recWD, recX, polsWD_eq, hlen, hmm]
  · rw [recRW, recR, recX, polsWD_eq, hlen, if_neg (by omega)]
  · exact Or.inl (by rw [mapsWD, map_flat_unD, hml])
  · exact Or.inl (by rw [mapsWD, map_flat_unD, hml])
end Mini
end Go.Proofs.YtcilepbdddgpoaaDoor
