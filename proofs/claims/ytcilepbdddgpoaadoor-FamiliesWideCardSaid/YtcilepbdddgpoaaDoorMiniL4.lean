/-
  'like': two paths whose records match are equal.
-/
import Derived.Test.YtcilepbdddgpoaaDoorMiniZ4
namespace Go.Proofs.YtcilepbdddgpoaaDoor
namespace Mini
open Go

theorem gflat {β : Type} {sz : Nat} : ∀ {es : List (List β)} {i : Nat} {e : List β}, (∀ e ∈ es, e.length = sz) → es[i]? = some e → ∃ rest, es.flatten.drop (i * sz) = e ++ rest
  | x :: es, 0, e, _, hi => by
    simp only [List.getElem?_cons_zero, Option.some.injEq] at hi
    subst hi
    exact ⟨es.flatten, by simp⟩
  | x :: es, i + 1, e, h, hi => by
    simp only [List.getElem?_cons_succ] at hi
    obtain ⟨rest, hr⟩ := gflat (fun y hy => h y (List.mem_cons_of_mem _ hy)) hi
    refine ⟨rest, ?_⟩
    rw [List.flatten_cons, Nat.succ_mul, Nat.add_comm, ← List.drop_drop, ← h x List.mem_cons_self, List.drop_left]
    rw [h x List.mem_cons_self]
    exact hr
theorem gflat_len {β : Type} {sz : Nat} {es : List (List β)} {i : Nat} {e rest : List β} (hr : es.flatten.drop (i * sz) = e ++ rest) (he : 0 < e.length) : i * sz < es.flatten.length := by
  have := congrArg List.length hr
  rw [List.length_drop, List.length_append] at this
  omega
def isInt : D → Bool
  | .int _ _ => true
  | _ => false
theorem eqInts_self : ∀ xs : List D, xs.all isInt = true → eqInts (xs.map C.d) (xs.map C.d) = some true
  | [], _ => rfl
  | x :: xs, h => by
    rw [List.all_cons, Bool.and_eq_true] at h
    cases x with
    | int k n => simp [eqInts, eqInts_self xs h.2]
    | _ => cases h.1
/-- Registers. -/
def Q1 (a b : V) (i k : Nat) : List V := [a, b, .any, i64 i, .c (.ptr 0 0 0), .c (.ptr 1 0 0), i64 k, .any, .any, .any, .any, .any, .any, .any, .any]
def Q0 (a b : V) (i k : Nat) : List V := [a, b, .any, i64 i, .c (.ptr 0 0 0), .c (.ptr 1 0 0), .any, i64 k, .any, .any, .any, .any, .any, .any, .any]
def recX (P : D) (hm : Bool) (M : D) : List D := [.bool false, .bool true, P, .bool hm, M, .int .i64 (-1), .int .i64 (-1), .int .i64 (-1)]
def recXC (P : D) (hm : Bool) (M : D) : List C := [.d (.bool false), .d (.bool true), .d P, .d (.bool hm), .d M, .d (.int .i64 (-1)), .d (.int .i64 (-1)), .d (.int .i64 (-1))]
def qblk (o : List D) : List D := o ++ [.nils]
theorem roundQ1 {E : Env} {N i k : Nat} {a b : V} {os : List (List D)} {o : List D} {hm : Bool} {M M' : D} (hos : ∀ o ∈ os, o.length = 17 ∧ o.all isInt = true) (ho : os[k]? = some o) (hl : os.length < 1000) :
    exec E N false fn14L1 ⟨Q1 a b i k, [.cells (recXC (.sl (os.map qblk).flatten os.length) hm M) 0 false, .cells (recXC (.sl (os.map qblk).flatten os.length) hm M') 0 false]⟩ = some (.nrm, ⟨put (put (Q1 a b i (k + 1)) 11 (bl true)) 12 (bl false), [.cells (recXC (.sl (os.map qblk).flatten os.length) hm M) 0 false, .cells (recXC (.sl (os.map qblk).flatten os.length) hm M') 0 false]⟩) := by
  have hlt : k < os.length := (List.getElem?_eq_some_iff.1 ho).1
  have hlt' : (k : Int) < (os.length : Int) := by exact_mod_cast hlt
  have hoo := hos o (List.mem_of_getElem? ho)
  have h18 : ∀ e ∈ os.map qblk, e.length = 18 := fun e he => by
    obtain ⟨x, hx, rfl⟩ := List.mem_map.1 he
    simp [qblk, (hos x hx).1]
  obtain ⟨rest, hr⟩ := gflat h18 (i := k) (e := qblk o) (by simp [ho])
  have hkl := gflat_len hr (by simp [qblk])
  have ht : (qblk o ++ rest).take 17 = o := by
    rw [qblk, List.append_assoc, ← hoo.1, List.take_left]
  have hd : (qblk o ++ rest).drop 17 = .nils :: rest := by
    rw [qblk, List.append_assoc, ← hoo.1, List.drop_left]; rfl
  have hp0 : 0 < (qblk o ++ rest).length := by simp [qblk]; omega
  have hp17 : 17 < (qblk o ++ rest).length := by simp [qblk, hoo.1]
  have he := eqInts_self o hoo.2
  have hl17 : (o.map C.d).length = 17 := by rw [List.length_map]; exact hoo.1
  have e7 : IntKind.i64.wrap ((k : Int) + 1) = ((k + 1 : Nat) : Int) := wrap_succ (by omega)
  have ew : IntKind.i64.wrap (0 + 0) = 0 := rfl
  simp only [fn14L1, Q1, recXC, hlt', hlt, hr, hkl, ht, hd, hp0, hp17, he, hl17, e7, ew, ob?, List.take_zero, List.take_succ_cons, List.drop_zero, List.drop_succ_cons, List.map_cons, List.map_nil, Bool.true_xor, Bool.not_true, beq_self_eq_true, gt_iff_lt, Int.lt_irrefl, exec, runOps, wants, Mini.step, stepP, stepE, O.eff, Mini.look, nth, put, exports, bin, binInt, i64, bl, asNat_nat, ofCells, List.length_cons, List.length_nil, Option.map_some, if_true, if_false, decide_true, decide_false, List.append_nil, List.all_nil, cond_true, cond_false, Nat.zero_add, and_self, Int.ofNat_eq_natCast, Bool.false_eq_true]
theorem loopQ1 {E : Env} {N i : Nat} {a b : V} {os : List (List D)} {hm : Bool} {M M' : D} (hos : ∀ o ∈ os, o.length = 17 ∧ o.all isInt = true) (hl : os.length < 1000) : ∀ (c k fuel : Nat), k + c = os.length → c < fuel →
    iter (some [0, 1, 3, 4, 5, 6]) 2 (exec E N false fn14L1) fuel ⟨Q1 a b i k, [.cells (recXC (.sl (os.map qblk).flatten os.length) hm M) 0 false, .cells (recXC (.sl (os.map qblk).flatten os.length) hm M') 0 false]⟩ = some (.exit 2, ⟨put (Q1 a b i os.length) 11 (bl false), [.cells (recXC (.sl (os.map qblk).flatten os.length) hm M) 0 false, .cells (recXC (.sl (os.map qblk).flatten os.length) hm M') 0 false]⟩) := by
  intro c
  induction c with
  | zero =>
    intro k fuel a1 a2
    obtain ⟨f, rfl⟩ : ∃ f, fuel = f + 1 := ⟨fuel - 1, by omega⟩
    obtain rfl : k = os.length := by omega
    refine iter_stop ?_
    simp only [fn14L1, Q1, recXC, ob?, List.take_zero, List.take_succ_cons, List.drop_zero, List.drop_succ_cons, Int.lt_irrefl, exec, runOps, wants, Mini.step, stepP, stepE, O.eff, Mini.look, nth, put, exports, bin, binInt, i64, bl, ofCells, List.length_cons, List.length_nil, Option.map_some, if_true, if_false, decide_false, List.append_nil, List.all_nil, cond_false, Nat.zero_add, Int.ofNat_eq_natCast, Bool.false_eq_true]
  | succ c ih =>
    intro k fuel a1 a2
    obtain ⟨f, rfl⟩ : ∃ f, fuel = f + 1 := ⟨fuel - 1, by omega⟩
    rw [iter_step (roundQ1 hos (List.getElem?_eq_getElem (show k < os.length by omega)) hl)]
    have ht : tidy 2 (some [0, 1, 3, 4, 5, 6]) ⟨put (put (Q1 a b i (k + 1)) 11 (bl true)) 12 (bl false), [.cells (recXC (.sl (os.map qblk).flatten os.length) hm M) 0 false, .cells (recXC (.sl (os.map qblk).flatten os.length) hm M') 0 false]⟩ = ⟨Q1 a b i (k + 1), [.cells (recXC (.sl (os.map qblk).flatten os.length) hm M) 0 false, .cells (recXC (.sl (os.map qblk).flatten os.length) hm M') 0 false]⟩ :=
      (show _ = gc 2 ⟨Q1 a b i (k + 1), _⟩ from rfl).trans (gc_le (Nat.le_refl _))
    rw [ht]
    exact ih (k + 1) f (by omega) (by omega)
/-- A list of pairs, or none. -/
def Maps (M : D) (ms : List (List D)) : Prop := M = .sl ms.flatten ms.length ∨ (ms = [] ∧ M = .nils)
theorem roundQ0 {E : Env} {N i k : Nat} {a b : V} {ms : List (List D)} {o : List D} {hm : Bool} {P M M' : D} (hms : ∀ o ∈ ms, o.length = 34 ∧ o.all isInt = true) (ho : ms[k]? = some o) (hl : ms.length < 1000) (hM : Maps M ms) (hM' : Maps M' ms) :
    exec E N false fn14L0 ⟨Q0 a b i k, [.cells (recXC P hm M) 0 false, .cells (recXC P hm M') 0 false]⟩ = some (.nrm, ⟨put (put (Q0 a b i (k + 1)) 13 (bl true)) 14 (bl false), [.cells (recXC P hm M) 0 false, .cells (recXC P hm M') 0 false]⟩) := by
  have hlt : k < ms.length := (List.getElem?_eq_some_iff.1 ho).1
  have hne : ms ≠ [] := fun h => by rw [h] at hlt; cases hlt
  obtain rfl : M = .sl ms.flatten ms.length := hM.resolve_right fun h => hne h.1
  obtain rfl : M' = .sl ms.flatten ms.length := hM'.resolve_right fun h => hne h.1
  have hlt' : (k : Int) < (ms.length : Int) := by exact_mod_cast hlt
  have hoo := hms o (List.mem_of_getElem? ho)
  obtain ⟨rest, hr⟩ := gflat (fun e he => (hms e he).1) ho
  have hkl := gflat_len hr (by omega)
  have ht : (o ++ rest).take 34 = o := by rw [← hoo.1, List.take_left]
  have he := eqInts_self o hoo.2
  have hl17 : (o.map C.d).length = 34 := by rw [List.length_map]; exact hoo.1
  have e7 : IntKind.i64.wrap ((k : Int) + 1) = ((k + 1 : Nat) : Int) := wrap_succ (by omega)
  simp only [fn14L0, Q0, recXC, hlt', hlt, hr, hkl, ht, he, hl17, e7, ob?, List.take_zero, List.take_succ_cons, List.drop_zero, List.drop_succ_cons, Bool.true_xor, Bool.not_true, exec, runOps, wants, Mini.step, stepP, stepE, O.eff, Mini.look, nth, put, exports, bin, binInt, i64, bl, asNat_nat, ofCells, List.length_cons, List.length_nil, Option.map_some, if_true, if_false, decide_true, List.append_nil, List.all_nil, cond_true, cond_false, Nat.zero_add, and_self, Int.ofNat_eq_natCast, Bool.false_eq_true]
theorem loopQ0 {E : Env} {N i : Nat} {a b : V} {ms : List (List D)} {hm : Bool} {P M M' : D} (hms : ∀ o ∈ ms, o.length = 34 ∧ o.all isInt = true) (hl : ms.length < 1000) (hM : Maps M ms) (hM' : Maps M' ms) : ∀ (c k fuel : Nat), k + c = ms.length → c < fuel →
    iter (some [0, 1, 3, 4, 5, 7]) 2 (exec E N false fn14L0) fuel ⟨Q0 a b i k, [.cells (recXC P hm M) 0 false, .cells (recXC P hm M') 0 false]⟩ = some (.exit 4, ⟨put (Q0 a b i ms.length) 13 (bl false), [.cells (recXC P hm M) 0 false, .cells (recXC P hm M') 0 false]⟩) := by
  intro c
  induction c with
  | zero =>
    intro k fuel a1 a2
    obtain ⟨f, rfl⟩ : ∃ f, fuel = f + 1 := ⟨fuel - 1, by omega⟩
    obtain rfl : k = ms.length := by omega
    refine iter_stop ?_
    rcases hM with rfl | ⟨rfl, rfl⟩
    · simp only [fn14L0, Q0, recXC, ob?, List.take_zero, List.take_succ_cons, List.drop_zero, List.drop_succ_cons, Int.lt_irrefl, exec, runOps, wants, Mini.step, stepP, stepE, O.eff, Mini.look, nth, put, exports, bin, binInt, i64, bl, ofCells, List.length_cons, List.length_nil, Option.map_some, if_true, if_false, decide_false, List.append_nil, List.all_nil, cond_false, Nat.zero_add, Int.ofNat_eq_natCast, Bool.false_eq_true]
    · simp only [fn14L0, Q0, recXC, ob?, List.take_zero, List.take_succ_cons, List.drop_zero, List.drop_succ_cons, Int.ofNat_zero, Int.lt_irrefl, exec, runOps, wants, Mini.step, stepP, stepE, O.eff, Mini.look, nth, put, exports, bin, binInt, i64, bl, ofCells, List.length_cons, List.length_nil, Option.map_some, if_true, if_false, decide_false, List.append_nil, List.all_nil, cond_false, Nat.zero_add, Bool.false_eq_true]
  | succ c ih =>
    intro k fuel a1 a2
    obtain ⟨f, rfl⟩ : ∃ f, fuel = f + 1 := ⟨fuel - 1, by omega⟩
    rw [iter_step (roundQ0 hms (List.getElem?_eq_getElem (show k < ms.length by omega)) hl hM hM')]
    have ht : tidy 2 (some [0, 1, 3, 4, 5, 7]) ⟨put (put (Q0 a b i (k + 1)) 13 (bl true)) 14 (bl false), [.cells (recXC P hm M) 0 false, .cells (recXC P hm M') 0 false]⟩ = ⟨Q0 a b i (k + 1), [.cells (recXC P hm M) 0 false, .cells (recXC P hm M') 0 false]⟩ :=
      (show _ = gc 2 ⟨Q0 a b i (k + 1), _⟩ from rfl).trans (gc_le (Nat.le_refl _))
    rw [ht]
    exact ih (k + 1) f (by omega) (by omega)
def Q2 (a b : V) (i : Nat) : List V := [a, b, .any, i64 i, .any, .any, .any, .any, .any, .any, .any, .any, .any, .any, .any]
def slV (F : Nat → List D) (n : Nat) : V := .c (.d (.sl (recsR F n) n))
/-- Two records match. -/
structure Match (x y : List D) (os ms : List (List D)) (hm : Bool) (M M' : D) : Prop where
  ex : x = recX (.sl (os.map qblk).flatten os.length) hm M
  ey : y = recX (.sl (os.map qblk).flatten os.length) hm M'
  ho : ∀ o ∈ os, o.length = 17 ∧ o.all isInt = true
  hms : ∀ o ∈ ms, o.length = 34 ∧ o.all isInt = true
  lo : os.length < 1000
  lm : ms.length < 1000
  hM : Maps M ms
  hM' : Maps M' ms
theorem recsR_len {F : Nat → List D} (h : ∀ j, (F j).length = 8) : ∀ n, (recsR F n).length = n * 8
  | 0 => by simp [recsR]
  | n + 1 => by rw [recsR, List.length_append, recsR_len h n, h]; omega
theorem recsR_at {F : Nat → List D} (h : ∀ j, (F j).length = 8) : ∀ n i, i < n → ∃ rest, (recsR F n).drop (i * 8) = F i ++ rest
  | n + 1, i, hi => by
    rw [recsR]
    by_cases he : i = n
    · subst he
      rw [← recsR_len h i, List.drop_left]
      exact ⟨[], by simp⟩
    · obtain ⟨rest, hr⟩ := recsR_at h n i (by omega)
      refine ⟨rest ++ F n, ?_⟩
      rw [List.drop_append_of_le_length (by rw [recsR_len h n]; omega), hr, List.append_assoc]
theorem maps_len {M : D} {ms : List (List D)} (h : Maps M ms) {γ : Type} (f : Nat → γ) (g z : γ) (hz : f 0 = z) : (match M with | .nils => z | .sl _ n => f n | _ => g) = f ms.length := by
  rcases h with rfl | ⟨rfl, rfl⟩
  · rfl
  · exact hz.symm
theorem roundQ2 {E : Env} {N i n : Nat} {F G : Nat → List D} {os ms : List (List D)} {hm : Bool} {M M' : D} (hN : 1000 ≤ N) (hF : ∀ j, (F j).length = 8) (hG : ∀ j, (G j).length = 8) (hi : i < n) (hn : n < 1000) (h : Match (F i) (G i) os ms hm M M') :
    ∃ r H, exec E N false fn14L2 ⟨Q2 (slV F n) (slV G n) i, []⟩ = some (.nrm, ⟨r, H⟩) ∧ keepOnly [0, 1, 3] 0 r = Q2 (slV F n) (slV G n) (i + 1) := by
  obtain ⟨rf, hrf⟩ := recsR_at hF n i hi
  obtain ⟨rg, hrg⟩ := recsR_at hG n i hi
  have lF : i * 8 < (recsR F n).length := by rw [recsR_len hF]; omega
  have lG : i * 8 < (recsR G n).length := by rw [recsR_len hG]; omega
  obtain ⟨ex, ey, ho, hms, lo, lm, hM, hM'⟩ := h
  have hA := loopQ1 (E := E) (N := N) (i := i) (a := slV F n) (b := slV G n) (hm := hm) (M := M) (M' := M') ho lo os.length 0 N (by omega) (by omega)
  have hB := loopQ0 (E := E) (N := N) (i := i) (a := slV F n) (b := slV G n) (hm := hm) (P := .sl (os.map qblk).flatten os.length) hms lm hM hM' ms.length 0 N (by omega) (by omega)
  have hlt : (i : Int) < (n : Int) := by exact_mod_cast hi
  have e7 : IntKind.i64.wrap ((i : Int) + 1) = ((i + 1 : Nat) : Int) := wrap_succ (by omega)
  have t1 : ∀ a b c d e f g j k l, tidy 2 (some [0, 1, 3, 4, 5, 6]) ⟨[slV F n, slV G n, a, i64 i, .c (.ptr 0 0 0), .c (.ptr 1 0 0), i64 (0 : Nat), b, c, d, e, f, g, j, k], l⟩ = gc 2 ⟨Q1 (slV F n) (slV G n) i 0, l⟩ := fun _ _ _ _ _ _ _ _ _ _ => rfl
  have t2 : ∀ a b c d e f g j k l, tidy 2 (some [0, 1, 3, 4, 5, 7]) ⟨[slV F n, slV G n, a, i64 i, .c (.ptr 0 0 0), .c (.ptr 1 0 0), b, i64 (0 : Nat), c, d, e, f, g, j, k], l⟩ = gc 2 ⟨Q0 (slV F n) (slV G n) i 0, l⟩ := fun _ _ _ _ _ _ _ _ _ _ => rfl
  have g1 : ∀ r (a b : Ob), gc 2 ⟨r, [a, b]⟩ = ⟨r, [a, b]⟩ := fun r a b => gc_le (Nat.le_refl _)
  refine ⟨[slV F n, slV G n, .any, i64 (i + 1 : Nat), .c (.ptr 0 0 0), .c (.ptr 1 0 0), .any, i64 ms.length, .any, .any, .any, .any, .any, bl false, .any], [.cells (recXC (.sl (os.map qblk).flatten os.length) hm M) 0 false, .cells (recXC (.sl (os.map qblk).flatten os.length) hm M') 0 false], ?_, rfl⟩
  simp only [Q1, Q0, slV, recXC, i64, bl, put, Int.ofNat_zero] at hA hB t1 t2
  rcases hM with rfl | ⟨rfl, rfl⟩
  · rcases hM' with rfl | ⟨h1, rfl⟩
    · simp only [fn14L2, Q2, slV, hlt, hi, lF, lG, hrf, hrg, ex, ey, recX, recXC, e7, ob?, t1, t2, g1, hA, hB, List.take_zero, List.take_succ_cons, List.drop_zero, List.drop_succ_cons, List.map_cons, List.map_nil, List.cons_append, List.nil_append, beq_self_eq_true, bne_self_eq_false, exec, runOps, wants, Mini.step, stepP, stepE, O.eff, Mini.look, nth, put, exports, bin, binInt, i64, bl, asNat_nat, ofCells, V.cells, List.length_cons, List.length_nil, Option.map_some, if_true, if_false, decide_true, List.all_nil, cond_true, cond_false, Nat.zero_add, Nat.add_zero, and_self, Int.ofNat_eq_natCast, Bool.false_eq_true, Nat.reduceAdd]
    · subst h1
      simp only [List.flatten_nil, List.length_nil, Int.ofNat_zero] at hA hB ex ey
      simp only [List.flatten_nil, List.length_nil, fn14L2, Q2, slV, hlt, hi, lF, lG, hrf, hrg, ex, ey, recX, recXC, e7, ob?, t1, t2, g1, hA, hB, List.take_zero, List.take_succ_cons, List.drop_zero, List.drop_succ_cons, List.map_cons, List.map_nil, List.cons_append, List.nil_append, beq_self_eq_true, bne_self_eq_false, Int.ofNat_zero, exec, runOps, wants, Mini.step, stepP, stepE, O.eff, Mini.look, nth, put, exports, bin, binInt, i64, bl, asNat_nat, ofCells, V.cells, List.length_cons, List.length_nil, Option.map_some, if_true, if_false, decide_true, List.all_nil, cond_true, cond_false, Nat.zero_add, Nat.add_zero, and_self, Int.ofNat_eq_natCast, Bool.false_eq_true, Nat.reduceAdd]
  · rcases hM' with rfl | ⟨h1, rfl⟩
    · simp only [List.flatten_nil, List.length_nil, Int.ofNat_zero] at hA hB ex ey
      simp only [List.flatten_nil, List.length_nil, fn14L2, Q2, slV, hlt, hi, lF, lG, hrf, hrg, ex, ey, recX, recXC, e7, ob?, t1, t2, g1, hA, hB, List.take_zero, List.take_succ_cons, List.drop_zero, List.drop_succ_cons, List.map_cons, List.map_nil, List.cons_append, List.nil_append, beq_self_eq_true, bne_self_eq_false, Int.ofNat_zero, exec, runOps, wants, Mini.step, stepP, stepE, O.eff, Mini.look, nth, put, exports, bin, binInt, i64, bl, asNat_nat, ofCells, V.cells, List.length_cons, List.length_nil, Option.map_some, if_true, if_false, decide_true, List.all_nil, cond_true, cond_false, Nat.zero_add, Nat.add_zero, and_self, Int.ofNat_eq_natCast, Bool.false_eq_true, Nat.reduceAdd]
    · simp only [List.length_nil, Int.ofNat_zero] at hA hB ex ey
      simp only [List.length_nil, fn14L2, Q2, slV, hlt, hi, lF, lG, hrf, hrg, ex, ey, recX, recXC, e7, ob?, t1, t2, g1, hA, hB, List.take_zero, List.take_succ_cons, List.drop_zero, List.drop_succ_cons, List.map_cons, List.map_nil, List.cons_append, List.nil_append, beq_self_eq_true, bne_self_eq_false, Int.ofNat_zero, exec, runOps, wants, Mini.step, stepP, stepE, O.eff, Mini.look, nth, put, exports, bin, binInt, i64, bl, asNat_nat, ofCells, V.cells, List.length_cons, List.length_nil, Option.map_some, if_true, if_false, decide_true, List.all_nil, cond_true, cond_false, Nat.zero_add, Nat.add_zero, and_self, Int.ofNat_eq_natCast, Bool.false_eq_true, Nat.reduceAdd]
theorem loopQ2 {E : Env} {N n : Nat} {F G : Nat → List D} (hN : 1000 ≤ N) (hF : ∀ j, (F j).length = 8) (hG : ∀ j, (G j).length = 8) (hn : n < 1000) (h : ∀ j, j < n → ∃ os ms hm M M', Match (F j) (G j) os ms hm M M') : ∀ (c i fuel : Nat), i + c = n → c < fuel →
    iter (some [0, 1, 3]) 0 (exec E N false fn14L2) fuel ⟨Q2 (slV F n) (slV G n) i, []⟩ = some (.exit 0, ⟨put (Q2 (slV F n) (slV G n) n) 9 (bl false), []⟩) := by
  intro c
  induction c with
  | zero =>
    intro i fuel a1 a2
    obtain ⟨f, rfl⟩ : ∃ f, fuel = f + 1 := ⟨fuel - 1, by omega⟩
    obtain rfl : i = n := by omega
    refine iter_stop ?_
    simp only [fn14L2, Q2, slV, Int.lt_irrefl, exec, runOps, wants, Mini.step, stepP, stepE, O.eff, Mini.look, nth, put, exports, bin, binInt, i64, bl, Option.map_some, if_true, if_false, decide_false, List.append_nil, List.all_nil, cond_false, Int.ofNat_eq_natCast, Bool.false_eq_true]
  | succ c ih =>
    intro i fuel a1 a2
    obtain ⟨f, rfl⟩ : ∃ f, fuel = f + 1 := ⟨fuel - 1, by omega⟩
    obtain ⟨os, ms, hm, M, M', hmt⟩ := h i (by omega)
    obtain ⟨r, H, hr, hk⟩ := roundQ2 (E := E) hN hF hG (by omega : i < n) hn hmt
    have ht : tidy 0 (some [0, 1, 3]) ⟨r, H⟩ = ⟨Q2 (slV F n) (slV G n) (i + 1), []⟩ := by
      have : tidy 0 (some [0, 1, 3]) ⟨r, H⟩ = gc 0 ⟨Q2 (slV F n) (slV G n) (i + 1), H⟩ := by rw [← hk]; rfl
      rw [this]
      exact gc_back (H := []) (t := H) 0 rfl rfl Hp.nil
    rw [iter_step hr, ht]
    exact ih (i + 1) f (by omega) (by omega)
theorem fn14_ok {X : Ctx} (hX : X.fns 14 = some fn14) {N n : Nat} {F G : Nat → List D} (hN : 1000 ≤ N) (hF : ∀ j, (F j).length = 8) (hG : ∀ j, (G j).length = 8) (hn : n < 1000) (h : ∀ j, j < n → ∃ os ms hm M M', Match (F j) (G j) os ms hm M M') : vcallN X (N + 1) 14 [slV F n, slV G n] = some (i64 1) := by
  have hl := loopQ2 (E := zenv X N) hN hF hG hn h n 0 N (by omega) (by omega)
  have t1 : ∀ a, tidy 0 (some [0, 1, 3]) ⟨[slV F n, slV G n, i64 0, i64 0, .any, .any, .any, .any, a, .any, .any, .any, .any, .any, .any], []⟩ = ⟨Q2 (slV F n) (slV G n) 0, []⟩ := fun _ => rfl
  refine vcall_of (r := i64 1) (H := []) ?_ rfl
  rw [fn14_is] at hX
  rw [callN_fn hX]
  simp only [Q2, slV, i64, put, bl, Int.ofNat_zero] at hl t1
  simp only [fn14', runFn, pad, List.replicate, Nat.reduceSub, List.cons_append, List.nil_append, slV, t1, hl, bne_self_eq_false, results, result, mapO, exec, runOps, wants, Mini.step, stepP, stepE, O.eff, Mini.look, nth, put, exports, bin, binInt, i64, List.length_cons, List.length_nil, Option.map_some, if_true, if_false, List.all_nil, cond_false, Nat.zero_add, Int.ofNat_eq_natCast, Bool.false_eq_true, Nat.reduceAdd]

/-! ### The long paths match -/
theorem recsR_ext {F G : Nat → List D} (h : ∀ j, F j = G j) : ∀ n, recsR F n = recsR G n
  | 0 => rfl
  | n + 1 => by rw [recsR, recsR, recsR_ext h n, h]
theorem recsD_R (p m : Nat) : ∀ n, recsD p m n = recsR (fun j => recD j p m) n
  | 0 => rfl
  | n + 1 => by rw [recsD, recsR, recsD_R p m n]
theorem unD_polC {a : List C} : (polC a).map unD = qblk (a.map unD) := by simp [polC, qblk, unD]
theorem map_flat_unD (es : List (List C)) : es.flatten.map unD = (es.map (·.map unD)).flatten := by rw [List.map_flatten]
theorem polsD_eq (i p : Nat) : polsD i p = (((polA i p).map (·.map unD)).map qblk).flatten := by
  rw [polsD, map_flat_unD, List.map_map, List.map_map]
  congr 1
  apply List.map_congr_left
  intro a _
  exact unD_polC
def dInt (c : C) : Bool := match c with
  | .d x => isInt x
  | _ => false
theorem un_int : ∀ cs : List C, cs.all dInt = true → (cs.map unD).all isInt = true
  | [], _ => rfl
  | c :: cs, h => by
    rw [List.all_cons, Bool.and_eq_true] at h
    rw [List.map_cons, List.all_cons, un_int cs h.2, Bool.and_true]
    cases c with
    | d x => exact h.1
    | _ => cases h.1
theorem polL_int (i : Nat) : ∀ k c, ∀ e ∈ polL i k c, e.all dInt = true
  | _, 0, _, h => by cases h
  | k, c + 1, e, h => by
    rcases List.mem_cons.1 h with rfl | h
    · rfl
    · exact polL_int i (k + 1) c e h
theorem polA_int (i p : Nat) : ∀ e ∈ polA i p, e.all dInt = true := fun e he => by
  rcases List.mem_append.1 he with h | h
  · exact polL_int i 0 p e h
  · rw [List.mem_singleton.1 h]; rfl
theorem mapL_int (i p m : Nat) : ∀ k c, ∀ e ∈ mapL i p m k c, e.all dInt = true
  | _, 0, _, h => by cases h
  | k, c + 1, e, h => by
    rcases List.mem_cons.1 h with rfl | h
    · rfl
    · exact mapL_int i p m (k + 1) c e h
theorem blk_un {es : List (List C)} {sz : Nat} (h1 : ∀ e ∈ es, e.length = sz) (h2 : ∀ e ∈ es, e.all dInt = true) : ∀ o ∈ es.map (·.map unD), o.length = sz ∧ o.all isInt = true := fun o ho => by
  obtain ⟨x, hx, rfl⟩ := List.mem_map.1 ho
  exact ⟨by rw [List.length_map]; exact h1 x hx, un_int x (h2 x hx)⟩
theorem match_long (p m j : Nat) (hp : p < 900) (hm : m < 900) : ∃ os ms hm' M M', Match (recD j p m) (recRL p m j) os ms hm' M M' := by
  have hlen : ((polA j p).map (·.map unD)).length = p + 1 := by simp [polA, polL_len]
  have hml : ((mapL j p m 0 m).map (·.map unD)).length = m := by rw [List.length_map, mapL_len]
  have hmm : decide ((m : Int) > 0) = decide (0 < m) := decide_eq_decide.2 (by omega)
  refine ⟨(polA j p).map (·.map unD), (mapL j p m 0 m).map (·.map unD), decide (0 < m), .sl (mapsD j p m) m, if m = 0 then .nils else .sl (mapsD j p m) m, ⟨?_, ?_, blk_un (polA_17 j p) (polA_int j p), blk_un (mapL_34 j p m 0 m) (mapL_int j p m 0 m), by omega, by omega, ?_, ?_⟩⟩
  · rw [recD, recX, polsD_eq, hlen, hmm]
  · rw [recRL, recR, recX, polsD_eq, hlen]
  · exact Or.inl (by rw [mapsD, map_flat_unD, hml])
  · split
    · rename_i h0
      subst h0
      exact Or.inr ⟨rfl, rfl⟩
    · exact Or.inl (by rw [mapsD, map_flat_unD, hml])
end Mini
end Go.Proofs.YtcilepbdddgpoaaDoor
