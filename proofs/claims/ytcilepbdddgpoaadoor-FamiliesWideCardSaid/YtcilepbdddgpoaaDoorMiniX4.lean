/-
  Wide: walked.
-/
import Derived.Test.YtcilepbdddgpoaaDoorMiniX3
namespace Go.Proofs.YtcilepbdddgpoaaDoor
namespace Mini
open Go

/-- Registers of the innermost loop. -/
def W0 (k : Nat) (inp arr : V) (i n : Nat) (mp os : V) (a b : Nat) : List V := [.any, i64 k, .any, inp, .any, arr, i64 i, mp, os, i64 a, .any, .any, i64 n, i64 i, .any, i64 k, i64 a, .any, i64 k, i64 b, .any]
def pairE (a b : Nat) : List C := polE 0 (a + 1 : Nat) ++ polE 0 (b + 1 : Nat)
def osM (b l c : Nat) : V := .c (.os b 0 0 l 34 (some c))
theorem roundW0 {E : Env} (hv : ∀ i k, E.vcall 28 [.c (.d (.int .i64 i)), .c (.d (.int .i64 k))] = some (.agg (polE i k))) {N k n i a b l : Nat} {inp arr os : V} {A T : Ob} {H : Heap} {es : List (List C)} (hes : ∀ e ∈ es, e.length = 34) (hl : es.length = l) (hlk : l < k * k) (hbk : b < k) (hk : k ≤ 8) (ha : a < k) :
    exec E N false fn9L0 ⟨W0 k inp arr i n (osM H.length l (k * k)) os a b, H ++ [.cells es.flatten 0 false, A, T]⟩ = some (.nrm, ⟨put (put (W0 k inp arr i n (osM H.length (l + 1) (k * k)) os a (b + 1)) 10 (i64 b)) 20 (bl true),
      H ++ [.cells (es ++ [pairE a b]).flatten 0 false, A, T, .cells (pairE a b) 0 false]⟩) := by
  have hlt : (b : Int) < (k : Int) := by exact_mod_cast hbk
  have e1 : IntKind.i64.wrap ((a : Int) + 1) = ((a + 1 : Nat) : Int) := wrap_succ (by omega)
  have e2 : IntKind.i64.wrap ((b : Int) + 1) = ((b + 1 : Nat) : Int) := wrap_succ (by omega)
  have hkk : k * k ≤ 8 * 8 := Nat.mul_le_mul hk hk
  have h34 : (polE 0 (a + 1 : Nat) ++ polE 0 (b + 1 : Nat)).length = 34 := rfl
  have hfl : es.flatten.length = l * 34 := by rw [flat_len es hes, hl]
  have h1 : l + 1 ≤ 1073741824 := by omega
  have h2 : l + 1 ≤ k * k := by omega
  have h3 : (polE 0 (a + 1 : Nat) ++ polE 0 (b + 1 : Nat)).take 34 = polE 0 (a + 1 : Nat) ++ polE 0 (b + 1 : Nat) := rfl
  have hsp : splice es.flatten (l * 34) (polE 0 (a + 1 : Nat) ++ polE 0 (b + 1 : Nat)) = (es ++ [pairE a b]).flatten := by
    unfold splice
    rw [← hfl, List.take_length, List.drop_eq_nil_of_le (by omega)]
    simp [pairE]
  have hrep : ∀ z : List C, rep z 1 = z := fun z => by simp [rep]
  have hl34 : ∀ a, a.length = 34 → lay ([C.d (.int .u8 0)] ++ List.replicate 16 (C.d (.int .u32 0)) ++ [C.d (.int .u8 0)] ++ List.replicate 16 (C.d (.int .u32 0))) [(0, 34, .agg a)] = some a := fun a ha => by
    simp [lay, V.cells, splice, ha]
  have hl34 := hl34 _ h34
  simp only [List.replicate, List.cons_append, List.nil_append] at hl34
  simp only [fn9L0, W0, osM, hlt, e1, e2, byValue, mapO, deepV1, deepC, hv, V.flat, V.flat1, polE_flat, hrep, List.map_cons, List.map_nil, lay34 (polE_len _ _) (polE_len _ _), hl34, elems, at0, at3, se0, hfl, h1, h2, h3, h34, hsp, pairE, List.drop_zero, List.append_assoc, List.cons_append, List.nil_append, List.length_append, Nat.le_refl, exec, runOps, wants, Mini.step, stepP, stepE, O.eff, Mini.look, nth, put, exports, bin, binInt, i64, bl, ob_eq, setOb_eq, List.length_cons, List.length_nil, Option.map_some, if_true, if_false, decide_true, List.all_nil, cond_true, Nat.zero_add, Nat.one_mul, and_self, reduceCtorEq, Bool.false_eq_true, Nat.reduceAdd, and_true]
theorem endW0 {E : Env} {N k n i a : Nat} {inp arr mp os : V} {H : Heap} : exec E N false fn9L0 ⟨W0 k inp arr i n mp os a k, H⟩ = some (.exit 4, ⟨put (W0 k inp arr i n mp os a k) 20 (bl false), H⟩) := by
  simp only [fn9L0, W0, Int.lt_irrefl, exec, runOps, wants, Mini.step, stepP, stepE, O.eff, Mini.look, nth, put, exports, bin, binInt, i64, bl, Option.map_some, if_true, if_false, decide_false, List.append_nil, List.all_nil, cond_false, Bool.false_eq_true]
def rowW (a : Nat) : Nat → Nat → List (List C)
  | _, 0 => []
  | b, c + 1 => pairE a b :: rowW a (b + 1) c
theorem rowW_len (a : Nat) : ∀ b c, (rowW a b c).length = c
  | _, 0 => rfl
  | b, c + 1 => by rw [rowW, List.length_cons, rowW_len a (b + 1) c]
theorem rowW_34 (a : Nat) : ∀ b c, ∀ e ∈ rowW a b c, e.length = 34 ∧ e.all C.isD = true
  | _, 0, _, h => by cases h
  | b, c + 1, e, h => by
    rcases List.mem_cons.1 h with rfl | h
    · exact ⟨rfl, rfl⟩
    · exact rowW_34 a (b + 1) c e h
theorem loopW0 {E : Env} (hv : ∀ i k, E.vcall 28 [.c (.d (.int .i64 i)), .c (.d (.int .i64 k))] = some (.agg (polE i k))) {N k n i a : Nat} {inp arr : C} {A T : Ob} {aid ag al : Nat} {H : Heap} (hk : k ≤ 8) (ha : a < k) (hH : Hp H.length H) (h1 : uC H.length inp = true) (h2 : uC H.length arr = true) (hA : uO H.length A = true) (hT : uO H.length T = true) (haid : aid < H.length + 2) :
    ∀ (c b l : Nat) (es : List (List C)) (fuel : Nat), b + c = k → c < fuel → es.length = l → l + c ≤ k * k → (∀ e ∈ es, e.length = 34 ∧ e.all C.isD = true) →
    iter (some [1, 3, 5, 6, 7, 8, 9, 12, 13, 15, 16, 18, 19]) (H.length + 3) (exec E N false fn9L0) fuel ⟨W0 k (.c inp) (.c arr) i n (osM H.length l (k * k)) (os17 aid ag al) a b, H ++ [.cells es.flatten 0 false, A, T]⟩
      = some (.exit 4, ⟨put (W0 k (.c inp) (.c arr) i n (osM H.length (l + c) (k * k)) (os17 aid ag al) a k) 20 (bl false), H ++ [.cells (es ++ rowW a b c).flatten 0 false, A, T]⟩) := by
  intro c
  induction c with
  | zero =>
    intro b l es fuel a1 a2 a3 a4 a5
    obtain ⟨f, rfl⟩ : ∃ f, fuel = f + 1 := ⟨fuel - 1, by omega⟩
    obtain rfl : b = k := by omega
    rw [iter_stop endW0, rowW, List.append_nil, Nat.add_zero]
  | succ c ih =>
    intro b l es fuel a1 a2 a3 a4 a5
    obtain ⟨f, rfl⟩ : ∃ f, fuel = f + 1 := ⟨fuel - 1, by omega⟩
    have hr := roundW0 hv (N := N) (n := n) (i := i) (inp := .c inp) (arr := .c arr) (os := os17 aid ag al) (A := A) (T := T) (H := H) (fun e he => (a5 e he).1) a3 (by omega : l < k * k) (by omega : b < k) hk ha
    have a5' : ∀ e ∈ es ++ [pairE a b], e.length = 34 ∧ e.all C.isD = true := fun e he => by
      rcases List.mem_append.1 he with h | h
      · exact a5 e h
      · rw [List.mem_singleton.1 h]; exact ⟨rfl, rfl⟩
    have hl : (H ++ [Ob.cells (es ++ [pairE a b]).flatten 0 false, A, T]).length = H.length + 3 := by simp
    have ht : tidy (H.length + 3) (some [1, 3, 5, 6, 7, 8, 9, 12, 13, 15, 16, 18, 19]) ⟨put (put (W0 k (.c inp) (.c arr) i n (osM H.length (l + 1) (k * k)) (os17 aid ag al) a (b + 1)) 10 (i64 b)) 20 (bl true), H ++ [.cells (es ++ [pairE a b]).flatten 0 false, A, T, .cells (pairE a b) 0 false]⟩
        = ⟨W0 k (.c inp) (.c arr) i n (osM H.length (l + 1) (k * k)) (os17 aid ag al) a (b + 1), H ++ [.cells (es ++ [pairE a b]).flatten 0 false, A, T]⟩ := by
      rw [show H ++ [Ob.cells (es ++ [pairE a b]).flatten 0 false, A, T, .cells (pairE a b) 0 false] = (H ++ [Ob.cells (es ++ [pairE a b]).flatten 0 false, A, T]) ++ [.cells (pairE a b) 0 false] by simp]
      refine (show _ = gc (H.length + 3) ⟨W0 k (.c inp) (.c arr) i n (osM H.length (l + 1) (k * k)) (os17 aid ag al) a (b + 1), (H ++ [Ob.cells (es ++ [pairE a b]).flatten 0 false, A, T]) ++ [.cells (pairE a b) 0 false]⟩ from rfl).trans (gc_back _ hl.symm ?_ ?_)
      · rw [hl]
        simp only [W0, os17, osM, i64, List.all_cons, List.all_nil, V.under, uC_under (uC_mono (Nat.le_add_right H.length 3) h1), uC_under (uC_mono (Nat.le_add_right H.length 3) h2), Bool.and_true, Bool.true_and, Bool.and_eq_true]
        exact ⟨rfl, rfl, decide_eq_true (by omega), decide_eq_true (by omega), rfl, rfl, rfl, rfl, rfl, rfl, rfl⟩
      · rw [hl]
        exact (hH.mono (by omega)).app (Hp.cons (flat_u fun e he => uC_all_d (a5' e he).2) (Hp.cons (uO_mono (by omega) hA) (Hp.cons (uO_mono (by omega) hT) Hp.nil)))
    rw [iter_step hr, ht, ih (b + 1) (l + 1) _ f (by omega) (by omega) (by simp [a3]) (by omega) a5']
    simp [rowW, Nat.add_assoc, Nat.add_comm 1 c]
/-- Registers of the middle loop. -/
def W1 (k : Nat) (inp arr : V) (i n : Nat) (mp os : V) (a : Nat) : List V := [.any, i64 k, .any, inp, .any, arr, i64 i, mp, os, .any, .any, .any, i64 n, i64 i, .any, i64 k, i64 a, .any, .any, .any, .any]
theorem roundW1 {E : Env} (hv : ∀ i k, E.vcall 28 [.c (.d (.int .i64 i)), .c (.d (.int .i64 k))] = some (.agg (polE i k))) {N k n i a : Nat} {inp arr : C} {H : Heap} {es ps : List (List C)} (hN : 1000 ≤ N) (hk : k ≤ 8) (ha : a < k) (hH : Hp H.length H) (h1 : uC H.length inp = true) (h2 : uC H.length arr = true)
    (hes : es.length = a * k) (hes' : ∀ e ∈ es, e.length = 34 ∧ e.all C.isD = true) (hps : ps.length = a) (hps' : ∀ e ∈ ps, e.length = 17) (hpsd : ∀ e ∈ ps, e.all C.isD = true) :
    ∃ r, exec E N false fn9L1 ⟨W1 k (.c inp) (.c arr) i n (osM H.length (a * k) (k * k)) (os17 (H.length + 1) a a) a, H ++ [.cells es.flatten 0 false, .cells ps.flatten a false]⟩ = some (.nrm, ⟨r,
      H ++ [.cells (es ++ rowW a 0 k).flatten 0 false, .cells (ps ++ [polE 0 (a + 1 : Nat)]).flatten (a + 1) false, .cells (polE 0 (a + 1 : Nat)) 0 false]⟩) ∧ keepOnly [1, 3, 5, 6, 7, 8, 12, 13, 15, 16] 0 r = W1 k (.c inp) (.c arr) i n (osM H.length ((a + 1) * k) (k * k)) (os17 (H.length + 1) (a + 1) (a + 1)) (a + 1) := by
  have hak : a * k + k ≤ k * k := by
    have : (a + 1) * k ≤ k * k := Nat.mul_le_mul_right _ ha
    rwa [Nat.succ_mul] at this
  have hpp : ∀ e ∈ ps ++ [polE 0 (a + 1 : Nat)], e.all C.isD = true := fun e he => by
    rcases List.mem_append.1 he with h | h
    · exact hpsd e h
    · rw [List.mem_singleton.1 h]; rfl
  have hw := loopW0 hv (N := N) (n := n) (i := i) (inp := inp) (arr := arr) (A := .cells (ps ++ [polE 0 (a + 1 : Nat)]).flatten (a + 1) false) (T := .cells (polE 0 (a + 1 : Nat)) 0 false) (aid := H.length + 1) (ag := a + 1) (al := a + 1) (H := H) hk ha hH h1 h2 (flat_u fun e he => uC_all_d (hpp e he)) rfl (by omega) k 0 (a * k) es N (by omega) (by omega) hes hak hes'
  have hlt : (a : Int) < (k : Int) := by exact_mod_cast ha
  have e1 : IntKind.i64.wrap ((a : Int) + 1) = ((a + 1 : Nat) : Int) := wrap_succ (by omega)
  have hl : ps.flatten.length = a * 17 := by rw [flat_len ps hps', hps]
  have hb : a + 1 ≤ 1073741824 := by omega
  have h3 : ps.flatten.take (a * 17) = ps.flatten := by rw [← hl, List.take_length]
  have h4 : (ps.flatten ++ polE 0 (a + 1 : Nat)) = (ps ++ [polE 0 (a + 1 : Nat)]).flatten := by simp
  have h5 : ∀ j, (polE 0 j).take 17 = polE 0 j := fun j => rfl
  have t1 : ∀ x y z, tidy (H.length + 3) (some [1, 3, 5, 6, 7, 8, 9, 12, 13, 15, 16, 18, 19]) ⟨[.any, i64 k, .any, .c inp, .any, .c arr, i64 i, osM H.length (a * k) (k * k), os17 (H.length + 1) (a + 1) (a + 1), i64 a, x, y, i64 n, i64 i, .any, i64 k, i64 a, z, i64 k, i64 (0 : Nat), .any], H ++ [.cells es.flatten 0 false, .cells (ps ++ [polE 0 (a + 1 : Nat)]).flatten (a + 1) false, .cells (polE 0 (a + 1 : Nat)) 0 false]⟩ = ⟨W0 k (.c inp) (.c arr) i n (osM H.length (a * k) (k * k)) (os17 (H.length + 1) (a + 1) (a + 1)) a 0, H ++ [.cells es.flatten 0 false, .cells (ps ++ [polE 0 (a + 1 : Nat)]).flatten (a + 1) false, .cells (polE 0 (a + 1 : Nat)) 0 false]⟩ := fun x y z =>
    (show _ = gc (H.length + 3) ⟨W0 k (.c inp) (.c arr) i n (osM H.length (a * k) (k * k)) (os17 (H.length + 1) (a + 1) (a + 1)) a 0, _⟩ from rfl).trans (gc_le (by simp))
  refine ⟨[.any, i64 k, .any, .c inp, .any, .c arr, i64 i, osM H.length (a * k + k) (k * k), os17 (H.length + 1) (a + 1) (a + 1), i64 a, .any, .any, i64 n, i64 i, .any, i64 k, i64 (a + 1 : Nat), .any, i64 k, i64 k, bl false], ?_, by rw [Nat.succ_mul]; rfl⟩
  simp only [W0, os17, osM, i64, bl, put, Int.ofNat_zero] at hw t1
  simp only [fn9L1, W1, os17, osM, hlt, e1, byValue, mapO, deepV1, deepC, hv, V.flat, V.flat1, polE_flat, polE_len, rep, List.map_cons, List.map_nil, lay17 (polE_len _ _), elems, at1, at2, se1, hl, hb, h3, h4, h5, freshen, t1, hw, List.drop_zero, List.append_assoc, List.cons_append, List.nil_append, List.length_append, Nat.le_refl, exec, runOps, wants, Mini.step, stepP, stepE, O.eff, Mini.look, nth, put, exports, bin, binInt, i64, bl, ob_eq, setOb_eq, List.length_cons, List.length_nil, Option.map_some, if_true, if_false, decide_true, List.append_nil, List.all_nil, cond_true, Nat.zero_add, Nat.one_mul, and_self, reduceCtorEq, Bool.false_eq_true, Nat.reduceAdd, and_true]
def polW : Nat → Nat → List (List C)
  | _, 0 => []
  | a, c + 1 => polE 0 (a + 1 : Nat) :: polW (a + 1) c
def rowsW (k : Nat) : Nat → Nat → List (List C)
  | _, 0 => []
  | a, c + 1 => rowW a 0 k ++ rowsW k (a + 1) c
theorem endW1 {E : Env} {N k n i : Nat} {inp arr mp os : V} {H : Heap} : exec E N false fn9L1 ⟨W1 k inp arr i n mp os k, H⟩ = some (.exit 2, ⟨put (W1 k inp arr i n mp os k) 17 (bl false), H⟩) := by
  simp only [fn9L1, W1, Int.lt_irrefl, exec, runOps, wants, Mini.step, stepP, stepE, O.eff, Mini.look, nth, put, exports, bin, binInt, i64, bl, Option.map_some, if_true, if_false, decide_false, List.append_nil, List.all_nil, cond_false, Bool.false_eq_true]
theorem loopW1 {E : Env} (hv : ∀ i k, E.vcall 28 [.c (.d (.int .i64 i)), .c (.d (.int .i64 k))] = some (.agg (polE i k))) {N k n i : Nat} {inp arr : C} {H : Heap} (hN : 1000 ≤ N) (hk : k ≤ 8) (hH : Hp H.length H) (h1 : uC H.length inp = true) (h2 : uC H.length arr = true) :
    ∀ (c a : Nat) (es ps : List (List C)) (fuel : Nat), a + c = k → c < fuel → es.length = a * k → (∀ e ∈ es, e.length = 34 ∧ e.all C.isD = true) → ps.length = a → (∀ e ∈ ps, e.length = 17) → (∀ e ∈ ps, e.all C.isD = true) →
    iter (some [1, 3, 5, 6, 7, 8, 12, 13, 15, 16]) (H.length + 2) (exec E N false fn9L1) fuel ⟨W1 k (.c inp) (.c arr) i n (osM H.length (a * k) (k * k)) (os17 (H.length + 1) a a) a, H ++ [.cells es.flatten 0 false, .cells ps.flatten a false]⟩
      = some (.exit 2, ⟨put (W1 k (.c inp) (.c arr) i n (osM H.length (k * k) (k * k)) (os17 (H.length + 1) k k) k) 17 (bl false), H ++ [.cells (es ++ rowsW k a c).flatten 0 false, .cells (ps ++ polW a c).flatten k false]⟩) := by
  intro c
  induction c with
  | zero =>
    intro a es ps fuel a1 a2 a3 a4 a5 a6 a7
    obtain ⟨f, rfl⟩ : ∃ f, fuel = f + 1 := ⟨fuel - 1, by omega⟩
    obtain rfl : a = k := by omega
    rw [iter_stop endW1, rowsW, polW, List.append_nil, List.append_nil]
  | succ c ih =>
    intro a es ps fuel a1 a2 a3 a4 a5 a6 a7
    obtain ⟨f, rfl⟩ : ∃ f, fuel = f + 1 := ⟨fuel - 1, by omega⟩
    obtain ⟨r, hr, hkp⟩ := roundW1 hv (n := n) (i := i) hN hk (by omega : a < k) hH h1 h2 a3 a4 a5 a6 a7
    have a4' : ∀ e ∈ es ++ rowW a 0 k, e.length = 34 ∧ e.all C.isD = true := fun e he => by
      rcases List.mem_append.1 he with h | h
      · exact a4 e h
      · exact rowW_34 a 0 k e h
    have a6' : ∀ e ∈ ps ++ [polE 0 (a + 1 : Nat)], e.length = 17 := fun e he => by
      rcases List.mem_append.1 he with h | h
      · exact a6 e h
      · rw [List.mem_singleton.1 h]; rfl
    have a7' : ∀ e ∈ ps ++ [polE 0 (a + 1 : Nat)], e.all C.isD = true := fun e he => by
      rcases List.mem_append.1 he with h | h
      · exact a7 e h
      · rw [List.mem_singleton.1 h]; rfl
    have hl : (H ++ [Ob.cells (es ++ rowW a 0 k).flatten 0 false, .cells (ps ++ [polE 0 (a + 1 : Nat)]).flatten (a + 1) false]).length = H.length + 2 := by simp
    have ht : tidy (H.length + 2) (some [1, 3, 5, 6, 7, 8, 12, 13, 15, 16]) ⟨r, H ++ [.cells (es ++ rowW a 0 k).flatten 0 false, .cells (ps ++ [polE 0 (a + 1 : Nat)]).flatten (a + 1) false, .cells (polE 0 (a + 1 : Nat)) 0 false]⟩
        = ⟨W1 k (.c inp) (.c arr) i n (osM H.length ((a + 1) * k) (k * k)) (os17 (H.length + 1) (a + 1) (a + 1)) (a + 1), H ++ [.cells (es ++ rowW a 0 k).flatten 0 false, .cells (ps ++ [polE 0 (a + 1 : Nat)]).flatten (a + 1) false]⟩ := by
      rw [show H ++ [Ob.cells (es ++ rowW a 0 k).flatten 0 false, .cells (ps ++ [polE 0 (a + 1 : Nat)]).flatten (a + 1) false, .cells (polE 0 (a + 1 : Nat)) 0 false] = (H ++ [Ob.cells (es ++ rowW a 0 k).flatten 0 false, .cells (ps ++ [polE 0 (a + 1 : Nat)]).flatten (a + 1) false]) ++ [.cells (polE 0 (a + 1 : Nat)) 0 false] by simp, ← hkp]
      refine (show _ = gc (H.length + 2) ⟨keepOnly [1, 3, 5, 6, 7, 8, 12, 13, 15, 16] 0 r, _⟩ from rfl).trans (gc_back _ hl.symm ?_ ?_)
      · rw [hl, hkp]
        simp only [W1, os17, osM, i64, List.all_cons, List.all_nil, V.under, uC_under (uC_mono (Nat.le_add_right H.length 2) h1), uC_under (uC_mono (Nat.le_add_right H.length 2) h2), Bool.and_true, Bool.true_and, Bool.and_eq_true]
        exact ⟨rfl, rfl, decide_eq_true (by omega), decide_eq_true (by omega), rfl, rfl, rfl, rfl⟩
      · rw [hl]
        exact (hH.mono (by omega)).app (Hp.cons (flat_u fun e he => uC_all_d (a4' e he).2) (Hp.cons (flat_u fun e he => uC_all_d (a7' e he)) Hp.nil))
    rw [iter_step hr, ht, ih (a + 1) _ _ f (by omega) (by omega) (by rw [List.length_append, rowW_len, a3, Nat.succ_mul]) a4' (by simp [a5]) a6' a7']
    simp [rowsW, polW]
end Mini
end Go.Proofs.YtcilepbdddgpoaaDoor
