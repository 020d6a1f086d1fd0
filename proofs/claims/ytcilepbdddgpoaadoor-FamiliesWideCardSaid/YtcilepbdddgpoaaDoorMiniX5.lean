/-
  Wide: all rounds; what it returns, read out.
-/
import Derived.Test.YtcilepbdddgpoaaDoorMiniX4
namespace Go.Proofs.YtcilepbdddgpoaaDoor
namespace Mini
open Go

theorem rowsW_len (k : Nat) : ∀ a c, (rowsW k a c).length = c * k
  | _, 0 => by simp [rowsW]
  | a, c + 1 => by rw [rowsW, List.length_append, rowW_len, rowsW_len k (a + 1) c, Nat.succ_mul, Nat.add_comm]
theorem rowsW_34 (k : Nat) : ∀ a c, ∀ e ∈ rowsW k a c, e.length = 34 ∧ e.all C.isD = true
  | _, 0, _, h => by cases h
  | a, c + 1, e, h => by
    rcases List.mem_append.1 h with h | h
    · exact rowW_34 a 0 k e h
    · exact rowsW_34 k (a + 1) c e h
theorem polW_len : ∀ a c, (polW a c).length = c
  | _, 0 => rfl
  | a, c + 1 => by rw [polW, List.length_cons, polW_len (a + 1) c]
theorem polW_17 : ∀ a c, ∀ e ∈ polW a c, e.length = 17 ∧ e.all C.isD = true
  | _, 0, _, h => by cases h
  | a, c + 1, e, h => by
    rcases List.mem_cons.1 h with rfl | h
    · exact ⟨rfl, rfl⟩
    · exact polW_17 (a + 1) c e h
def W2 (k : Nat) (inp arr : V) (i n : Nat) : List V := [.any, i64 k, .any, inp, .any, arr, .any, .any, .any, .any, .any, .any, i64 n, i64 i, .any, .any, .any, .any, .any, .any, .any]
def recW (b k : Nat) : List C := recC true (decide (((k * k : Nat) : Int) > 0)) (.os (b + 4) 0 0 k 18 (some k)) (.os b 0 0 (k * k) 34 (some (k * k)))
theorem recW_eq (b k : Nat) : recC true (decide (((k * k : Nat) : Int) > 0)) (.os (b + 4) 0 0 k 18 (some k)) (.os b 0 0 (k * k) 34 (some (k * k))) = recW b k := rfl
def newW (b k : Nat) : Heap := [.cells (rowsW k 0 k).flatten 0 false, .cells (polW 0 k).flatten k false, .cells (recW b k) 0 false, .cells (recW b k) 0 false, .cells ((polW 0 k).map polC).flatten 0 false]
theorem roundW2 {X : Ctx} (hX : X.fns 29 = some fn29) {N : Nat} (hN : 1000 ≤ N) (hv : ∀ i k, (zenv X (N + 1)).vcall 28 [.c (.d (.int .i64 i)), .c (.d (.int .i64 k))] = some (.agg (polE i k)))
    {M k n i ai : Nat} {inp : C} {H : Heap} {rs : List (List C)} (hM : 1000 ≤ M) (hk : k ≤ 8) (hin : i < n) (hn : n < 900) (hH : Hp H.length H) (h1 : uC H.length inp = true) (hai : H[ai]? = some (.cells rs.flatten 0 false)) (hrs : ∀ e ∈ rs, e.length = 8) (hrn : rs.length = n) :
    ∃ r, exec (zenv X (N + 1)) M false fn9L2 ⟨W2 k (.c inp) (.c (os8 ai n)) i n, H⟩ = some (.nrm, ⟨r, H.set ai (.cells (rs.set i (recW H.length k)).flatten 0 false) ++ newW H.length k⟩) ∧ keepOnly [1, 3, 5, 12, 13] 0 r = W2 k (.c inp) (.c (os8 ai n)) (i + 1) n := by
  have hlen : ai < H.length := (List.getElem?_eq_some_iff.1 hai).1
  have hkk : k * k ≤ 8 * 8 := Nat.mul_le_mul hk hk
  have h2 : uC H.length (os8 ai n) = true := decide_eq_true hlen
  have hA := loopW1 hv (N := M) (n := n) (i := i) (inp := inp) (arr := os8 ai n) (H := H) hM hk hH h1 h2 k 0 [] [] M (by omega) (by omega) (by simp) (fun e he => by cases he) rfl (fun e he => by cases he) (fun e he => by cases he)
  rw [Nat.zero_mul] at hA
  have tA : ∀ a b c d e f g j l, tidy (H.length + 2) (some [1, 3, 5, 6, 7, 8, 12, 13, 15, 16]) ⟨[a, i64 k, b, .c inp, c, .c (os8 ai n), i64 i, osM H.length 0 (k * k), os17 (H.length + 1) 0 0, d, e, f, i64 n, i64 i, g, i64 k, i64 (0 : Nat), j, l, .any, .any], H ++ [.cells [] 0 false, .cells [] 0 false]⟩ = ⟨W1 k (.c inp) (.c (os8 ai n)) i n (osM H.length 0 (k * k)) (os17 (H.length + 1) 0 0) 0, H ++ [.cells [] 0 false, .cells [] 0 false]⟩ := fun a b c d e f g j l =>
    (show _ = gc (H.length + 2) ⟨W1 k (.c inp) (.c (os8 ai n)) i n (osM H.length 0 (k * k)) (os17 (H.length + 1) 0 0) 0, H ++ [.cells [] 0 false, .cells [] 0 false]⟩ from rfl).trans (gc_le (by simp))
  have hK : Hp (H.length + 2) (H ++ [.cells (rowsW k 0 k).flatten 0 false, .cells (polW 0 k).flatten k false]) :=
    (hH.mono (by omega)).app (Hp.cons (flat_u fun e he => uC_all_d (rowsW_34 k 0 k e he).2) (Hp.cons (flat_u fun e he => uC_all_d (polW_17 0 k e he).2) Hp.nil))
  have hC := fn29_ok hX (N := N) (pid := H.length + 1) (g := k) (len := k) (mid := H.length) (gm := 0) (om := 0) (mm := k * k) (cap := none) (capm := some (k * k)) (H := H ++ [.cells (rowsW k 0 k).flatten 0 false, .cells (polW 0 k).flatten k false]) (fz := false) hN at1 (fun e he => (polW_17 0 k e he).1) (fun e he => (polW_17 0 k e he).2) (polW_len 0 k) (by omega) (by simpa using hK) (by simp)
  have hlt : (i : Int) < (n : Int) := by exact_mod_cast hin
  have e1 : IntKind.i64.wrap ((i : Int) + 1) = ((i + 1 : Nat) : Int) := wrap_succ (by omega)
  have e0 : IntKind.i64.wrap ((k : Int) * (k : Int)) = ((k * k : Nat) : Int) := i64_id (by simp) (by omega)
  have e2 : k * k * 136 ≤ 1099511627776 := by omega
  have e3 : k * k ≤ 1099511627776 := by omega
  have hset : ∀ t o, (H ++ t).set ai o = H.set ai o ++ t := fun t o => List.set_append_left _ _ hlen
  have hat : ∀ t, (H ++ t)[ai]? = some (Ob.cells rs.flatten 0 false) := fun t => atL hai
  have hin' : i < rs.length := by omega
  have hst := flat_st (recW H.length k) hrs (List.getElem?_eq_getElem hin') (Nat.le_refl 8)
  have hst : splice rs.flatten (i * 8) (recW H.length k) = (rs.set i (recW H.length k)).flatten := by
    rw [hst, show (rs[i]).drop (recW H.length k).length = [] from List.drop_eq_nil_of_le (by rw [hrs _ (List.getElem_mem hin')]; exact Nat.le_refl 8), List.append_nil]
  have hbnd : i * 8 + 8 ≤ rs.flatten.length := flat_mem hrs (List.getElem?_eq_getElem hin')
  have h8 : (recW H.length k).length = 8 := rfl
  have asN0 : asNat (.c (.d (.int .i64 0))) = some 0 := rfl
  refine ⟨[.any, i64 k, .any, .c inp, .any, .c (os8 ai n), i64 i, osM H.length (k * k) (k * k), os17 (H.length + 1) k k, .any, .any, .any, i64 n, i64 (i + 1 : Nat), .any, i64 k, i64 k, bl false, .any, .any, .any], ?_, rfl⟩
  rw [show (H ++ [Ob.cells (rowsW k 0 k).flatten 0 false, .cells (polW 0 k).flatten k false]).length + 2 = H.length + 4 by simp] at hC
  simp only [W1, os17, osM, os8, i64, bl, put, List.flatten_nil, List.nil_append, Int.ofNat_zero] at hA tA
  simp only [recW_eq] at hC
  simp only [fn9L2, W2, os8, os17, osM, hlt, e0, e1, e2, e3, freshen, tA, hA, rep_flat, List.replicate_zero, List.flatten_nil, asN0, Nat.zero_le, zenv_call, hC, hset, hat, hst, hbnd, hin, h8, newW, List.map_cons, List.map_nil, List.append_assoc, List.cons_append, List.nil_append, List.length_append, exec, runOps, wants, Mini.step, stepP, stepE, O.eff, Mini.look, nth, put, exports, bin, binInt, i64, bl, asNat_nat, ob_eq, setOb_eq, V.cells, List.length_cons, List.length_nil, Option.map_some, if_true, if_false, decide_true, List.append_nil, List.all_nil, cond_true, Nat.zero_add, and_self, Bool.false_eq_true, Nat.reduceAdd]
structure Inv9 (L k0 n ai : Nat) (H0 H : Heap) (i : Nat) : Prop where
  len : H.length = L + 5 * i
  arr : H[ai]? = some (.cells (recsL (fun k => recW (L + 5 * k) k0) i ++ List.replicate (n - i) zrec).flatten 0 false)
  hp : Hp H.length H
  old : ∀ j, j < L → j ≠ ai → H[j]? = H0[j]?
  pol : ∀ k, k < i → H[L + 5 * k + 4]? = some (.cells ((polW 0 k0).map polC).flatten 0 false)
  map : ∀ k, k < i → H[L + 5 * k]? = some (.cells (rowsW k0 0 k0).flatten 0 false)
theorem recW_u {b k0 n : Nat} (h : b + 5 ≤ n) : (recW b k0).all (uC n) = true := by
  simp only [recW, recC, m1, List.all_cons, List.all_nil, uC, Bool.and_true, Bool.true_and, Bool.and_eq_true, decide_eq_true_eq]
  omega
theorem rsW_8 {L k0 n i : Nat} : ∀ e ∈ recsL (fun k => recW (L + 5 * k) k0) i ++ List.replicate (n - i) zrec, e.length = 8 := fun e he => by
  rcases List.mem_append.1 he with h | h
  · exact recsL_all _ (P := fun e => e.length = 8) (fun _ => rfl) i e h
  · rw [List.eq_of_mem_replicate h]; rfl
theorem loopW2 {X : Ctx} (hX : X.fns 29 = some fn29) {N : Nat} (hN : 1000 ≤ N) (hv : ∀ i k, (zenv X (N + 1)).vcall 28 [.c (.d (.int .i64 i)), .c (.d (.int .i64 k))] = some (.agg (polE i k)))
    {M k0 n ai L : Nat} {inp : C} {H0 : Heap} (hM : 1000 ≤ M) (hk0 : k0 ≤ 8) (hn : n < 900) (h1 : uC L inp = true) (hai : ai < L) :
    ∀ (c i : Nat) (H : Heap) (fuel : Nat), i + c = n → c < fuel → Inv9 L k0 n ai H0 H i →
    ∃ r H', iter (some [1, 3, 5, 12, 13]) L (exec (zenv X (N + 1)) M false fn9L2) fuel ⟨W2 k0 (.c inp) (.c (os8 ai n)) i n, H⟩ = some (.exit 0, ⟨put (W2 k0 (.c inp) (.c (os8 ai n)) n n) 14 r, H'⟩) ∧ Inv9 L k0 n ai H0 H' n := by
  intro c
  induction c with
  | zero =>
    intro i H fuel a1 a2 a3
    obtain ⟨f, rfl⟩ : ∃ f, fuel = f + 1 := ⟨fuel - 1, by omega⟩
    obtain rfl : i = n := by omega
    refine ⟨bl false, H, iter_stop ?_, a3⟩
    simp only [fn9L2, W2, Int.lt_irrefl, exec, runOps, wants, Mini.step, stepP, stepE, O.eff, Mini.look, nth, put, exports, bin, binInt, i64, bl, Option.map_some, if_true, if_false, decide_false, List.append_nil, List.all_nil, cond_false, Bool.false_eq_true]
  | succ c ih =>
    intro i H fuel a1 a2 a3
    obtain ⟨f, rfl⟩ : ∃ f, fuel = f + 1 := ⟨fuel - 1, by omega⟩
    have hin : i < n := by omega
    have hlenrs : (recsL (fun k => recW (L + 5 * k) k0) i ++ List.replicate (n - i) zrec).length = n := by rw [List.length_append, recsL_len, List.length_replicate]; omega
    obtain ⟨r, hr, hk⟩ := roundW2 hX hN hv (M := M) hM hk0 hin hn a3.hp (uC_mono (by rw [a3.len]; omega) h1) a3.arr rsW_8 hlenrs
    have hset : (recsL (fun k => recW (L + 5 * k) k0) i ++ List.replicate (n - i) zrec).set i (recW H.length k0) = recsL (fun k => recW (L + 5 * k) k0) (i + 1) ++ List.replicate (n - (i + 1)) zrec := by
      rw [List.set_append_right _ _ (by rw [recsL_len]; exact Nat.le_refl _), recsL_len, show n - i = (n - (i + 1)) + 1 by omega, List.replicate_succ]
      simp [recsL, a3.len]
    rw [hset] at hr
    have hai' : ai < H.length := by rw [a3.len]; omega
    have hb : H.length + 5 = L + 5 * (i + 1) := by rw [a3.len]; omega
    have inv : Inv9 L k0 n ai H0 (H.set ai (.cells (recsL (fun k => recW (L + 5 * k) k0) (i + 1) ++ List.replicate (n - (i + 1)) zrec).flatten 0 false) ++ newW H.length k0) (i + 1) := by
      have hl : (H.set ai (.cells (recsL (fun k => recW (L + 5 * k) k0) (i + 1) ++ List.replicate (n - (i + 1)) zrec).flatten 0 false) ++ newW H.length k0).length = H.length + 5 := by simp [newW]
      have hrs : ∀ e ∈ recsL (fun k => recW (L + 5 * k) k0) (i + 1) ++ List.replicate (n - (i + 1)) zrec, e.all (uC (H.length + 5)) = true := fun e he => by
        rcases List.mem_append.1 he with h | h
        · obtain ⟨k, hk⟩ := List.mem_iff_getElem?.1 h
          have hlt : k < i + 1 := by rw [← recsL_len (fun k => recW (L + 5 * k) k0) (i + 1)]; exact (List.getElem?_eq_some_iff.1 hk).1
          rw [recsL_at _ _ _ hlt, Option.some.injEq] at hk
          subst hk
          exact recW_u (by rw [a3.len]; omega)
        · rw [List.eq_of_mem_replicate h]; rfl
      have hat : ∀ j, j < H.length → j ≠ ai → (H.set ai (.cells (recsL (fun k => recW (L + 5 * k) k0) (i + 1) ++ List.replicate (n - (i + 1)) zrec).flatten 0 false) ++ newW H.length k0)[j]? = H[j]? := fun j hj hne => by
        rw [List.getElem?_append_left (by simpa using hj), List.getElem?_set_ne (by omega)]
      refine ⟨by rw [hl, hb], ?_, ?_, ?_, ?_, ?_⟩
      · rw [List.getElem?_append_left (by simpa using hai')]; simp [hai']
      · rw [hl]
        refine ((a3.hp.mono (by omega)).set (show uO (H.length + 5) (.cells _ 0 false) = true from flat_u hrs)).app ?_
        exact Hp.cons (flat_u fun e he => uC_all_d (rowsW_34 k0 0 k0 e he).2) (Hp.cons (flat_u fun e he => uC_all_d (polW_17 0 k0 e he).2) (Hp.cons (recW_u (by omega)) (Hp.cons (recW_u (by omega)) (Hp.cons (flat_u fun e he => by
          obtain ⟨x, hx, rfl⟩ := List.mem_map.1 he
          rw [polC, List.all_append, uC_all_d (polW_17 0 k0 x hx).2]; rfl) Hp.nil))))
      · intro j hj hne
        rw [hat j (by rw [a3.len]; omega) hne]
        exact a3.old j hj hne
      · intro k hk
        by_cases hki : k = i
        · subst hki
          rw [List.getElem?_append_right (by rw [List.length_set, a3.len]; omega), List.length_set, a3.len, show L + 5 * k + 4 - (L + 5 * k) = 4 by omega]
          simp [newW]
        · rw [hat _ (by rw [a3.len]; omega) (by omega)]
          exact a3.pol k (by omega)
      · intro k hk
        by_cases hki : k = i
        · subst hki
          rw [List.getElem?_append_right (by rw [List.length_set, a3.len]; omega), List.length_set, a3.len, show L + 5 * k - (L + 5 * k) = 0 by omega]
          simp [newW]
        · rw [hat _ (by rw [a3.len]; omega) (by omega)]
          exact a3.map k (by omega)
    have ht : ∀ H', Inv9 L k0 n ai H0 H' (i + 1) → tidy L (some [1, 3, 5, 12, 13]) ⟨r, H'⟩ = ⟨W2 k0 (.c inp) (.c (os8 ai n)) (i + 1) n, H'⟩ := fun H' hi => by
      have : tidy L (some [1, 3, 5, 12, 13]) ⟨r, H'⟩ = gc L ⟨W2 k0 (.c inp) (.c (os8 ai n)) (i + 1) n, H'⟩ := by rw [← hk]; rfl
      rw [this]
      refine gc_no2 hi.arr hai ?_
      have hmem : (C.os (L + 4) 0 0 k0 18 (some k0)) ∈ (recsL (fun k => recW (L + 5 * k) k0) (i + 1) ++ List.replicate (n - (i + 1)) zrec).flatten := by
        refine List.mem_flatten.2 ⟨recW L k0, List.mem_append_left _ (List.mem_of_getElem? (i := 0) (recsL_at _ _ 0 (by omega))), ?_⟩
        simp [recW, recC]
      exact undersC_false (c := .os (L + 4) 0 0 k0 18 (some k0)) (decide_eq_false (by omega)) hmem
    rw [iter_step hr, ht _ inv]
    exact ih (i + 1) _ f (by omega) (by omega) inv
/-! ### Read out -/
def polsWD (k : Nat) : List D := ((polW 0 k).map polC).flatten.map unD
def mapsWD (k : Nat) : List D := (rowsW k 0 k).flatten.map unD
def recWD (k : Nat) : List D := [.bool false, .bool true, .sl (polsWD k) k, .bool (decide (((k * k : Nat) : Int) > 0)), .sl (mapsWD k) (k * k), .int .i64 (-1), .int .i64 (-1), .int .i64 (-1)]
theorem polWC_18 (k : Nat) : ∀ e ∈ (polW 0 k).map polC, e.length = 18 := fun e he => by
  obtain ⟨x, hx, rfl⟩ := List.mem_map.1 he
  simp [polC, (polW_17 0 k x hx).1]
theorem polWC_d (k : Nat) : ∀ e ∈ (polW 0 k).map polC, e.all C.isD = true := fun e he => by
  obtain ⟨x, hx, rfl⟩ := List.mem_map.1 he
  rw [polC, List.all_append, (polW_17 0 k x hx).2]; rfl
theorem deep_recW {H : Heap} {b k0 k : Nat} (h5 : H[b + 4]? = some (.cells ((polW 0 k0).map polC).flatten 0 false)) (h1 : H[b]? = some (.cells (rowsW k0 0 k0).flatten 0 false)) : mapO (deepC H (k + 1)) (recW b k0) = some (recWD k0) := by
  have a := deep_os (k := k) (cap := some k0) (len := k0) h5 (polWC_18 k0) (by simp [polW_len]) (polWC_d k0)
  have b := deep_os (k := k) (cap := some (k0 * k0)) (len := k0 * k0) h1 (fun e he => (rowsW_34 k0 0 k0 e he).1) (rowsW_len k0 0 k0) (fun e he => (rowsW_34 k0 0 k0 e he).2)
  simp only [recW, recC, m1, mapO, deepC_dd, a, b]
  rfl
def recsWD (k : Nat) : Nat → List D
  | 0 => []
  | i + 1 => recsWD k i ++ recWD k
def wideV (n k : Nat) : V := .c (.d (.sl (recsWD k n) n))
theorem deep_recsW {H : Heap} {L k0 k : Nat} : ∀ i, (∀ j, j < i → H[L + 5 * j + 4]? = some (.cells ((polW 0 k0).map polC).flatten 0 false)) → (∀ j, j < i → H[L + 5 * j]? = some (.cells (rowsW k0 0 k0).flatten 0 false)) →
    mapO (deepC H (k + 1)) (recsL (fun k => recW (L + 5 * k) k0) i).flatten = some (recsWD k0 i)
  | 0, _, _ => rfl
  | i + 1, h5, h1 => by
    rw [recsL, List.flatten_append, List.flatten_singleton, recsWD]
    exact mapO_app _ (deep_recsW i (fun j hj => h5 j (by omega)) (fun j hj => h1 j (by omega))) (deep_recW (h5 i (by omega)) (h1 i (by omega)))
theorem deep_wide {L k0 n ai : Nat} {H0 H : Heap} (h : Inv9 L k0 n ai H0 H n) (t : Heap) : deepV1 (H ++ t) (.c (os8 ai n)) = some (wideV n k0) := by
  have ha : (H ++ t)[ai]? = some (.cells (recsL (fun k => recW (L + 5 * k) k0) n ++ List.replicate (n - n) zrec).flatten 0 false) := atL h.arr
  rw [Nat.sub_self, List.replicate_zero, List.append_nil] at ha
  have hl : (recsL (fun k => recW (L + 5 * k) k0) n).flatten.length = n * 8 := by rw [flat_len (sz := 8) _ (recsL_all _ (P := fun e => e.length = 8) (fun _ => rfl) n), recsL_len]
  have hr := deep_recsW (H := H ++ t) (L := L) (k0 := k0) (k := 6) n (fun j hj => atL (h.pol j hj)) (fun j hj => atL (h.map j hj))
  simp only [deepV1, deepMax, os8, deepC, ob_eq, ha, if_true, Nat.zero_add, hl, Nat.le_refl, List.drop_zero]
  rw [← hl, List.take_length, hr]
  rfl

/-! ### Wide -/
theorem fn9_in {X : Ctx} (hX : X.fns 9 = some fn9) (hX29 : X.fns 29 = some fn29) {N : Nat} (hN : 1000 ≤ N) (hv : ∀ i k, (zenv X (N + 1)).vcall 28 [.c (.d (.int .i64 i)), .c (.d (.int .i64 k))] = some (.agg (polE i k))) (h30 : (zenv X (N + 1)).vcall 30 [] = some (.agg inpsC))
    (h27 : ∀ v lo hi, (zenv X (N + 1)).vcall 27 [.c (.d (.int .i64 v)), .c (.d (.int .i64 lo)), .c (.d (.int .i64 hi))] = some (.c (.d (.bool (decide (v ≥ lo) && decide (v ≤ hi))))))
    {n k : Nat} (h1 : 1 ≤ n) (h2 : n ≤ 64) (h3 : 1 ≤ k) (h4 : k ≤ 8) (H0 : Heap) (hH0 : Hp H0.length H0) :
    ∃ H', callN X (N + 2) (.d (.fn 9 [] [])) [i64 n, i64 k] H0 = some (.tup [.c (os8 (H0.length + 1) n), .agg inpsC, i64 0], H') ∧ (∀ t, deepV1 (H' ++ t) (.c (os8 (H0.length + 1) n)) = some (wideV n k)) ∧ ∀ j, j < H0.length → H'[j]? = H0[j]? := by
  have inv0 : Inv9 (H0.length + 2) k n (H0.length + 1) (H0 ++ [.cells inp0 0 false, .cells (List.replicate n zrec).flatten 0 false]) (H0 ++ [.cells inp0 0 false, .cells (List.replicate n zrec).flatten 0 false]) 0 := by
    refine ⟨by simp, ?_, ?_, fun _ _ _ => rfl, fun k hk => by omega, fun k hk => by omega⟩
    · rw [recsL, List.nil_append, Nat.sub_zero]; exact at1
    · rw [show (H0 ++ [Ob.cells inp0 0 false, .cells (List.replicate n zrec).flatten 0 false]).length = H0.length + 2 by simp]
      refine (hH0.mono (by omega)).app (Hp.cons rfl (Hp.cons (flat_u fun e he => ?_) Hp.nil))
      rw [List.eq_of_mem_replicate he]; rfl
  obtain ⟨r, H', hl, inv⟩ := loopW2 hX29 hN hv (M := N + 1) (k0 := k) (n := n) (ai := H0.length + 1) (L := H0.length + 2) (inp := .ptr H0.length 0 0) (H0 := H0 ++ [.cells inp0 0 false, .cells (List.replicate n zrec).flatten 0 false]) (by omega) (by omega) (by omega) (decide_eq_true (by omega)) (by omega) n 0 _ (N + 1) (by omega) (by omega) inv0
  have c1 : (n : Int) ≥ 1 := by omega
  have c2 : (n : Int) ≤ 64 := by omega
  have c3 : (k : Int) ≥ 1 := by omega
  have c4 : (k : Int) ≤ 8 := by omega
  have hinp : H'[H0.length]? = some (.cells inp0 0 false) := by
    rw [inv.old H0.length (by omega) (by omega)]; exact at0
  have hlt : H0.length < H'.length := (List.getElem?_eq_some_iff.1 hinp).1
  have e1 : n * 88 ≤ 1099511627776 := by omega
  have e2 : n ≤ 1099511627776 := by omega
  have hfl : inpsC.all C.flat = false := rfl
  have t1 : ∀ a b c d, tidy (H0.length + 2) (some [1, 3, 5, 12, 13]) ⟨[a, i64 k, b, .c (.ptr H0.length 0 0), c, .c (os8 (H0.length + 1) n), .any, .any, .any, .any, .any, d, i64 n, i64 (0 : Nat), .any, .any, .any, .any, .any, .any, .any], H0 ++ [.cells inp0 0 false, .cells (List.replicate n zrec).flatten 0 false]⟩ = ⟨W2 k (.c (.ptr H0.length 0 0)) (.c (os8 (H0.length + 1) n)) 0 n, H0 ++ [.cells inp0 0 false, .cells (List.replicate n zrec).flatten 0 false]⟩ := fun a b c d =>
    (show _ = gc (H0.length + 2) ⟨W2 k (.c (.ptr H0.length 0 0)) (.c (os8 (H0.length + 1) n)) 0 n, H0 ++ [.cells inp0 0 false, .cells (List.replicate n zrec).flatten 0 false]⟩ from rfl).trans (gc_le (by simp))
  refine ⟨H'.set H0.length (.cells inpsC 0 false), ?_, ?_, ?_⟩
  · have hfr : freeze H' ([].flatMap fun a : A => reachV H' (look (zenv X (N + 1)) [] [] a)) = H' := rfl
    have hat : (H'.set H0.length (.cells inpsC 0 false))[H0.length]? = some (.cells inpsC 0 false) := by simp [hlt]
    rw [fn9_is] at hX
    rw [callN_fn hX]
    simp only [W2, os8, i64, put, inp0, zrec, Int.ofNat_zero] at hl t1 hinp
    simp only [inpsC] at hat
    simp only [fn9', runFn, pad, List.replicate, Nat.reduceSub, List.cons_append, List.nil_append, byValue, mapO, deepV1, deepC, h27, c1, c2, c3, c4, Bool.and_self, Bool.not_true, beq_self_eq_true, V.flat, V.flat1, C.flat, D.flat, e1, e2, rep_flat, freshen, t1, hl, h30, os8, inpsC, hinp, List.map_cons, List.map_nil, List.append_assoc, List.length_append, List.drop_zero, List.drop_succ_cons, List.drop_nil, List.take_zero, List.take_succ_cons, List.take_nil, splice, List.flatMap_nil, freeze, List.foldl_nil, results, result, Nat.le_refl, hat, ite_self, exec, runOps, wants, Mini.step, stepP, stepE, O.eff, Mini.look, nth, put, exports, un, i64, asNat_nat, ob_eq, setOb_eq, ofCells, V.cells, List.length_cons, List.length_nil, Option.map_some, if_true, if_false, decide_true, List.append_nil, List.all_nil, cond_false, Nat.zero_add, and_self, Bool.false_eq_true, Nat.reduceAdd]
  · intro t
    have : Inv9 (H0.length + 2) k n (H0.length + 1) (H0 ++ [.cells inpsC 0 false, .cells (List.replicate n zrec).flatten 0 false]) (H'.set H0.length (.cells inpsC 0 false)) n := by
      refine ⟨by rw [List.length_set]; exact inv.len, by rw [List.getElem?_set_ne (by omega)]; exact inv.arr, by rw [List.length_set]; exact inv.hp.set rfl, ?_, fun k hk => by rw [List.getElem?_set_ne (by omega)]; exact inv.pol k hk, fun k hk => by rw [List.getElem?_set_ne (by omega)]; exact inv.map k hk⟩
      intro j hj hne
      by_cases hj0 : j = H0.length
      · subst hj0; rw [at0]; simp [hlt]
      · rw [List.getElem?_set_ne (by omega), inv.old j hj hne, List.getElem?_append_left (by omega), List.getElem?_append_left (by omega)]
    exact deep_wide this t
  · intro j hj
    rw [List.getElem?_set_ne (by omega), inv.old j (by omega) (by omega), List.getElem?_append_left hj]
end Mini
end Go.Proofs.YtcilepbdddgpoaaDoor
