/-
  Long: all rounds; what it returns, read out.
-/
import Derived.Test.YtcilepbdddgpoaaDoorMiniX2
namespace Go.Proofs.YtcilepbdddgpoaaDoor
namespace Mini
open Go

theorem undersC_false {n : Nat} {c : C} (hc : c.under n = false) : ∀ {cs : List C}, c ∈ cs → undersC n cs = false
  | [], h => by cases h
  | x :: xs, h => by
    rcases List.mem_cons.1 h with rfl | h
    · simp only [undersC, hc, Bool.false_and]
    · simp only [undersC, undersC_false hc h, Bool.and_false]
theorem gc_no2 {hl : Nat} {r : List V} {H : Heap} {o : Ob} {i : Nat} (h1 : H[i]? = some o) (h2 : i < hl) (h3 : o.under hl = false) : gc hl ⟨r, H⟩ = ⟨r, H⟩ := by
  unfold gc
  have : (H.take hl).all (Ob.under hl) = false := by
    rw [List.all_eq_false]
    refine ⟨o, List.mem_of_getElem? (i := i) (by rw [List.getElem?_take_of_lt h2]; exact h1), by rw [h3]; decide⟩
  rw [this, Bool.and_false]
  rfl
/-- The records behind i rounds. -/
def recsL (f : Nat → List C) : Nat → List (List C)
  | 0 => []
  | i + 1 => recsL f i ++ [f i]
theorem recsL_len (f : Nat → List C) : ∀ i, (recsL f i).length = i
  | 0 => rfl
  | i + 1 => by rw [recsL, List.length_append, recsL_len f i]; rfl
theorem recsL_at (f : Nat → List C) : ∀ i k, k < i → (recsL f i)[k]? = some (f k)
  | i + 1, k, h => by
    rw [recsL]
    by_cases hk : k = i
    · subst hk; rw [List.getElem?_append_right (by rw [recsL_len]; exact Nat.le_refl _), recsL_len]; simp
    · rw [List.getElem?_append_left (by rw [recsL_len]; omega)]; exact recsL_at f i k (by omega)
theorem recsL_all (f : Nat → List C) {P : List C → Prop} (h : ∀ i, P (f i)) : ∀ i, ∀ e ∈ recsL f i, P e
  | 0, _, he => by cases he
  | i + 1, e, he => by
    rcases List.mem_append.1 he with h' | h'
    · exact recsL_all f h i e h'
    · rw [List.mem_singleton.1 h']; exact h i
structure Inv17 (L p m n ai : Nat) (base : Nat) (H0 H : Heap) (i : Nat) : Prop where
  len : H.length = L + 6 * i
  arr : H[ai]? = some (.cells (recsL (fun k => recL (L + 6 * k) p m) i ++ List.replicate (n - i) zrec).flatten 0 false)
  hp : Hp H.length H
  old : ∀ j, j < L → j ≠ ai → H[j]? = H0[j]?
  pol : ∀ k, k < i → H[L + 6 * k + 5]? = some (.cells ((polA (base + k) p).map polC).flatten 0 false)
  map : ∀ k, k < i → H[L + 6 * k + 1]? = some (.cells (mapL (base + k) p m 0 m).flatten 0 false)
theorem recL_u {b p m n : Nat} (h : b + 6 ≤ n) : (recL b p m).all (uC n) = true := by
  simp only [recL, recC, m1, List.all_cons, List.all_nil, uC, Bool.and_true, Bool.true_and, Bool.and_eq_true, decide_eq_true_eq]
  omega
theorem rs_8 {L p m n i : Nat} : ∀ e ∈ recsL (fun k => recL (L + 6 * k) p m) i ++ List.replicate (n - i) zrec, e.length = 8 := fun e he => by
  rcases List.mem_append.1 he with h | h
  · exact recsL_all _ (P := fun e => e.length = 8) (fun _ => rfl) i e h
  · rw [List.eq_of_mem_replicate h]; rfl
theorem loop17 {X : Ctx} (hX : X.fns 29 = some fn29) {N : Nat} (hN : 1000 ≤ N) (hv : ∀ i k, (zenv X (N + 1)).vcall 28 [.c (.d (.int .i64 i)), .c (.d (.int .i64 k))] = some (.agg (polE i k))) (h38 : (zenv X (N + 1)).vcall 38 [] = some (.agg anyE))
    {M p m n ai L : Nat} {inp : C} {H0 : Heap} (hM : 1000 ≤ M) (hp : p < 900) (hm : m < 900) (hn : n < 900) (h1 : uC L inp = true) (hai : ai < L) :
    ∀ (c i : Nat) (H : Heap) (fuel : Nat), i + c = n → c < fuel → Inv17 L p m n ai 0 H0 H i →
    ∃ r H', iter (some [1, 2, 4, 6, 13, 14]) L (exec (zenv X (N + 1)) M false fn17L2) fuel ⟨RC p m (.c inp) (.c (os8 ai n)) i n, H⟩ = some (.exit 0, ⟨put (RC p m (.c inp) (.c (os8 ai n)) n n) 15 r, H'⟩) ∧ Inv17 L p m n ai 0 H0 H' n := by
  intro c
  induction c with
  | zero =>
    intro i H fuel a1 a2 a3
    obtain ⟨f, rfl⟩ : ∃ f, fuel = f + 1 := ⟨fuel - 1, by omega⟩
    obtain rfl : i = n := by omega
    refine ⟨bl false, H, iter_stop ?_, a3⟩
    simp only [fn17L2, RC, Int.lt_irrefl, exec, runOps, wants, Mini.step, stepP, stepE, O.eff, Mini.look, nth, put, exports, bin, binInt, i64, bl, Option.map_some, if_true, if_false, decide_false, List.append_nil, List.all_nil, cond_false, Bool.false_eq_true]
  | succ c ih =>
    intro i H fuel a1 a2 a3
    obtain ⟨f, rfl⟩ : ∃ f, fuel = f + 1 := ⟨fuel - 1, by omega⟩
    have hin : i < n := by omega
    have hlenrs : (recsL (fun k => recL (L + 6 * k) p m) i ++ List.replicate (n - i) zrec).length = n := by rw [List.length_append, recsL_len, List.length_replicate]; omega
    obtain ⟨r, hr, hk⟩ := round17 hX hN hv h38 (M := M) hM hp hm hin hn a3.hp (uC_mono (by rw [a3.len]; omega) h1) a3.arr rs_8 hlenrs
    have hset : (recsL (fun k => recL (L + 6 * k) p m) i ++ List.replicate (n - i) zrec).set i (recL H.length p m) = recsL (fun k => recL (L + 6 * k) p m) (i + 1) ++ List.replicate (n - (i + 1)) zrec := by
      rw [List.set_append_right _ _ (by rw [recsL_len]; exact Nat.le_refl _), recsL_len, show n - i = (n - (i + 1)) + 1 by omega, List.replicate_succ]
      simp [recsL, a3.len]
    rw [hset] at hr
    have hai' : ai < H.length := by rw [a3.len]; omega
    have hb : H.length + 6 = L + 6 * (i + 1) := by rw [a3.len]; omega
    have inv : Inv17 L p m n ai 0 H0 (H.set ai (.cells (recsL (fun k => recL (L + 6 * k) p m) (i + 1) ++ List.replicate (n - (i + 1)) zrec).flatten 0 false) ++ newL H.length i p m) (i + 1) := by
      have hl : (H.set ai (.cells (recsL (fun k => recL (L + 6 * k) p m) (i + 1) ++ List.replicate (n - (i + 1)) zrec).flatten 0 false) ++ newL H.length i p m).length = H.length + 6 := by simp [newL]
      have hrs : ∀ e ∈ recsL (fun k => recL (L + 6 * k) p m) (i + 1) ++ List.replicate (n - (i + 1)) zrec, e.all (uC (H.length + 6)) = true := fun e he => by
        rcases List.mem_append.1 he with h | h
        · obtain ⟨k, hk⟩ := List.mem_iff_getElem?.1 h
          have hlt : k < i + 1 := by rw [← recsL_len (fun k => recL (L + 6 * k) p m) (i + 1)]; exact (List.getElem?_eq_some_iff.1 hk).1
          rw [recsL_at _ _ _ hlt, Option.some.injEq] at hk
          subst hk
          exact recL_u (by rw [a3.len]; omega)
        · rw [List.eq_of_mem_replicate h]; rfl
      have hat : ∀ j, j < H.length → j ≠ ai → (H.set ai (.cells (recsL (fun k => recL (L + 6 * k) p m) (i + 1) ++ List.replicate (n - (i + 1)) zrec).flatten 0 false) ++ newL H.length i p m)[j]? = H[j]? := fun j hj hne => by
        rw [List.getElem?_append_left (by simpa using hj), List.getElem?_set_ne (by omega)]
      refine ⟨by rw [hl, hb], ?_, ?_, ?_, ?_, ?_⟩
      · rw [List.getElem?_append_left (by simpa using hai')]; simp [hai']
      · rw [hl]
        refine ((a3.hp.mono (by omega)).set (show uO (H.length + 6) (.cells _ 0 false) = true from flat_u hrs)).app ?_
        exact Hp.cons (flat_u fun e he => uC_all_d (polA_d i p e he)) (Hp.cons (flat_u fun e he => uC_all_d (mapL_d i p m 0 m e he)) (Hp.cons rfl (Hp.cons (recL_u (by omega)) (Hp.cons (recL_u (by omega)) (Hp.cons (flat_u fun e he => by
          obtain ⟨x, hx, rfl⟩ := List.mem_map.1 he
          rw [polC, List.all_append, uC_all_d (polA_d i p x hx)]; rfl) Hp.nil)))))
      · intro j hj hne
        rw [hat j (by rw [a3.len]; omega) hne]
        exact a3.old j hj hne
      · intro k hk
        by_cases hki : k = i
        · subst hki
          rw [List.getElem?_append_right (by rw [List.length_set, a3.len]; omega), List.length_set, a3.len, show L + 6 * k + 5 - (L + 6 * k) = 5 by omega]
          simp [newL]
        · rw [hat _ (by rw [a3.len]; omega) (by omega)]
          exact a3.pol k (by omega)
      · intro k hk
        by_cases hki : k = i
        · subst hki
          rw [List.getElem?_append_right (by rw [List.length_set, a3.len]; omega), List.length_set, a3.len, show L + 6 * k + 1 - (L + 6 * k) = 1 by omega]
          simp [newL]
        · rw [hat _ (by rw [a3.len]; omega) (by omega)]
          exact a3.map k (by omega)
    have ht : ∀ H', Inv17 L p m n ai 0 H0 H' (i + 1) → tidy L (some [1, 2, 4, 6, 13, 14]) ⟨r, H'⟩ = ⟨RC p m (.c inp) (.c (os8 ai n)) (i + 1) n, H'⟩ := fun H' hi => by
      have : tidy L (some [1, 2, 4, 6, 13, 14]) ⟨r, H'⟩ = gc L ⟨RC p m (.c inp) (.c (os8 ai n)) (i + 1) n, H'⟩ := by rw [← hk]; rfl
      rw [this]
      refine gc_no2 hi.arr hai ?_
      have hmem : (C.os (L + 5) 0 0 (p + 1) 18 (some (p + 1))) ∈ (recsL (fun k => recL (L + 6 * k) p m) (i + 1) ++ List.replicate (n - (i + 1)) zrec).flatten := by
        refine List.mem_flatten.2 ⟨recL L p m, List.mem_append_left _ (List.mem_of_getElem? (i := 0) (recsL_at _ _ 0 (by omega))), ?_⟩
        simp [recL, recC]
      exact undersC_false (c := .os (L + 5) 0 0 (p + 1) 18 (some (p + 1))) (decide_eq_false (by omega)) hmem
    rw [iter_step hr, ht _ inv]
    exact ih (i + 1) _ f (by omega) (by omega) inv
/-! ### Read out -/
def unD : C → D
  | .d x => x
  | _ => .nils
theorem deepC_dd (H : Heap) (k : Nat) (x : D) : deepC H k (.d x) = some x := by cases k <;> rfl
theorem mapO_deep (H : Heap) (k : Nat) : ∀ cs : List C, cs.all C.isD = true → mapO (deepC H k) cs = some (cs.map unD)
  | [], _ => rfl
  | c :: cs, h => by
    rw [List.all_cons, Bool.and_eq_true] at h
    cases c with
    | d x => simp only [mapO, deepC_dd, mapO_deep H k cs h.2]; rfl
    | _ => cases h.1
theorem mapO_app {α β : Type} (f : α → Option β) : ∀ {a b : List α} {x y : List β}, mapO f a = some x → mapO f b = some y → mapO f (a ++ b) = some (x ++ y)
  | [], b, x, y, h1, h2 => by cases h1; exact h2
  | c :: a, b, x, y, h1, h2 => by
    simp only [mapO, List.cons_append] at h1 ⊢
    cases hc : f c with
    | none => rw [hc] at h1; cases h1
    | some z =>
      rw [hc] at h1
      cases ha : mapO f a with
      | none => rw [ha] at h1; cases h1
      | some zs =>
        rw [ha] at h1
        cases h1
        simp only [mapO_app f ha h2, List.cons_append]
theorem flat_d {es : List (List C)} (h : ∀ e ∈ es, e.all C.isD = true) : es.flatten.all C.isD = true := by
  rw [List.all_eq_true]
  intro c hc
  obtain ⟨e, he, hce⟩ := List.mem_flatten.1 hc
  exact List.all_eq_true.1 (h e he) c hce
theorem deep_os {H : Heap} {id g len sz k : Nat} {cap : Option Nat} {es : List (List C)} {fz : Bool} (h : H[id]? = some (.cells es.flatten g fz)) (h1 : ∀ e ∈ es, e.length = sz) (h2 : es.length = len) (h3 : ∀ e ∈ es, e.all C.isD = true) :
    deepC H (k + 1) (.os id g 0 len sz cap) = some (.sl (es.flatten.map unD) len) := by
  have hl := flat_len es h1
  rw [h2] at hl
  simp only [deepC, ob_eq, h, if_true, Nat.zero_add, hl, Nat.le_refl, List.drop_zero]
  rw [← hl, List.take_length, mapO_deep H k _ (flat_d h3)]
  rfl
def polsD (i p : Nat) : List D := ((polA i p).map polC).flatten.map unD
def mapsD (i p m : Nat) : List D := (mapL i p m 0 m).flatten.map unD
def recD (i p m : Nat) : List D := [.bool false, .bool true, .sl (polsD i p) (p + 1), .bool (decide ((m : Int) > 0)), .sl (mapsD i p m) m, .int .i64 (-1), .int .i64 (-1), .int .i64 (-1)]
theorem polC_18 (i p : Nat) : ∀ e ∈ (polA i p).map polC, e.length = 18 := fun e he => by
  obtain ⟨x, hx, rfl⟩ := List.mem_map.1 he
  simp [polC, polA_17 i p x hx]
theorem polC_d (i p : Nat) : ∀ e ∈ (polA i p).map polC, e.all C.isD = true := fun e he => by
  obtain ⟨x, hx, rfl⟩ := List.mem_map.1 he
  rw [polC, List.all_append, polA_d i p x hx]; rfl
theorem deep_rec {H : Heap} {b i p m k : Nat} (h5 : H[b + 5]? = some (.cells ((polA i p).map polC).flatten 0 false)) (h1 : H[b + 1]? = some (.cells (mapL i p m 0 m).flatten 0 false)) : mapO (deepC H (k + 1)) (recL b p m) = some (recD i p m) := by
  have a := deep_os (k := k) (cap := some (p + 1)) (len := p + 1) h5 (polC_18 i p) (by simp [polA, polL_len]) (polC_d i p)
  have b := deep_os (k := k) (cap := some m) (len := m) h1 (mapL_34 i p m 0 m) (mapL_len i p m 0 m) (mapL_d i p m 0 m)
  simp only [recL, recC, m1, mapO, deepC_dd, a, b]
  rfl
def recsD (p m : Nat) : Nat → List D
  | 0 => []
  | i + 1 => recsD p m i ++ recD i p m
def longV (n p m : Nat) : V := .c (.d (.sl (recsD p m n) n))
theorem deep_recs {H : Heap} {L p m k : Nat} : ∀ i, (∀ j, j < i → H[L + 6 * j + 5]? = some (.cells ((polA (0 + j) p).map polC).flatten 0 false)) → (∀ j, j < i → H[L + 6 * j + 1]? = some (.cells (mapL (0 + j) p m 0 m).flatten 0 false)) →
    mapO (deepC H (k + 1)) (recsL (fun k => recL (L + 6 * k) p m) i).flatten = some (recsD p m i)
  | 0, _, _ => rfl
  | i + 1, h5, h1 => by
    rw [recsL, List.flatten_append, List.flatten_singleton, recsD]
    have a := h5 i (by omega)
    have b := h1 i (by omega)
    rw [Nat.zero_add] at a b
    exact mapO_app _ (deep_recs i (fun j hj => h5 j (by omega)) (fun j hj => h1 j (by omega))) (deep_rec a b)
theorem deep_long {L p m n ai : Nat} {H0 H : Heap} (h : Inv17 L p m n ai 0 H0 H n) (t : Heap) : deepV1 (H ++ t) (.c (os8 ai n)) = some (longV n p m) := by
  have ha : (H ++ t)[ai]? = some (.cells (recsL (fun k => recL (L + 6 * k) p m) n ++ List.replicate (n - n) zrec).flatten 0 false) := atL h.arr
  rw [Nat.sub_self, List.replicate_zero, List.append_nil] at ha
  have hl : (recsL (fun k => recL (L + 6 * k) p m) n).flatten.length = n * 8 := by rw [flat_len (sz := 8) _ (recsL_all _ (P := fun e => e.length = 8) (fun _ => rfl) n), recsL_len]
  have hr := deep_recs (H := H ++ t) (L := L) (p := p) (m := m) (k := 6) n (fun j hj => atL (h.pol j hj)) (fun j hj => atL (h.map j hj))
  simp only [deepV1, deepMax, os8, deepC, ob_eq, ha, if_true, Nat.zero_add, hl, Nat.le_refl, List.drop_zero]
  rw [← hl, List.take_length, hr]
  rfl

/-! ### Long -/
def inpsC : List C := [.d (.sl (anyE.map unD) 1), .d (.bool true), .d (.bool false), .d (.bool false)]
def inp0 : List C := [.d .nils, .d (.bool false), .d (.bool false), .d (.bool false)]
def inL (n p m : Int) : Bool := (decide (n ≥ 1) && decide (n ≤ 64)) && (decide (p ≥ 0) && decide (p ≤ 63)) && (decide (m ≥ 0) && decide (m ≤ 64))
theorem fn17_in {X : Ctx} (hX : X.fns 17 = some fn17) (hX29 : X.fns 29 = some fn29) {N : Nat} (hN : 1000 ≤ N) (hv : ∀ i k, (zenv X (N + 1)).vcall 28 [.c (.d (.int .i64 i)), .c (.d (.int .i64 k))] = some (.agg (polE i k))) (h38 : (zenv X (N + 1)).vcall 38 [] = some (.agg anyE)) (h30 : (zenv X (N + 1)).vcall 30 [] = some (.agg inpsC))
    (h37 : ∀ n p m, (zenv X (N + 1)).vcall 37 [.c (.d (.int .i64 n)), .c (.d (.int .i64 p)), .c (.d (.int .i64 m))] = some (.c (.d (.bool (inL n p m)))))
    {n p m : Nat} (h1 : 1 ≤ n) (h2 : n ≤ 64) (h3 : p ≤ 63) (h4 : m ≤ 64) (H0 : Heap) (hH0 : Hp H0.length H0) :
    ∃ H', callN X (N + 2) (.d (.fn 17 [] [])) [i64 n, i64 p, i64 m] H0 = some (.tup [.c (os8 (H0.length + 1) n), .agg inpsC, i64 0], H') ∧ (∀ t, deepV1 (H' ++ t) (.c (os8 (H0.length + 1) n)) = some (longV n p m)) ∧ ∀ j, j < H0.length → H'[j]? = H0[j]? := by
  have inv0 : Inv17 (H0.length + 2) p m n (H0.length + 1) 0 (H0 ++ [.cells inp0 0 false, .cells (List.replicate n zrec).flatten 0 false]) (H0 ++ [.cells inp0 0 false, .cells (List.replicate n zrec).flatten 0 false]) 0 := by
    refine ⟨by simp, ?_, ?_, fun _ _ _ => rfl, fun k hk => by omega, fun k hk => by omega⟩
    · rw [recsL, List.nil_append, Nat.sub_zero]; exact at1
    · rw [show (H0 ++ [Ob.cells inp0 0 false, .cells (List.replicate n zrec).flatten 0 false]).length = H0.length + 2 by simp]
      refine (hH0.mono (by omega)).app (Hp.cons rfl (Hp.cons (flat_u fun e he => ?_) Hp.nil))
      rw [List.eq_of_mem_replicate he]; rfl
  obtain ⟨r, H', hl, inv⟩ := loop17 hX29 hN hv h38 (M := N + 1) (p := p) (m := m) (n := n) (ai := H0.length + 1) (L := H0.length + 2) (inp := .ptr H0.length 0 0) (H0 := H0 ++ [.cells inp0 0 false, .cells (List.replicate n zrec).flatten 0 false]) (by omega) (by omega) (by omega) (by omega) (decide_eq_true (by omega)) (by omega) n 0 _ (N + 1) (by omega) (by omega) inv0
  have hin : inL n p m = true := by
    unfold inL
    simp only [Bool.and_eq_true, decide_eq_true_eq]
    omega
  have hinp : H'[H0.length]? = some (.cells inp0 0 false) := by
    rw [inv.old H0.length (by omega) (by omega)]; exact at0
  have hlt : H0.length < H'.length := (List.getElem?_eq_some_iff.1 hinp).1
  have e1 : n * 88 ≤ 1099511627776 := by omega
  have e2 : n ≤ 1099511627776 := by omega
  have hfl : inpsC.all C.flat = false := rfl
  have t1 : ∀ a b c d, tidy (H0.length + 2) (some [1, 2, 4, 6, 13, 14]) ⟨[a, i64 p, i64 m, b, .c (.ptr H0.length 0 0), c, .c (os8 (H0.length + 1) n), .any, .any, .any, .any, .any, d, i64 n, i64 (0 : Nat), .any, .any, .any, .any, .any, .any, .any], H0 ++ [.cells inp0 0 false, .cells (List.replicate n zrec).flatten 0 false]⟩ = ⟨RC p m (.c (.ptr H0.length 0 0)) (.c (os8 (H0.length + 1) n)) 0 n, H0 ++ [.cells inp0 0 false, .cells (List.replicate n zrec).flatten 0 false]⟩ := fun a b c d =>
    (show _ = gc (H0.length + 2) ⟨RC p m (.c (.ptr H0.length 0 0)) (.c (os8 (H0.length + 1) n)) 0 n, H0 ++ [.cells inp0 0 false, .cells (List.replicate n zrec).flatten 0 false]⟩ from rfl).trans (gc_le (by simp))
  refine ⟨H'.set H0.length (.cells inpsC 0 false), ?_, ?_, ?_⟩
  · have hfr : freeze H' ([].flatMap fun a : A => reachV H' (look (zenv X (N + 1)) [] [] a)) = H' := rfl
    have hat : (H'.set H0.length (.cells inpsC 0 false))[H0.length]? = some (.cells inpsC 0 false) := by simp [hlt]
    rw [fn17_is] at hX
    rw [callN_fn hX]
    simp only [RC, os8, i64, put, inp0, zrec, Int.ofNat_zero] at hl t1 hinp
    simp only [inpsC] at hat
    simp only [fn17', runFn, pad, List.replicate, Nat.reduceSub, List.cons_append, List.nil_append, byValue, mapO, deepV1, deepC, h37, hin, Bool.not_true, V.flat, V.flat1, C.flat, D.flat, e1, e2, rep_flat, freshen, t1, hl, h30, os8, inpsC, hinp, List.map_cons, List.map_nil, List.append_assoc, List.length_append, List.drop_zero, List.drop_succ_cons, List.drop_nil, List.take_zero, List.take_succ_cons, List.take_nil, splice, List.flatMap_nil, freeze, List.foldl_nil, results, result, Nat.le_refl, hat, ite_self, exec, runOps, wants, Mini.step, stepP, stepE, O.eff, Mini.look, nth, put, exports, un, i64, asNat_nat, ob_eq, setOb_eq, ofCells, V.cells, List.length_cons, List.length_nil, Option.map_some, if_true, if_false, List.append_nil, List.all_nil, cond_false, Nat.zero_add, and_self, Bool.false_eq_true, Nat.reduceAdd]
  · intro t
    have : Inv17 (H0.length + 2) p m n (H0.length + 1) 0 (H0 ++ [.cells inpsC 0 false, .cells (List.replicate n zrec).flatten 0 false]) (H'.set H0.length (.cells inpsC 0 false)) n := by
      refine ⟨by rw [List.length_set]; exact inv.len, by rw [List.getElem?_set_ne (by omega)]; exact inv.arr, by rw [List.length_set]; exact inv.hp.set rfl, ?_, fun k hk => by rw [List.getElem?_set_ne (by omega)]; exact inv.pol k hk, fun k hk => by rw [List.getElem?_set_ne (by omega)]; exact inv.map k hk⟩
      intro j hj hne
      by_cases hj0 : j = H0.length
      · subst hj0; rw [at0]; simp [hlt]
      · rw [List.getElem?_set_ne (by omega), inv.old j hj hne, List.getElem?_append_left (by omega), List.getElem?_append_left (by omega)]
    exact deep_long this t
  · intro j hj
    rw [List.getElem?_set_ne (by omega), inv.old j (by omega) (by omega), List.getElem?_append_left hj]
end Mini
end Go.Proofs.YtcilepbdddgpoaaDoor
