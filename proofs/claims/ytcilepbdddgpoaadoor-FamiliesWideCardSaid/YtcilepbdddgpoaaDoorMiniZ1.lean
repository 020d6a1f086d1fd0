/-
  The definition's records: one more policy, one more pair.
-/
import Derived.Test.YtcilepbdddgpoaaDoorMiniX5
namespace Go.Proofs.YtcilepbdddgpoaaDoor
namespace Mini
open Go

theorem lay18 {a : List C} (h : a.length = 17) : lay [.d (.int .u8 0), .d (.int .u32 0), .d (.int .u32 0), .d (.int .u32 0), .d (.int .u32 0), .d (.int .u32 0), .d (.int .u32 0), .d (.int .u32 0), .d (.int .u32 0), .d (.int .u32 0), .d (.int .u32 0), .d (.int .u32 0), .d (.int .u32 0), .d (.int .u32 0), .d (.int .u32 0), .d (.int .u32 0), .d (.int .u32 0), .d .nils] [(0, 17, .agg a)] = some (a ++ [.d .nils]) := by
  simp [lay, V.cells, splice, h]
theorem lay18' {a : List C} (h : a.length = 18) : lay [.d (.int .u8 0), .d (.int .u32 0), .d (.int .u32 0), .d (.int .u32 0), .d (.int .u32 0), .d (.int .u32 0), .d (.int .u32 0), .d (.int .u32 0), .d (.int .u32 0), .d (.int .u32 0), .d (.int .u32 0), .d (.int .u32 0), .d (.int .u32 0), .d (.int .u32 0), .d (.int .u32 0), .d (.int .u32 0), .d (.int .u32 0), .d .nils] [(0, 18, .agg a)] = some a := by
  simp [lay, V.cells, splice, h]
theorem lay34' {a : List C} (h : a.length = 34) : lay [.d (.int .u8 0), .d (.int .u32 0), .d (.int .u32 0), .d (.int .u32 0), .d (.int .u32 0), .d (.int .u32 0), .d (.int .u32 0), .d (.int .u32 0), .d (.int .u32 0), .d (.int .u32 0), .d (.int .u32 0), .d (.int .u32 0), .d (.int .u32 0), .d (.int .u32 0), .d (.int .u32 0), .d (.int .u32 0), .d (.int .u32 0), .d (.int .u8 0), .d (.int .u32 0), .d (.int .u32 0), .d (.int .u32 0), .d (.int .u32 0), .d (.int .u32 0), .d (.int .u32 0), .d (.int .u32 0), .d (.int .u32 0), .d (.int .u32 0), .d (.int .u32 0), .d (.int .u32 0), .d (.int .u32 0), .d (.int .u32 0), .d (.int .u32 0), .d (.int .u32 0), .d (.int .u32 0)] [(0, 34, .agg a)] = some a := by
  simp [lay, V.cells, splice, h]
theorem fn34_a {X : Ctx} (hX : X.fns 34 = some fn34) {N : Nat} {hp hm : Bool} {M : C} {a : List C} {H : Heap} (ha : a.length = 17) :
    callN X (N + 1) (.d (.fn 34 [] [])) [.agg (recC hp hm (.d .nils) M), .agg a] H = some (.agg (recC true hm (.os (H.length + 4) 0 0 1 18 none) M),
      H ++ [.cells (recC true hm (.os (H.length + 4) 0 0 1 18 none) M) 0 false, .cells a 0 false, .cells (recC true hm (.os (H.length + 4) 0 0 1 18 none) M) 0 false, .cells (polC a) 0 false, .cells (polC a) 0 false]) := by
  rw [callN_fn hX]
  have h18 : (a ++ [C.d .nils]).length = 18 := by simp [ha]
  have ht : a.take 17 = a := by rw [← ha, List.take_length]
  have ht' : (a ++ [C.d .nils]).take 18 = a ++ [C.d .nils] := by rw [← h18, List.take_length]
  simp only [fn34, recC, m1, polC, runFn, pad, List.replicate, Nat.reduceSub, List.cons_append, List.nil_append, List.append_assoc, rep, splice, List.map_cons, List.map_nil, ht, ht', ha, h18, lay18 ha, lay18' h18, elems, at0, at1, at2, at3, se0, se2, results, result, mapO, List.length_append, List.take_zero, List.take_succ_cons, List.take_nil, List.drop_zero, List.drop_succ_cons, List.drop_nil, Nat.le_refl, exec, runOps, wants, Mini.step, stepP, stepE, O.eff, Mini.look, nth, put, exports, ob_eq, setOb_eq, ofCells, V.cells, List.length_cons, List.length_nil, Option.map_some, if_true, if_false, List.append_nil, List.all_nil, Nat.zero_add, Nat.one_mul, and_self, reduceCtorEq, Bool.false_eq_true, Nat.reduceAdd, Nat.reduceLeDiff]
theorem fn34_b {X : Ctx} (hX : X.fns 34 = some fn34) {N id g k : Nat} {hp hm : Bool} {M : C} {a : List C} {es : List (List C)} {H : Heap} (ha : a.length = 17) (hid : H[id]? = some (.cells es.flatten g false)) (hes : ∀ e ∈ es, e.length = 18) (hk : es.length = k) (hb : k < 1000) :
    callN X (N + 1) (.d (.fn 34 [] [])) [.agg (recC hp hm (.os id g 0 k 18 none) M), .agg a] H = some (.agg (recC true hm (.os id (g + 1) 0 (k + 1) 18 none) M),
      H.set id (.cells (es ++ [polC a]).flatten (g + 1) false) ++ [.cells (recC true hm (.os id (g + 1) 0 (k + 1) 18 none) M) 0 false, .cells a 0 false, .cells (recC true hm (.os id (g + 1) 0 (k + 1) 18 none) M) 0 false, .cells (polC a) 0 false]) := by
  rw [callN_fn hX]
  have hlt : id < H.length := (List.getElem?_eq_some_iff.1 hid).1
  have h18 : (a ++ [C.d .nils]).length = 18 := by simp [ha]
  have ht : a.take 17 = a := by rw [← ha, List.take_length]
  have ht' : (a ++ [C.d .nils]).take 18 = a ++ [C.d .nils] := by rw [← h18, List.take_length]
  have hl : es.flatten.length = k * 18 := by rw [flat_len es hes, hk]
  have hf : es.flatten.take (k * 18) = es.flatten := by rw [← hl, List.take_length]
  have hat : ∀ t, (H ++ t)[id]? = some (Ob.cells es.flatten g false) := fun t => atL hid
  have hset : ∀ t o, (H ++ t).set id o = H.set id o ++ t := fun t o => List.set_append_left _ _ hlt
  have hb' : k + 1 ≤ 1073741824 := by omega
  have hfl : (es ++ [a ++ [C.d .nils]]).flatten = es.flatten ++ (a ++ [.d .nils]) := by simp
  have hsl : ∀ o, (H.set id o).length = H.length := fun o => List.length_set
  have at0' : ∀ {o : Ob} {x : Ob} {t : Heap}, (H.set id o ++ x :: t)[H.length]? = some x := fun {o x t} => by rw [← hsl o]; exact at0
  have at2' : ∀ {o : Ob} {x y z : Ob} {t : Heap}, (H.set id o ++ x :: y :: z :: t)[H.length + 2]? = some z := fun {o x y z t} => by rw [← hsl o]; exact at2
  have se0' : ∀ {o : Ob} {x v : Ob} {t : Heap}, (H.set id o ++ x :: t).set H.length v = H.set id o ++ v :: t := fun {o x v t} => by rw [← hsl o]; exact se0
  have se2' : ∀ {o : Ob} {x y z v : Ob} {t : Heap}, (H.set id o ++ x :: y :: z :: t).set (H.length + 2) v = H.set id o ++ x :: y :: v :: t := fun {o x y z v t} => by rw [← hsl o]; exact se2
  simp only [fn34, ht, ht', ha, h18, lay18 ha, lay18' h18, hl, hf, hat, hset, hb', hfl, at0', at2', se0', se2', recC, m1, polC, runFn, pad, List.replicate, Nat.reduceSub, List.cons_append, List.nil_append, List.append_assoc, rep, splice, List.map_cons, List.map_nil, elems, at0, at1, at3, se0, results, result, mapO, List.length_append, List.take_zero, List.take_succ_cons, List.take_nil, List.drop_zero, List.drop_succ_cons, List.drop_nil, Nat.le_refl, exec, runOps, wants, Mini.step, stepP, stepE, O.eff, Mini.look, nth, put, exports, ob_eq, setOb_eq, ofCells, V.cells, List.length_cons, List.length_nil, Option.map_some, if_true, if_false, List.append_nil, List.all_nil, Nat.zero_add, Nat.one_mul, and_self, reduceCtorEq, Bool.false_eq_true, Nat.reduceAdd, Nat.reduceLeDiff, and_true]
theorem fn35_a {X : Ctx} (hX : X.fns 35 = some fn35) {N : Nat} {hp hm : Bool} {P : C} {a b : List C} {H : Heap} (ha : a.length = 17) (hb : b.length = 17) :
    callN X (N + 1) (.d (.fn 35 [] [])) [.agg (recC hp hm P (.d .nils)), .agg a, .agg b] H = some (.agg (recC hp true P (.os (H.length + 5) 0 0 1 34 none)),
      H ++ [.cells (recC hp true P (.os (H.length + 5) 0 0 1 34 none)) 0 false, .cells a 0 false, .cells b 0 false, .cells (recC hp true P (.os (H.length + 5) 0 0 1 34 none)) 0 false, .cells (a ++ b) 0 false, .cells (a ++ b) 0 false]) := by
  rw [callN_fn hX]
  have h34 : (a ++ b).length = 34 := by simp [ha, hb]
  have ht : a.take 17 = a := by rw [← ha, List.take_length]
  have hs : b.take 17 = b := by rw [← hb, List.take_length]
  have ht' : (a ++ b).take 34 = a ++ b := by rw [← h34, List.take_length]
  simp only [fn35, ht, hs, ht', ha, hb, h34, lay34 ha hb, lay34' h34, recC, m1, runFn, pad, List.replicate, Nat.reduceSub, List.cons_append, List.nil_append, List.append_assoc, rep, splice, List.map_cons, List.map_nil, elems, at0, at1, at2, at3, at4, se0, se3, results, result, mapO, List.length_append, List.take_zero, List.take_succ_cons, List.take_nil, List.drop_zero, List.drop_succ_cons, List.drop_nil, Nat.le_refl, exec, runOps, wants, Mini.step, stepP, stepE, O.eff, Mini.look, nth, put, exports, ob_eq, setOb_eq, ofCells, V.cells, List.length_cons, List.length_nil, Option.map_some, if_true, if_false, List.append_nil, List.all_nil, Nat.zero_add, Nat.one_mul, and_self, reduceCtorEq, Bool.false_eq_true, Nat.reduceAdd, Nat.reduceLeDiff]
theorem fn35_b {X : Ctx} (hX : X.fns 35 = some fn35) {N id g k : Nat} {hp hm : Bool} {P : C} {a b : List C} {es : List (List C)} {H : Heap} (ha : a.length = 17) (hb : b.length = 17) (hid : H[id]? = some (.cells es.flatten g false)) (hes : ∀ e ∈ es, e.length = 34) (hk : es.length = k) (hb1 : k < 1000) :
    callN X (N + 1) (.d (.fn 35 [] [])) [.agg (recC hp hm P (.os id g 0 k 34 none)), .agg a, .agg b] H = some (.agg (recC hp true P (.os id (g + 1) 0 (k + 1) 34 none)),
      H.set id (.cells (es ++ [a ++ b]).flatten (g + 1) false) ++ [.cells (recC hp true P (.os id (g + 1) 0 (k + 1) 34 none)) 0 false, .cells a 0 false, .cells b 0 false, .cells (recC hp true P (.os id (g + 1) 0 (k + 1) 34 none)) 0 false, .cells (a ++ b) 0 false]) := by
  rw [callN_fn hX]
  have hlt : id < H.length := (List.getElem?_eq_some_iff.1 hid).1
  have h34 : (a ++ b).length = 34 := by simp [ha, hb]
  have ht : a.take 17 = a := by rw [← ha, List.take_length]
  have hs : b.take 17 = b := by rw [← hb, List.take_length]
  have ht' : (a ++ b).take 34 = a ++ b := by rw [← h34, List.take_length]
  have hl : es.flatten.length = k * 34 := by rw [flat_len es hes, hk]
  have hf : es.flatten.take (k * 34) = es.flatten := by rw [← hl, List.take_length]
  have hat : ∀ t, (H ++ t)[id]? = some (Ob.cells es.flatten g false) := fun t => atL hid
  have hset : ∀ t o, (H ++ t).set id o = H.set id o ++ t := fun t o => List.set_append_left _ _ hlt
  have hb' : k + 1 ≤ 1073741824 := by omega
  have hfl : (es ++ [a ++ b]).flatten = es.flatten ++ (a ++ b) := by simp
  have hsl : ∀ o, (H.set id o).length = H.length := fun o => List.length_set
  have at0' : ∀ {o : Ob} {x : Ob} {t : Heap}, (H.set id o ++ x :: t)[H.length]? = some x := fun {o x t} => by rw [← hsl o]; exact at0
  have at3' : ∀ {o : Ob} {x y z v : Ob} {t : Heap}, (H.set id o ++ x :: y :: z :: v :: t)[H.length + 3]? = some v := fun {o x y z v t} => by rw [← hsl o]; exact at3
  have se0' : ∀ {o : Ob} {x v : Ob} {t : Heap}, (H.set id o ++ x :: t).set H.length v = H.set id o ++ v :: t := fun {o x v t} => by rw [← hsl o]; exact se0
  have se3' : ∀ {o : Ob} {x y z u v : Ob} {t : Heap}, (H.set id o ++ x :: y :: z :: u :: t).set (H.length + 3) v = H.set id o ++ x :: y :: z :: v :: t := fun {o x y z u v t} => by rw [← hsl o]; exact se3
  simp only [fn35, ht, hs, ht', ha, hb, h34, lay34 ha hb, lay34' h34, hl, hf, hat, hset, hb', hfl, at0', at3', se0', se3', recC, m1, runFn, pad, List.replicate, Nat.reduceSub, List.cons_append, List.nil_append, List.append_assoc, rep, splice, List.map_cons, List.map_nil, elems, at0, at1, at2, at4, se0, results, result, mapO, List.length_append, List.take_zero, List.take_succ_cons, List.take_nil, List.drop_zero, List.drop_succ_cons, List.drop_nil, Nat.le_refl, exec, runOps, wants, Mini.step, stepP, stepE, O.eff, Mini.look, nth, put, exports, ob_eq, setOb_eq, ofCells, V.cells, List.length_cons, List.length_nil, Option.map_some, if_true, if_false, List.append_nil, List.all_nil, Nat.zero_add, Nat.one_mul, and_self, reduceCtorEq, Bool.false_eq_true, Nat.reduceAdd, Nat.reduceLeDiff, and_true]

theorem Hp.cells {n g : Nat} {f : Bool} {cs : List C} {t : Heap} (h : cs.all (uC n) = true) (ht : Hp n t) : Hp n (.cells cs g f :: t) := Hp.cons (show uO n (.cells cs g f) = true from h) ht
theorem Hp.setc {n i g : Nat} {f : Bool} {cs : List C} {H : Heap} (h : Hp n H) (hc : cs.all (uC n) = true) : Hp n (H.set i (.cells cs g f)) := h.set (show uO n (.cells cs g f) = true from hc)
theorem uC_os {n id g o l s : Nat} {c : Option Nat} (h : id < n) : uC n (.os id g o l s c) = true := decide_eq_true h
/-! ### A record that grows -/
def ArrAt (H : Heap) (b sz : Nat) (P : C) (es : List (List C)) : Prop := (es = [] ∧ P = .d .nils) ∨ (∃ id g, P = .os id g 0 es.length sz none ∧ b ≤ id ∧ H[id]? = some (.cells es.flatten g false) ∧ es ≠ [])
/-- At R lies a record with these policies, these pairs; whatever is below R is as it was. -/
structure RecAt (H0 H : Heap) (R bp bm : Nat) (hp hm : Bool) (ps ms : List (List C)) : Prop where
  hH : Hp H.length H
  low : ∀ j, j < R → H[j]? = H0[j]?
  wid : bp > R ∧ bm > R
  cel : ∃ P M, H[R]? = some (.cells (recC hp hm P M) 0 false) ∧ ArrAt H bp 18 P ps ∧ ArrAt H bm 34 M ms ∧ ∀ i j g g' l l' s s' c c', P = .os i g 0 l s c → M = .os j g' 0 l' s' c' → i ≠ j
theorem arr_keep {H H' : Heap} {b sz : Nat} {P : C} {es : List (List C)} (h : ArrAt H b sz P es) (hk : ∀ i g, P = .os i g 0 es.length sz none → H'[i]? = H[i]?) : ArrAt H' b sz P es := by
  rcases h with h | ⟨id, g, rfl, h1, h2, h3⟩
  · exact Or.inl h
  · exact Or.inr ⟨id, g, rfl, h1, (hk id g rfl).trans h2, h3⟩
theorem arr_u {H : Heap} {b sz n : Nat} {P : C} {es : List (List C)} (h : ArrAt H b sz P es) (hn : H.length ≤ n) : uC n P = true := by
  rcases h with ⟨_, rfl⟩ | ⟨id, g, rfl, _, h2, _⟩
  · rfl
  · exact decide_eq_true (Nat.lt_of_lt_of_le (List.getElem?_eq_some_iff.1 h2).1 hn)
theorem recC_u {n : Nat} {hp hm : Bool} {P M : C} (h1 : uC n P = true) (h2 : uC n M = true) : (recC hp hm P M).all (uC n) = true := by
  simp only [recC, List.all_cons, List.all_nil, Bool.and_eq_true]
  exact ⟨rfl, rfl, h1, rfl, h2, rfl, rfl, rfl, trivial⟩
theorem list_step {X : Ctx} (hX : X.fns 34 = some fn34) {N R bp bm : Nat} {hp hm : Bool} {ps ms : List (List C)} {a : List C} {H0 H : Heap} (ha : a.length = 17) (hda : a.all C.isD = true) (hR : RecAt H0 H R bp bm hp hm ps ms) (hx : ∀ e ∈ ps, e.length = 18) (hxd : ∀ e ∈ ps, e.all C.isD = true) (hxl : ps.length < 1000) (hbl : bp ≤ H.length) :
    ∃ P M rec' H1, H[R]? = some (.cells (recC hp hm P M) 0 false) ∧ callN X (N + 1) (.d (.fn 34 [] [])) [.agg (recC hp hm P M), .agg a] H = some (.agg rec', H1) ∧ rec'.length = 8 ∧ (∃ c, H1[R]? = some (.cells c 0 false) ∧ c.length = 8) ∧ RecAt H0 (H1.set R (.cells rec' 0 false)) R bp bm true hm (ps ++ [polC a]) ms ∧ H.length ≤ H1.length := by
  obtain ⟨hH, low, hw, P, M, hcel, aP, aM, hdist⟩ := hR
  have hRl : R < H.length := (List.getElem?_eq_some_iff.1 hcel).1
  have hnew : (polC a).all C.isD = true := by rw [polC, List.all_append, hda]; rfl
  have hY : ∀ j g l s c, M = .os j g 0 l s c → bm ≤ j ∧ j < H.length := fun j g l s c e => by
    rcases aM with ⟨_, h⟩ | ⟨id, g', h, h1, h2, _⟩
    · rw [h] at e; cases e
    · rw [h] at e; cases e; exact ⟨h1, (List.getElem?_eq_some_iff.1 h2).1⟩
  rcases aP with ⟨rfl, rfl⟩ | ⟨id, g, rfl, h1, h2, _⟩
  · refine ⟨.d .nils, M, _, _, hcel, (fn34_a hX ha), rfl, ⟨_, atL hcel, rfl⟩, ⟨?_, ?_, hw, ?_⟩, by simp⟩
    · have hl : ((H ++ [Ob.cells (recC true hm (.os (H.length + 4) 0 0 1 18 none) M) 0 false, .cells a 0 false, .cells (recC true hm (.os (H.length + 4) 0 0 1 18 none) M) 0 false, .cells (polC a) 0 false, .cells (polC a) 0 false]).set R (.cells (recC true hm (.os (H.length + 4) 0 0 1 18 none) M) 0 false)).length = H.length + 5 := by simp
      rw [hl]
      exact ((hH.mono (by omega)).app (Hp.cells (recC_u (uC_os (by omega)) (arr_u aM (by omega))) (Hp.cells (uC_all_d hda) (Hp.cells (recC_u (uC_os (by omega)) (arr_u aM (by omega))) (Hp.cells (uC_all_d hnew) (Hp.cells (uC_all_d hnew) Hp.nil)))))).setc (recC_u (uC_os (by omega)) (arr_u aM (by omega)))
    · intro j hj
      rw [List.getElem?_set_ne (by omega), List.getElem?_append_left (by omega)]
      exact low j hj
    · refine ⟨_, M, List.getElem?_set_self (by rw [List.length_append]; omega), Or.inr ⟨H.length + 4, 0, rfl, by omega, ?_, by simp⟩, ?_, fun i j g1 g2 l1 l2 s1 s2 c1 c2 e1 e2 => by
        cases e1
        have := hY j g2 l2 s2 c2 e2
        omega⟩
      · rw [List.getElem?_set_ne (by omega), at4]; simp
      · refine arr_keep aM fun i g e => ?_
        have := hY i g _ _ _ e
        rw [List.getElem?_set_ne (by omega), List.getElem?_append_left (by omega)]
  · have hid : id < H.length := (List.getElem?_eq_some_iff.1 h2).1
    have hne : id ≠ R := by omega
    refine ⟨_, M, _, _, hcel, (fn34_b hX ha h2 hx rfl hxl), rfl, ⟨_, atL (by rw [List.getElem?_set_ne hne]; exact hcel), rfl⟩, ⟨?_, ?_, hw, ?_⟩, by simp⟩
    · have hl : ((H.set id (.cells (ps ++ [polC a]).flatten (g + 1) false) ++ [Ob.cells (recC true hm (.os id (g + 1) 0 (ps.length + 1) 18 none) M) 0 false, .cells a 0 false, .cells (recC true hm (.os id (g + 1) 0 (ps.length + 1) 18 none) M) 0 false, .cells (polC a) 0 false]).set R (.cells (recC true hm (.os id (g + 1) 0 (ps.length + 1) 18 none) M) 0 false)).length = H.length + 4 := by simp
      rw [hl]
      have hfl : uO (H.length + 4) (.cells (ps ++ [polC a]).flatten (g + 1) false) = true := flat_u fun e he => by
        rcases List.mem_append.1 he with h | h
        · exact uC_all_d (hxd e h)
        · rw [List.mem_singleton.1 h]; exact uC_all_d hnew
      exact (((hH.mono (by omega)).set hfl).app (Hp.cells (recC_u (uC_os (by omega)) (arr_u aM (by omega))) (Hp.cells (uC_all_d hda) (Hp.cells (recC_u (uC_os (by omega)) (arr_u aM (by omega))) (Hp.cells (uC_all_d hnew) Hp.nil))))).setc (recC_u (uC_os (by omega)) (arr_u aM (by omega)))
    · intro j hj
      rw [List.getElem?_set_ne (by omega), List.getElem?_append_left (by rw [List.length_set]; omega), List.getElem?_set_ne (by omega)]
      exact low j hj
    · refine ⟨.os id (g + 1) 0 (ps.length + 1) 18 none, M, ?_, Or.inr ⟨id, g + 1, by simp, h1, ?_, by simp⟩, ?_, fun i j g1 g2 l1 l2 s1 s2 c1 c2 e1 e2 => by
        cases e1
        exact hdist _ j _ g2 _ l2 _ s2 _ c2 rfl e2⟩
      · exact List.getElem?_set_self (by rw [List.length_append, List.length_set]; omega)
      · rw [List.getElem?_set_ne (by omega), List.getElem?_append_left (by rw [List.length_set]; omega)]
        simp [hid]
      · refine arr_keep aM fun i g' e => ?_
        have h3 := hY i g' _ _ _ e
        have h4 : id ≠ i := hdist _ i _ g' _ _ _ _ _ _ rfl e
        rw [List.getElem?_set_ne (by omega), List.getElem?_append_left (by rw [List.length_set]; omega), List.getElem?_set_ne h4]
theorem pair_step {X : Ctx} (hX : X.fns 35 = some fn35) {N R bp bm : Nat} {hp hm : Bool} {ps ms : List (List C)} {a b : List C} {H0 H : Heap} (ha : a.length = 17) (hda : a.all C.isD = true) (hb : b.length = 17) (hdb : b.all C.isD = true) (hR : RecAt H0 H R bp bm hp hm ps ms) (hx : ∀ e ∈ ms, e.length = 34) (hxd : ∀ e ∈ ms, e.all C.isD = true) (hxl : ms.length < 1000) (hbl : bm ≤ H.length) :
    ∃ P M rec' H1, H[R]? = some (.cells (recC hp hm P M) 0 false) ∧ callN X (N + 1) (.d (.fn 35 [] [])) [.agg (recC hp hm P M), .agg a, .agg b] H = some (.agg rec', H1) ∧ rec'.length = 8 ∧ (∃ c, H1[R]? = some (.cells c 0 false) ∧ c.length = 8) ∧ RecAt H0 (H1.set R (.cells rec' 0 false)) R bp bm hp true ps (ms ++ [a ++ b]) ∧ H.length ≤ H1.length := by
  obtain ⟨hH, low, hw, P, M, hcel, aP, aM, hdist⟩ := hR
  have hRl : R < H.length := (List.getElem?_eq_some_iff.1 hcel).1
  have hnew : (a ++ b).all C.isD = true := by rw [List.all_append, hda, hdb]; rfl
  have hY : ∀ j g l s c, P = .os j g 0 l s c → bp ≤ j ∧ j < H.length := fun j g l s c e => by
    rcases aP with ⟨_, h⟩ | ⟨id, g', h, h1, h2, _⟩
    · rw [h] at e; cases e
    · rw [h] at e; cases e; exact ⟨h1, (List.getElem?_eq_some_iff.1 h2).1⟩
  rcases aM with ⟨rfl, rfl⟩ | ⟨id, g, rfl, h1, h2, _⟩
  · refine ⟨P, .d .nils, _, _, hcel, (fn35_a hX ha hb), rfl, ⟨_, atL hcel, rfl⟩, ⟨?_, ?_, hw, ?_⟩, by simp⟩
    · have hl : ((H ++ [Ob.cells (recC hp true P (.os (H.length + 5) 0 0 1 34 none)) 0 false, .cells a 0 false, .cells b 0 false, .cells (recC hp true P (.os (H.length + 5) 0 0 1 34 none)) 0 false, .cells (a ++ b) 0 false, .cells (a ++ b) 0 false]).set R (.cells (recC hp true P (.os (H.length + 5) 0 0 1 34 none)) 0 false)).length = H.length + 6 := by simp
      rw [hl]
      exact ((hH.mono (by omega)).app (Hp.cells (recC_u (arr_u aP (by omega)) (uC_os (by omega))) (Hp.cells (uC_all_d hda) (Hp.cells (uC_all_d hdb) (Hp.cells (recC_u (arr_u aP (by omega)) (uC_os (by omega))) (Hp.cells (uC_all_d hnew) (Hp.cells (uC_all_d hnew) Hp.nil))))))).setc (recC_u (arr_u aP (by omega)) (uC_os (by omega)))
    · intro j hj
      rw [List.getElem?_set_ne (by omega), List.getElem?_append_left (by omega)]
      exact low j hj
    · refine ⟨P, _, List.getElem?_set_self (by rw [List.length_append]; omega), ?_, Or.inr ⟨H.length + 5, 0, rfl, by omega, ?_, by simp⟩, fun i j g1 g2 l1 l2 s1 s2 c1 c2 e1 e2 => by
        cases e2
        have := hY i g1 l1 s1 c1 e1
        omega⟩
      · refine arr_keep aP fun i g e => ?_
        have := hY i g _ _ _ e
        rw [List.getElem?_set_ne (by omega), List.getElem?_append_left (by omega)]
      · rw [List.getElem?_set_ne (by omega), at5]; simp
  · have hid : id < H.length := (List.getElem?_eq_some_iff.1 h2).1
    have hne : id ≠ R := by omega
    refine ⟨P, _, _, _, hcel, (fn35_b hX ha hb h2 hx rfl hxl), rfl, ⟨_, atL (by rw [List.getElem?_set_ne hne]; exact hcel), rfl⟩, ⟨?_, ?_, hw, ?_⟩, by simp⟩
    · have hl : ((H.set id (.cells (ms ++ [(a ++ b)]).flatten (g + 1) false) ++ [Ob.cells (recC hp true P (.os id (g + 1) 0 (ms.length + 1) 34 none)) 0 false, .cells a 0 false, .cells b 0 false, .cells (recC hp true P (.os id (g + 1) 0 (ms.length + 1) 34 none)) 0 false, .cells (a ++ b) 0 false]).set R (.cells (recC hp true P (.os id (g + 1) 0 (ms.length + 1) 34 none)) 0 false)).length = H.length + 5 := by simp
      rw [hl]
      have hfl : uO (H.length + 5) (.cells (ms ++ [(a ++ b)]).flatten (g + 1) false) = true := flat_u fun e he => by
        rcases List.mem_append.1 he with h | h
        · exact uC_all_d (hxd e h)
        · rw [List.mem_singleton.1 h]; exact uC_all_d hnew
      exact (((hH.mono (by omega)).set hfl).app (Hp.cells (recC_u (arr_u aP (by omega)) (uC_os (by omega))) (Hp.cells (uC_all_d hda) (Hp.cells (uC_all_d hdb) (Hp.cells (recC_u (arr_u aP (by omega)) (uC_os (by omega))) (Hp.cells (uC_all_d hnew) Hp.nil)))))).setc (recC_u (arr_u aP (by omega)) (uC_os (by omega)))
    · intro j hj
      rw [List.getElem?_set_ne (by omega), List.getElem?_append_left (by rw [List.length_set]; omega), List.getElem?_set_ne (by omega)]
      exact low j hj
    · refine ⟨P, .os id (g + 1) 0 (ms.length + 1) 34 none, ?_, ?_, Or.inr ⟨id, g + 1, by simp, h1, ?_, by simp⟩, fun i j g1 g2 l1 l2 s1 s2 c1 c2 e1 e2 => by
        cases e2
        exact hdist i _ g1 _ l1 _ s1 _ c1 _ e1 rfl⟩
      · exact List.getElem?_set_self (by rw [List.length_append, List.length_set]; omega)
      · refine arr_keep aP fun i g' e => ?_
        have h3 := hY i g' _ _ _ e
        have h4 : id ≠ i := fun h => hdist i _ g' _ _ _ _ _ _ _ e rfl h.symm
        rw [List.getElem?_set_ne (by omega), List.getElem?_append_left (by rw [List.length_set]; omega), List.getElem?_set_ne h4]
      · rw [List.getElem?_set_ne (by omega), List.getElem?_append_left (by rw [List.length_set]; omega)]
        simp [hid]
end Mini
end Go.Proofs.YtcilepbdddgpoaaDoor
