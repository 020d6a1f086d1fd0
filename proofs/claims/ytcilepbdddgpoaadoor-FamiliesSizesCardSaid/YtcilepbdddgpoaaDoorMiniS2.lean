/-
  Times, Above: walked. The law on sizes.
-/
import Derived.Test.YtcilepbdddgpoaaDoorMiniS
import Derived.Test.YtcilepbdddgpoaaDoorMiniR
namespace Go.Proofs.YtcilepbdddgpoaaDoor
namespace Mini
open Go

def strV (s : List Nat) : V := .c (.d (.str s))
def lets (ds : List Nat) : List Nat := ds.map (· + 48)
theorem lets_app (a b : List Nat) : lets (a ++ b) = lets a ++ lets b := by simp [lets]
theorem lets_len (a : List Nat) : (lets a).length = a.length := by simp [lets]
def R23 (s : List Nat) (k : Nat) (out : List Nat) (c : Nat) (i : Int) : List V := [strV s, i64 k, .any, .any, strV out, i64 c, i64 i, .any, .any]
theorem round23 {E : Env} {N k c d j : Nat} {s out : List Nat} (hj : s[j]? = some (d + 48)) (hb : out.length < 1000) (hjb : j < 1000) (hk : k ≤ 8) (hc : c < 10) (hd : d < 10) :
    ∃ r, exec E N false fn23L1 ⟨R23 s k out c j, []⟩ = some (.nrm, r) ∧ tidy 0 (some [0, 1, 4, 5, 6]) r = ⟨R23 s k (((c + d * k) % 10 + 48) :: out) ((c + d * k) / 10) ((j : Int) - 1), []⟩ := by
  have hm : d * k ≤ 9 * 8 := Nat.mul_le_mul (by omega) hk
  have hj0 : (j : Int) ≥ 0 := by omega
  have e0 : IntKind.u8.wrap (((d + 48 : Nat) : Int) - 48) = (d : Int) := (u8_id (n := d) (by omega)) ▸ by congr 1; omega
  have e1 : IntKind.i64.wrap (d : Int) = (d : Int) := wrap_nat (by omega)
  have e2 : IntKind.i64.wrap ((d : Int) * (k : Int)) = ((d * k : Nat) : Int) := i64_id (by simp) (by omega)
  have e3 : IntKind.i64.wrap ((c : Int) + ((d * k : Nat) : Int)) = ((c + d * k : Nat) : Int) := i64_id (by simp) (by omega)
  have e4 : ((c + d * k : Nat) : Int).tmod 10 = (((c + d * k) % 10 : Nat) : Int) := by rw [show (10 : Int) = ((10 : Nat) : Int) from rfl, ← Int.ofNat_tmod]
  have e5 : IntKind.i64.wrap (((c + d * k : Nat) : Int).tdiv 10) = (((c + d * k) / 10 : Nat) : Int) := i64_id (by rw [show (10 : Int) = ((10 : Nat) : Int) from rfl, ← Int.ofNat_tdiv]) (by omega)
  have e6 : IntKind.i64.wrap (48 + (((c + d * k) % 10 : Nat) : Int)) = (((c + d * k) % 10 + 48 : Nat) : Int) := i64_id (by omega) (by omega)
  have e8 : IntKind.u8.wrap (((c + d * k) % 10 + 48 : Nat) : Int) = (((c + d * k) % 10 + 48 : Nat) : Int) := u8_id (by omega)
  have e7 : IntKind.i64.wrap ((j : Int) - 1) = (j : Int) - 1 := by
    simp only [IntKind.wrap, IntKind.bits, IntKind.signed]
    simp
    omega
  have e9 : 1 + out.length ≤ 1073741824 := by omega
  have hby : bytesOf (row [(c + d * k) % 10 + 48]) = some [(c + d * k) % 10 + 48] := row_bytes _ (by simp; omega)
  rw [row_one] at hby
  refine ⟨⟨[strV s, i64 k, .any, .any, strV (((c + d * k) % 10 + 48) :: out), i64 ((c + d * k) / 10 : Nat), i64 ((j : Int) - 1), bl true, .any], [.cells [C.d (.int .u8 (((c + d * k) % 10 + 48 : Nat) : Int))] 0 false]⟩, ?_, rfl⟩
  simp only [fn23L1, R23, strV, hj0, hj, e0, e1, e2, e3, e4, e5, e6, e7, e8, e9, binStr, rep, lay, splice, elems, hby, ob?, List.map_cons, List.map_nil, List.take_zero, List.drop_zero, List.take_succ_cons, List.drop_succ_cons, List.take_nil, List.drop_nil, List.nil_append, List.cons_append, Nat.le_refl, exec, runOps, wants, Mini.step, stepP, O.eff, Mini.look, nth, put, exports, bin, binInt, i64, bl, asNat_nat, V.cells, List.length_cons, List.length_nil, Option.map_some, if_true, if_false, decide_true, List.append_nil, List.all_nil, cond_true, Nat.zero_add, Nat.mul_one, and_self, Int.reduceEq, Int.ofNat_eq_natCast, Bool.false_eq_true]
theorem end23 {E : Env} {N k c : Nat} {s out : List Nat} : exec E N false fn23L1 ⟨R23 s k out c (-1), []⟩ = some (.exit 0, ⟨put (R23 s k out c (-1)) 7 (bl false), []⟩) := by
  simp only [fn23L1, R23, strV, show ¬ ((-1 : Int) ≥ 0) by omega, exec, runOps, wants, Mini.step, stepP, stepE, O.eff, Mini.look, nth, put, exports, bin, binInt, i64, bl, Option.map_some, if_true, if_false, decide_false, List.append_nil, List.all_nil, cond_false, Bool.false_eq_true]
theorem loop23 {E : Env} {N k : Nat} {s : List Nat} (hk : k ≤ 8) (_hs : s.length < 900) : ∀ (post pre out : List Nat) (c fuel : Nat), s = lets (post.reverse ++ pre) → post.length < fuel → out.length + post.length < 900 → c < 10 → (∀ d ∈ post, d < 10) →
    iter (some [0, 1, 4, 5, 6]) 0 (exec E N false fn23L1) fuel ⟨R23 s k out c ((post.length : Int) - 1), []⟩ = some (.exit 0, ⟨put (R23 s k (lets (mulc k c post).1.reverse ++ out) (mulc k c post).2 (-1)) 7 (bl false), []⟩) := by
  intro post
  induction post with
  | nil =>
    intro pre out c fuel h1 h2 h3 h4 h5
    obtain ⟨f, rfl⟩ : ∃ f, fuel = f + 1 := ⟨fuel - 1, by simp at h2; omega⟩
    rw [show (([] : List Nat).length : Int) - 1 = -1 from rfl, iter_stop end23]
    rfl
  | cons d post ih =>
    intro pre out c fuel h1 h2 h3 h4 h5
    obtain ⟨f, rfl⟩ : ∃ f, fuel = f + 1 := ⟨fuel - 1, by simp at h2; omega⟩
    have hd := h5 d List.mem_cons_self
    have hm : d * k ≤ 9 * 8 := Nat.mul_le_mul (by omega) hk
    have hj : s[post.length]? = some (d + 48) := by
      rw [h1, List.reverse_cons, List.append_assoc, lets_app, List.getElem?_append_right (by rw [lets_len]; simp), lets_len]
      simp [lets]
    have hlen : post.length < 1000 := by simp at h3; omega
    obtain ⟨r, h6, h7⟩ := round23 (E := E) (N := N) (k := k) (c := c) hj (out := out) (by omega) hlen hk h4 hd
    rw [show ((d :: post).length : Int) - 1 = (post.length : Int) by simp, iter_step h6, h7]
    rw [ih (d :: pre) _ _ f (by rw [h1]; simp) (by simp at h2; omega) (by simp at h3 ⊢; omega) (by omega) (fun x hx => h5 x (List.mem_cons_of_mem _ hx))]
    simp [mulc, lets]
def R23t (out : List Nat) (c : Nat) : List V := [.any, .any, .any, .any, strV out, i64 c, .any, .any, .any]
theorem end23t {E : Env} {N : Nat} {out : List Nat} : exec E N false fn23L0 ⟨R23t out 0, []⟩ = some (.exit 2, ⟨put (R23t out 0) 8 (bl false), []⟩) := by
  simp only [fn23L0, R23t, strV, exec, runOps, wants, Mini.step, stepP, stepE, O.eff, Mini.look, nth, put, exports, bin, binInt, i64, bl, Option.map_some, if_true, if_false, List.append_nil, List.all_nil, Bool.false_eq_true]
  rfl
theorem round23t {E : Env} {N c : Nat} {out : List Nat} (hb : out.length < 1000) (hc : c < 10) (h0 : 0 < c) :
    ∃ r, exec E N false fn23L0 ⟨R23t out c, []⟩ = some (.nrm, r) ∧ tidy 0 (some [4, 5]) r = ⟨R23t ((c + 48) :: out) 0, []⟩ := by
  have e4 : (c : Int).tmod 10 = (c : Int) := by rw [show (10 : Int) = ((10 : Nat) : Int) from rfl, ← Int.ofNat_tmod, Nat.mod_eq_of_lt hc]
  have e5 : IntKind.i64.wrap ((c : Int).tdiv 10) = ((0 : Nat) : Int) := i64_id (by rw [show (10 : Int) = ((10 : Nat) : Int) from rfl, ← Int.ofNat_tdiv, Nat.div_eq_of_lt hc]) (by omega)
  have e6 : IntKind.i64.wrap (48 + (c : Int)) = ((c + 48 : Nat) : Int) := i64_id (by omega) (by omega)
  have e8 : IntKind.u8.wrap ((c + 48 : Nat) : Int) = ((c + 48 : Nat) : Int) := u8_id (by omega)
  have e7 : (c : Int) > 0 := by omega
  have e9 : 1 + out.length ≤ 1073741824 := by omega
  have hby : bytesOf (row [c + 48]) = some [c + 48] := row_bytes _ (by simp; omega)
  rw [row_one] at hby
  refine ⟨⟨[.any, .any, .any, .any, strV ((c + 48) :: out), i64 (0 : Nat), .any, .any, bl true], [.cells [C.d (.int .u8 ((c + 48 : Nat) : Int))] 0 false]⟩, ?_, rfl⟩
  simp only [fn23L0, R23t, strV, e4, e5, e6, e7, e8, e9, binStr, rep, lay, splice, elems, hby, ob?, List.map_cons, List.map_nil, List.take_zero, List.drop_zero, List.take_succ_cons, List.drop_succ_cons, List.take_nil, List.drop_nil, List.nil_append, List.cons_append, Nat.le_refl, exec, runOps, wants, Mini.step, stepP, O.eff, Mini.look, nth, put, exports, bin, binInt, i64, bl, V.cells, List.length_cons, List.length_nil, Option.map_some, if_true, if_false, decide_true, List.append_nil, List.all_nil, cond_true, Nat.zero_add, Nat.mul_one, and_self, Int.reduceEq, Bool.false_eq_true]
def stepD (k p : Nat) (ds : List Nat) : List Nat := (mulc k p ds).1 ++ if (mulc k p ds).2 = 0 then [] else [(mulc k p ds).2]
theorem loop23t {E : Env} {N c f : Nat} {out : List Nat} (hb : out.length < 1000) (hc : c < 10) : iter (some [4, 5]) 0 (exec E N false fn23L0) (f + 2) ⟨R23t out c, []⟩ = some (.exit 2, ⟨put (R23t ((if c = 0 then [] else [c + 48]) ++ out) 0) 8 (bl false), []⟩) := by
  by_cases h0 : c = 0
  · subst h0
    rw [iter_stop end23t]
    rfl
  · obtain ⟨r, h1, h2⟩ := round23t (E := E) (N := N) hb hc (by omega)
    rw [iter_step h1, h2, iter_stop end23t, if_neg h0]
    rfl
theorem fn23_ok {X : Ctx} (hX : X.fns 23 = some fn23) {N k p : Nat} {ds : List Nat} (hN : 1000 ≤ N) (hl : ds.length < 800) (hk : k ≤ 8) (hp : p < 10) (hd : ∀ d ∈ ds, d < 10) :
    vcallN X (N + 1) 23 [strV (lets ds.reverse), i64 k, i64 p] = some (strV (lets (stepD k p ds).reverse)) := by
  obtain ⟨f, rfl⟩ : ∃ f, N = f + 2 := ⟨N - 2, by omega⟩
  have h1 := loop23 (E := zenv X (f + 2)) (N := f + 2) (s := lets ds.reverse) hk (by rw [lets_len]; simp; omega) ds [] [] p (f + 2) (by simp) (by omega) (by simp; omega) hp hd
  have hm := mulc_lt hk p ds hp hd
  have h2 := loop23t (E := zenv X (f + 2)) (N := f + 2) (f := f) (out := lets (mulc k p ds).1.reverse) (by rw [lets_len, List.length_reverse, mulc_len]; omega) hm.2
  have e1 : IntKind.i64.wrap ((ds.length : Int) - 1) = (ds.length : Int) - 1 := by
    simp only [IntKind.wrap, IntKind.bits, IntKind.signed]
    simp
    omega
  have hls : (lets ds.reverse).length = ds.length := by rw [lets_len, List.length_reverse]
  have t1 : tidy 0 (some [0, 1, 4, 5, 6]) ⟨[strV (lets ds.reverse), i64 k, i64 p, strV [], strV [], i64 p, i64 ((ds.length : Int) - 1), .any, .any], []⟩ = ⟨R23 (lets ds.reverse) k [] p ((ds.length : Int) - 1), []⟩ := rfl
  have t2 : tidy 0 (some [4, 5]) ⟨put (R23 (lets ds.reverse) k (lets (mulc k p ds).1.reverse) (mulc k p ds).2 (-1)) 7 (bl false), []⟩ = ⟨R23t (lets (mulc k p ds).1.reverse) (mulc k p ds).2, []⟩ := rfl
  have hres : ((if (mulc k p ds).2 = 0 then [] else [(mulc k p ds).2 + 48]) ++ lets (mulc k p ds).1.reverse) = lets (stepD k p ds).reverse := by
    unfold stepD
    split <;> simp [lets]
  rw [hres] at h2
  rw [fn23_is] at hX
  refine vcall_of (H := []) ?_ (v := strV (lets (stepD k p ds).reverse)) (r := strV (lets (stepD k p ds).reverse)) rfl
  rw [callN_fn hX]
  simp only [R23, R23t, strV, i64, bl, put, List.append_nil] at h1 h2 t1 t2
  simp only [fn23', runFn, pad, List.replicate, Nat.reduceSub, List.cons_append, List.nil_append, strV, hls, e1, t1, h1, t2, h2, results, result, mapO, exec, runOps, wants, Mini.step, stepP, stepE, O.eff, Mini.look, nth, put, exports, bin, binInt, i64, List.length_cons, List.length_nil, Option.map_some, if_true, if_false, List.all_nil, Nat.zero_add, Int.ofNat_eq_natCast, Bool.false_eq_true, Nat.reduceAdd]
theorem fn24_ok {X : Ctx} (hX : X.fns 24 = some fn24) {N : Nat} {a b : List Nat} : vcallN X (N + 1) 24 [strV a, strV b] = some (bl (if a.length = b.length then !(strLess a b || a == b) else decide ((a.length : Int) > b.length))) := by
  rw [fn24_is] at hX
  by_cases h : a.length = b.length
  · have h' : (a.length : Int) = b.length := by omega
    refine vcall_of (H := []) ?_ (v := bl _) (r := bl _) rfl
    rw [callN_fn hX, if_pos h]
    simp only [fn24', runFn, pad, List.replicate, Nat.reduceSub, List.cons_append, List.nil_append, strV, h', binStr, results, result, mapO, bne_self_eq_false, exec, runOps, wants, Mini.step, stepP, stepE, O.eff, Mini.look, nth, put, exports, bin, binInt, bl, List.length_cons, List.length_nil, Option.map_some, if_true, if_false, List.all_nil, cond_false, Nat.zero_add, Int.ofNat_eq_natCast, Bool.false_eq_true, Nat.reduceAdd]
  · have h' : ((a.length : Int) != b.length) = true := by simp; omega
    refine vcall_of (H := []) ?_ (v := bl _) (r := bl _) rfl
    rw [callN_fn hX, if_neg h]
    simp only [fn24', runFn, pad, List.replicate, Nat.reduceSub, List.cons_append, List.nil_append, strV, h', results, result, mapO, exec, runOps, wants, Mini.step, stepP, stepE, O.eff, Mini.look, nth, put, exports, bin, binInt, bl, List.length_cons, List.length_nil, Option.map_some, if_true, if_false, List.all_nil, cond_true, Nat.zero_add, Int.ofNat_eq_natCast, Bool.false_eq_true, Nat.reduceAdd]

/-! ### The law on sizes -/
def pow2 : Nat → List Nat
  | 0 => [1]
  | n + 1 => stepD 2 0 (pow2 n)
theorem stepD_lt {k p : Nat} (hk : k ≤ 8) (hp : p < 10) {ds : List Nat} (h : ∀ d ∈ ds, d < 10) : ∀ d ∈ stepD k p ds, d < 10 := fun d hd => by
  have := mulc_lt hk p ds hp h
  rcases List.mem_append.1 hd with h' | h'
  · exact this.1 d h'
  · split at h'
    · cases h'
    · rw [List.mem_singleton] at h'; rw [h']; exact this.2
theorem stepD_len (k p : Nat) (ds : List Nat) : (stepD k p ds).length ≤ ds.length + 1 := by
  unfold stepD
  rw [List.length_append, mulc_len]
  split <;> simp
theorem pow2_lt : ∀ n, ∀ d ∈ pow2 n, d < 10
  | 0 => by simp [pow2]
  | n + 1 => stepD_lt (by omega) (by omega) (pow2_lt n)
theorem pow2_len : ∀ n, (pow2 n).length ≤ n + 1
  | 0 => by simp [pow2]
  | n + 1 => Nat.le_trans (stepD_len 2 0 _) (Nat.succ_le_succ (pow2_len n))
def aboveS (a b : List Nat) : Bool := if a.length = b.length then !(strLess a b || a == b) else decide ((a.length : Int) > b.length)
def powS (n : Nat) : List Nat := lets (pow2 n).reverse
/-- Closed: from width 2 on each tree is above the power. -/
noncomputable def allAbove (k : Nat) : Nat → List Nat → List Nat → Bool
  | 0, _, _ => true
  | m + 1, t, p => forceL (stepD k 1 t) fun t => forceL (stepD 2 0 p) fun p => aboveS (lets t.reverse) (lets p.reverse) && allAbove k m t p
theorem allAbove_ok {k : Nat} : ∀ (m i : Nat), allAbove k m (tree k i) (pow2 i) = true → ∀ j, i < j → j ≤ i + m → aboveS (treeS k j) (powS j) = true
  | 0, i, _, j, h1, h2 => by omega
  | m + 1, i, h, j, h1, h2 => by
    simp only [allAbove, forceL_eq, Bool.and_eq_true] at h
    by_cases hj : j = i + 1
    · subst hj; exact h.1
    · exact allAbove_ok m (i + 1) h.2 j (by omega) (by omega)
theorem above2 : allAbove 2 64 [1] [1] = true := by kernel_rfl
theorem above3 : allAbove 3 64 [1] [1] = true := by kernel_rfl
theorem above4 : allAbove 4 64 [1] [1] = true := by kernel_rfl
theorem above5 : allAbove 5 64 [1] [1] = true := by kernel_rfl
theorem above6 : allAbove 6 64 [1] [1] = true := by kernel_rfl
theorem above7 : allAbove 7 64 [1] [1] = true := by kernel_rfl
theorem above8 : allAbove 8 64 [1] [1] = true := by kernel_rfl
theorem above_all {k n : Nat} (h1 : 2 ≤ k) (h2 : k ≤ 8) (h3 : 1 ≤ n) (h4 : n ≤ 64) : aboveS (treeS k n) (powS n) = true := by
  have : k = 2 ∨ k = 3 ∨ k = 4 ∨ k = 5 ∨ k = 6 ∨ k = 7 ∨ k = 8 := by omega
  rcases this with rfl | rfl | rfl | rfl | rfl | rfl | rfl
  · exact allAbove_ok 64 0 above2 n (by omega) (by omega)
  · exact allAbove_ok 64 0 above3 n (by omega) (by omega)
  · exact allAbove_ok 64 0 above4 n (by omega) (by omega)
  · exact allAbove_ok 64 0 above5 n (by omega) (by omega)
  · exact allAbove_ok 64 0 above6 n (by omega) (by omega)
  · exact allAbove_ok 64 0 above7 n (by omega) (by omega)
  · exact allAbove_ok 64 0 above8 n (by omega) (by omega)

def R6 (L W i : Nat) : List V := [.any, .any, .any, i64 L, i64 W, strV (treeS W i), strV (powS i), i64 (i + 1 : Nat), .any, .any, .any]
theorem round6 {X : Ctx} (hX : X.fns 23 = some fn23) (hp : ∀ vs, X.prim 23 vs = none) {N M L W i : Nat} (hN : 1000 ≤ N) (hW : W ≤ 8) (hi : i < L) (hL : L ≤ 64) :
    ∃ r, exec (zenv X (N + 1)) M false fn6L0 ⟨R6 L W i, []⟩ = some (.nrm, r) ∧ tidy 0 (some [3, 4, 5, 6, 7]) r = ⟨R6 L W (i + 1), []⟩ := by
  have h1 := tree_len W i
  have h2 := pow2_len i
  have c1 := zenv_vcall (n := N + 1) (hp [strV (lets (tree W i).reverse), i64 W, i64 (1 : Nat)]) (fn23_ok hX hN (by omega) hW (by omega) (tree_lt hW i))
  have c2 := zenv_vcall (n := N + 1) (hp [strV (lets (pow2 i).reverse), i64 (2 : Nat), i64 (0 : Nat)]) (fn23_ok hX hN (by omega) (by omega) (by omega) (pow2_lt i))
  have e1 : ((i + 1 : Nat) : Int) ≤ (L : Int) := by omega
  have e2 : IntKind.i64.wrap (((i + 1 : Nat) : Int) + 1) = ((i + 1 + 1 : Nat) : Int) := wrap_succ (by omega)
  refine ⟨⟨[.any, .any, .any, i64 L, i64 W, strV (treeS W (i + 1)), strV (powS (i + 1)), i64 (i + 1 + 1 : Nat), .any, .any, bl true], []⟩, ?_, rfl⟩
  change _ = some (strV (treeS W (i + 1))) at c1
  change _ = some (strV (powS (i + 1))) at c2
  change (zenv X (N + 1)).vcall 23 [strV (treeS W i), i64 W, i64 1] = _ at c1
  change (zenv X (N + 1)).vcall 23 [strV (powS i), i64 2, i64 0] = _ at c2
  simp only [strV, i64] at c1 c2
  simp only [fn6L0, R6, strV, e1, e2, byValue, mapO, deepV1, deepC, c1, c2, V.flat, V.flat1, C.flat, D.flat, exec, runOps, wants, Mini.step, stepP, stepE, O.eff, Mini.look, nth, put, exports, bin, binInt, i64, bl, Option.map_some, if_true, if_false, decide_true, List.append_nil, List.all_nil, cond_true, Bool.false_eq_true]
theorem loop6 {X : Ctx} (hX : X.fns 23 = some fn23) (hp : ∀ vs, X.prim 23 vs = none) {N M L W : Nat} (hN : 1000 ≤ N) (hW : W ≤ 8) (hL : L ≤ 64) : ∀ (m i fuel : Nat), i + m = L → m < fuel →
    iter (some [3, 4, 5, 6, 7]) 0 (exec (zenv X (N + 1)) M false fn6L0) fuel ⟨R6 L W i, []⟩ = some (.exit 0, ⟨put (R6 L W L) 10 (bl false), []⟩) := by
  intro m
  induction m with
  | zero =>
    intro i fuel h1 h2
    obtain ⟨f, rfl⟩ : ∃ f, fuel = f + 1 := ⟨fuel - 1, by omega⟩
    obtain rfl : i = L := by omega
    have e1 : ¬ (((i + 1 : Nat) : Int) ≤ (i : Int)) := by omega
    exact iter_stop (by simp only [fn6L0, R6, strV, e1, exec, runOps, wants, Mini.step, stepP, stepE, O.eff, Mini.look, nth, put, exports, bin, binInt, i64, bl, Option.map_some, if_true, if_false, decide_false, List.append_nil, List.all_nil, cond_false, Bool.false_eq_true])
  | succ m ih =>
    intro i fuel h1 h2
    obtain ⟨f, rfl⟩ : ∃ f, fuel = f + 1 := ⟨fuel - 1, by omega⟩
    obtain ⟨r, h3, h4⟩ := round6 hX hp (M := M) (W := W) hN hW (by omega : i < L) hL
    rw [iter_step h3, h4]
    exact ih (i + 1) f (by omega) (by omega)
def u8 (n : Int) : V := .c (.d (.int .u8 n))
set_option maxHeartbeats 2000000 in
theorem law6_ok (n k : Nat) (_hn : n < 256) (_hk : k < 256) : vcallN X2 2001 6 [u8 n, u8 k] = some (bl true) := by
  have hW : k % 8 + 1 ≤ 8 := by omega
  have hL : n % 64 + 1 ≤ 64 := by omega
  have h1 := loop6 (X := X2) rfl (fun _ => rfl) (N := 1999) (M := 2000) (L := n % 64 + 1) (W := k % 8 + 1) (by omega) hW hL (n % 64 + 1) 0 2000 (by omega) (by omega)
  have h10 := zenv_vcall (X := X2) (n := 2000) (f := 10) (vs := [i64 (n % 64 + 1 : Nat), i64 (k % 8 + 1 : Nat)]) rfl (fn10_in (X := X2) rfl rfl (fun _ _ _ => rfl) (N := 1998) (by omega) (by omega) hL (by omega) hW)
  have h24 := zenv_vcall (X := X2) (n := 2000) (f := 24) (vs := [strV (treeS (k % 8 + 1) (n % 64 + 1)), strV (powS (n % 64 + 1))]) rfl (fn24_ok (X := X2) rfl (N := 1999))
  have h13 := zenv_prim (X := X2) (n := 2000) (f := 13) (vs := []) (r := .c (.d (.bool true))) rfl
  have e1 : (n : Int).tmod 64 = ((n % 64 : Nat) : Int) := by rw [show (64 : Int) = ((64 : Nat) : Int) from rfl, ← Int.ofNat_tmod]
  have e2 : (k : Int).tmod 8 = ((k % 8 : Nat) : Int) := by rw [show (8 : Int) = ((8 : Nat) : Int) from rfl, ← Int.ofNat_tmod]
  have e3 : IntKind.i64.wrap ((n % 64 : Nat) : Int) = ((n % 64 : Nat) : Int) := wrap_nat (by omega)
  have e4 : IntKind.i64.wrap ((k % 8 : Nat) : Int) = ((k % 8 : Nat) : Int) := wrap_nat (by omega)
  have e5 : IntKind.i64.wrap (1 + ((n % 64 : Nat) : Int)) = ((n % 64 + 1 : Nat) : Int) := i64_id (by omega) (by omega)
  have e6 : IntKind.i64.wrap (1 + ((k % 8 : Nat) : Int)) = ((k % 8 + 1 : Nat) : Int) := i64_id (by omega) (by omega)
  have t1 : tidy 0 (some [3, 4, 5, 6, 7]) ⟨[u8 n, u8 k, bl false, i64 (n % 64 + 1 : Nat), i64 (k % 8 + 1 : Nat), strV [49], strV [49], i64 (1 : Nat), .any, .any, .any], []⟩ = ⟨R6 (n % 64 + 1) (k % 8 + 1) 0, []⟩ := rfl
  have hX6 : X2.fns 6 = some fn6' := rfl
  by_cases hk1 : k % 8 + 1 = 1
  · have e7 : (((k % 8 + 1 : Nat) : Int) == 1) = true := by rw [hk1]; rfl
    refine vcall_of (H := []) ?_ (v := bl _) (r := bl _) rfl
    rw [callN_fn hX6]
    simp only [R6, strV, i64, bl, put, u8, Int.ofNat_one] at h1 h10 t1
    simp (config := { maxSteps := 1000000 }) only [fn6', runFn, pad, List.replicate, Nat.reduceSub, List.cons_append, List.nil_append, u8, e1, e2, e3, e4, e5, e6, e7, t1, h1, h10, h13, byValue, mapO, deepV1, deepC, V.flat, V.flat1, C.flat, D.flat, List.all_cons, Bool.and_self, binStr, results, result, beq_self_eq_true, Bool.true_beq, List.getElem?_cons_zero, List.getElem?_cons_succ, exec, runOps, wants, Mini.step, stepP, stepE, O.eff, Mini.look, nth, put, exports, bin, binInt, bl, List.length_cons, List.length_nil, Option.map_some, if_true, if_false, List.all_nil, Nat.zero_add, Int.reduceEq, Bool.false_eq_true, Nat.reduceAdd]
  · have e7 : (((k % 8 + 1 : Nat) : Int) == 1) = false := by simp; omega
    have ha := above_all (k := k % 8 + 1) (n := n % 64 + 1) (by omega) hW (by omega) hL
    rw [← aboveS, ha] at h24
    refine vcall_of (H := []) ?_ (v := bl _) (r := bl _) rfl
    rw [callN_fn hX6]
    simp only [R6, strV, i64, bl, put, u8, Int.ofNat_one] at h1 h10 t1 h24
    simp (config := { maxSteps := 1000000 }) only [fn6', runFn, pad, List.replicate, Nat.reduceSub, List.cons_append, List.nil_append, u8, e1, e2, e3, e4, e5, e6, e7, t1, h1, h10, h13, h24, byValue, mapO, deepV1, deepC, V.flat, V.flat1, C.flat, D.flat, List.all_cons, Bool.and_self, binStr, results, result, beq_self_eq_true, List.getElem?_cons_zero, List.getElem?_cons_succ, exec, runOps, wants, Mini.step, stepP, stepE, O.eff, Mini.look, nth, put, exports, bin, binInt, bl, List.length_cons, List.length_nil, Option.map_some, if_true, if_false, List.all_nil, Nat.zero_add, Int.reduceEq, Bool.false_eq_true, Nat.reduceAdd]
end Mini
end Go.Proofs.YtcilepbdddgpoaaDoor
