/-
  WideTree and Times: their loops, walked.
-/
import Derived.Test.YtcilepbdddgpoaaDoorMiniT
namespace Go.Proofs.YtcilepbdddgpoaaDoor
namespace Mini
open Go

/-! ### Rows of bytes -/
def row (ds : List Nat) : List C := ds.map fun (d : Nat) => C.d (.int .u8 (d : Int))
theorem row_len (ds : List Nat) : (row ds).length = ds.length := by simp [row]
theorem row_ld {ds : List Nat} {i d : Nat} (h : ds[i]? = some d) : ((row ds).drop i).take 1 = [.d (.int .u8 (d : Int))] := by
  obtain ⟨hi, rfl⟩ := List.getElem?_eq_some_iff.1 h
  have : (row ds).drop i = .d (.int .u8 ((ds[i] : Nat) : Int)) :: (row ds).drop (i + 1) := by
    rw [List.drop_eq_getElem_cons (by simpa [row] using hi)]
    simp [row]
  rw [this]
  rfl
theorem row_st {ds : List Nat} {i : Nat} (y : Nat) (h : i < ds.length) : splice (row ds) i [.d (.int .u8 (y : Int))] = row (ds.set i y) := by
  unfold splice row
  rw [List.map_set, List.set_eq_take_append_cons_drop]
  simp [h]
theorem row_d (ds : List Nat) : (row ds).all C.isD = true := by simp [row, C.isD]
theorem dOb_row (ds : List Nat) (g : Nat) (f : Bool) : dOb (.cells (row ds) g f) = true := row_d ds
theorem row_app (ds : List Nat) (x : Nat) : row ds ++ [.d (.int .u8 (x : Int))] = row (ds ++ [x]) := by simp [row]
theorem row_take (ds : List Nat) : (row ds).take ds.length = row ds := by rw [← row_len, List.take_length]
theorem row_one (c : Nat) : row [c] = [C.d (.int .u8 (c : Int))] := rfl
theorem row_bytes : ∀ ds : List Nat, (∀ d ∈ ds, d < 256) → bytesOf (row ds) = some ds
  | [], _ => rfl
  | d :: ds, h => by
    have := row_bytes ds (fun x hx => h x (List.mem_cons_of_mem _ hx))
    simp only [bytesOf, row, List.map_cons, mapO, byteOf] at this ⊢
    rw [this]
    have hd : (d : Int).toNat % 256 = d := by have := h d List.mem_cons_self; simp; omega
    have hd' := h d List.mem_cons_self
    simp
    omega

/-! ### Numbers that fit -/
theorem i64_id {x : Int} {n : Nat} (h : x = (n : Int)) (hn : n < 9223372036854775808) : IntKind.i64.wrap x = (n : Int) := by
  rw [h]; exact wrap_nat hn
theorem u8_id {n : Nat} (h : n < 256) : IntKind.u8.wrap (n : Int) = (n : Int) := by
  simp only [IntKind.wrap, IntKind.bits, IntKind.signed]
  simp
  omega

/-! ### The pass over the digits -/
def mulc (k : Nat) : Nat → List Nat → List Nat × Nat
  | c, [] => ([], c)
  | c, d :: ds => (((c + d * k) % 10) :: (mulc k ((c + d * k) / 10) ds).1, (mulc k ((c + d * k) / 10) ds).2)
theorem mulc_len (k : Nat) : ∀ c ds, (mulc k c ds).1.length = ds.length
  | _, [] => rfl
  | c, d :: ds => by simp [mulc, mulc_len k _ ds]
theorem mulc_lt {k : Nat} (hk : k ≤ 8) : ∀ c ds, c < 10 → (∀ d ∈ ds, d < 10) → (∀ d ∈ (mulc k c ds).1, d < 10) ∧ (mulc k c ds).2 < 10
  | c, [], hc, _ => ⟨(fun _ h => nomatch h), hc⟩
  | c, d :: ds, hc, h => by
    have hd := h d List.mem_cons_self
    have hm : d * k ≤ 9 * 8 := Nat.mul_le_mul (by omega) hk
    have ih := mulc_lt hk ((c + d * k) / 10) ds (by omega) (fun x hx => h x (List.mem_cons_of_mem _ hx))
    refine ⟨fun x hx => ?_, ih.2⟩
    rcases List.mem_cons.1 hx with rfl | hx
    · omega
    · exact ih.1 x hx

def os1 (id g L : Nat) (cap : Option Nat) : V := .c (.os id g 0 L 1 cap)
def R2 (k n i : Nat) (os : V) (c L j : Nat) : List V := [.any, i64 k, .any, .any, os, i64 c, .any, .any, .any, .any, i64 n, i64 i, .any, os, i64 L, i64 j, .any, .any, .any, .any, .any]
theorem tidy2 {k n i : Nat} {os : V} {c : Nat} {L j : Nat} {a b d : V} {H : Heap} {hl : Nat} (h : H.length ≤ hl) : tidy hl (some [1, 4, 5, 10, 11, 13, 14, 15]) ⟨[.any, i64 k, .any, .any, os, i64 c, a, b, .any, .any, i64 n, i64 i, .any, os, i64 L, i64 j, d, .any, .any, .any, .any], H⟩ = ⟨R2 k n i os c L j, H⟩ :=
  (show _ = gc hl ⟨R2 k n i os c L j, H⟩ from rfl).trans (gc_le h)
theorem round2 {E : Env} {N : Nat} {k n i c d j : Nat} {id g : Nat} {cap : Option Nat} {ds : List Nat} {H : Heap} (hob : H[id]? = some (.cells (row ds) g false)) (hj : ds[j]? = some d) {L : Nat} (hL : ds.length = L) (hb : L < 1000) (hk : k ≤ 8) (hc : c < 10) (hd : d < 10) :
    exec E N false fn10L2 ⟨R2 k n i (os1 id g L cap) c L j, H⟩ = some (.nrm, ⟨[.any, i64 k, .any, .any, os1 id g L cap, i64 ((c + d * k) / 10 : Nat), i64 j, .c (.d (.int .u8 (d : Int))), .any, .any, i64 n, i64 i, .any, os1 id g L cap, i64 L, i64 (j + 1 : Nat), bl true, .any, .any, .any, .any],
      H.set id (.cells (row (ds.set j ((c + d * k) % 10))) g false)⟩) := by
  subst hL
  have hlt : j < ds.length := (List.getElem?_eq_some_iff.1 hj).1
  have hlt' : (j : Int) < (ds.length : Int) := by exact_mod_cast hlt
  have hle : j + 1 ≤ ds.length := hlt
  have hm : d * k ≤ 9 * 8 := Nat.mul_le_mul (by omega) hk
  have e1 : IntKind.i64.wrap (d : Int) = (d : Int) := wrap_nat (by omega)
  have e2 : IntKind.i64.wrap ((d : Int) * (k : Int)) = ((d * k : Nat) : Int) := i64_id (by simp) (by omega)
  have e3 : IntKind.i64.wrap ((c : Int) + ((d * k : Nat) : Int)) = ((c + d * k : Nat) : Int) := i64_id (by simp) (by omega)
  have e4 : ((c + d * k : Nat) : Int).tmod 10 = (((c + d * k) % 10 : Nat) : Int) := by rw [show (10 : Int) = ((10 : Nat) : Int) from rfl, ← Int.ofNat_tmod]
  have e5 : IntKind.i64.wrap (((c + d * k : Nat) : Int).tdiv 10) = (((c + d * k) / 10 : Nat) : Int) := i64_id (by rw [show (10 : Int) = ((10 : Nat) : Int) from rfl, ← Int.ofNat_tdiv]) (by omega)
  have e6 : IntKind.u8.wrap (((c + d * k) % 10 : Nat) : Int) = (((c + d * k) % 10 : Nat) : Int) := u8_id (by omega)
  have e7 : IntKind.i64.wrap ((j : Int) + 1) = ((j + 1 : Nat) : Int) := wrap_succ (by omega)
  simp only [fn10L2, exec, R2, runOps, wants, Mini.step, stepP, stepE, O.eff, Mini.look, nth, put, exports, bin, binInt, os1, i64, bl, asNat_nat, ob_eq, setOb_eq, hob, hlt', hlt, hle, row_ld hj, row_st _ hlt, row_len, ofCells, V.cells, e1, e2, e3, e4, e5, e6, e7,
    List.length_cons, List.length_nil, Option.map_some, if_true, if_false, decide_true, List.append_nil, List.all_nil, cond_true, Nat.zero_add, Nat.mul_one, and_self, Int.reduceEq, Bool.false_eq_true]
theorem end2 {E : Env} {N : Nat} {k n i c L : Nat} {os : V} {H : Heap} : exec E N false fn10L2 ⟨R2 k n i os c L L, H⟩ = some (.exit 2, ⟨put (R2 k n i os c L L) 16 (bl false), H⟩) := by
  simp only [fn10L2, R2, Int.lt_irrefl, exec, runOps, wants, Mini.step, stepP, stepE, O.eff, Mini.look, nth, put, exports, bin, binInt, i64, bl, Option.map_some, if_true, if_false, decide_false, List.append_nil, List.all_nil, cond_false, Bool.false_eq_true]
theorem loop2 {E : Env} {N : Nat} {k n i : Nat} {id g L : Nat} {cap : Option Nat} {hl : Nat} (hk : k ≤ 8) (hL : L < 1000) :
    ∀ (post pre : List Nat) (c : Nat) (H : Heap) (fuel : Nat), (pre ++ post).length = L → post.length < fuel → H.length ≤ hl → c < 10 → (∀ d ∈ post, d < 10) → H[id]? = some (.cells (row (pre ++ post)) g false) →
    iter (some [1, 4, 5, 10, 11, 13, 14, 15]) hl (exec E N false fn10L2) fuel ⟨R2 k n i (os1 id g L cap) c L pre.length, H⟩
      = some (.exit 2, ⟨put (R2 k n i (os1 id g L cap) (mulc k c post).2 L L) 16 (bl false), H.set id (.cells (row (pre ++ (mulc k c post).1)) g false)⟩) := by
  intro post
  induction post with
  | nil =>
    intro pre c H fuel h1 h2 h3 h4 h5 h6
    obtain ⟨f, rfl⟩ : ∃ f, fuel = f + 1 := ⟨fuel - 1, by simp at h2; omega⟩
    rw [List.append_nil] at h1 h6
    rw [iter_stop (by rw [h1]; exact end2)]
    simp only [mulc, List.append_nil]
    rw [set_same h6]
  | cons d post ih =>
    intro pre c H fuel h1 h2 h3 h4 h5 h6
    obtain ⟨f, rfl⟩ : ∃ f, fuel = f + 1 := ⟨fuel - 1, by simp at h2; omega⟩
    have hd := h5 d List.mem_cons_self
    have hm : d * k ≤ 9 * 8 := Nat.mul_le_mul (by omega) hk
    rw [iter_step (round2 h6 (d := d) (by simp) h1 hL hk h4 hd), tidy2 (by simpa using h3)]
    have hs : (pre ++ d :: post).set pre.length ((c + d * k) % 10) = (pre ++ [(c + d * k) % 10]) ++ post := by simp
    have hi : id < H.length := (List.getElem?_eq_some_iff.1 h6).1
    rw [hs, show pre.length + 1 = (pre ++ [(c + d * k) % 10]).length by simp]
    rw [ih (pre ++ [(c + d * k) % 10]) _ _ f (by simpa using h1) (by simp at h2; omega) (by simpa using h3) (by omega) (fun x hx => h5 x (List.mem_cons_of_mem _ hx)) (by simp [hi])]
    simp [mulc]
/-! ### What is carried goes behind -/
def Dig (H : Heap) (os : V) (ds : List Nat) : Prop := ∃ id g cap, os = os1 id g ds.length cap ∧ H[id]? = some (.cells (row ds) g false) ∧ (cap = none ∨ cap = some ds.length) ∧ ∀ o ∈ H, dOb o = true
def R1 (k n i : Nat) (os : V) (c : Nat) : List V := [.any, i64 k, .any, .any, os, i64 c, .any, .any, .any, .any, i64 n, i64 i, .any, .any, .any, .any, .any, .any, .any, .any, .any]
theorem end1 {E : Env} {N : Nat} {k n i : Nat} {os : V} {H : Heap} : exec E N false fn10L1 ⟨R1 k n i os 0, H⟩ = some (.exit 4, ⟨put (R1 k n i os 0) 17 (bl false), H⟩) := by
  simp only [fn10L1, R1, exec, runOps, wants, Mini.step, stepP, stepE, O.eff, Mini.look, nth, put, exports, bin, binInt, i64, bl, ob_eq, setOb_eq, Option.map_some, if_true, if_false, List.append_nil, List.all_nil, Nat.mul_one, Bool.false_eq_true]
  rfl
theorem round1a {E : Env} {N : Nat} {k n i c id g L : Nat} {ds : List Nat} {H : Heap} (hob : H[id]? = some (.cells (row ds) g false)) (hL : ds.length = L) (hb : L < 1000) (hc : c < 10) (hc0 : 0 < c) :
    exec E N false fn10L1 ⟨R1 k n i (os1 id g L (some L)) c, H⟩ = some (.nrm, ⟨put (R1 k n i (os1 (H.length + 1) 0 (L + 1) none) 0) 17 (bl true), H ++ [.cells (row [c]) 0 false] ++ [.cells (row (ds ++ [c])) 0 false]⟩) := by
  subst hL
  have hi : id < H.length := (List.getElem?_eq_some_iff.1 hob).1
  have hob' : (H ++ [Ob.cells [C.d (.int .u8 (c : Int))] 0 false])[id]? = some (.cells (row ds) g false) := by rw [List.getElem?_append_left hi]; exact hob
  have ht : (H ++ [Ob.cells [C.d (.int .u8 (c : Int))] 0 false])[H.length]? = some (.cells [C.d (.int .u8 (c : Int))] 0 false) := by simp
  have e4 : (c : Int).tmod 10 = (c : Int) := by rw [show (10 : Int) = ((10 : Nat) : Int) from rfl, ← Int.ofNat_tmod, Nat.mod_eq_of_lt hc]
  have e5 : IntKind.i64.wrap ((c : Int).tdiv 10) = ((0 : Nat) : Int) := i64_id (by rw [show (10 : Int) = ((10 : Nat) : Int) from rfl, ← Int.ofNat_tdiv, Nat.div_eq_of_lt hc]) (by omega)
  have e6 : IntKind.u8.wrap (c : Int) = (c : Int) := u8_id (by omega)
  have e7 : (c : Int) > 0 := by omega
  have e8 : ¬ (ds.length + 1 ≤ ds.length) := by omega
  have e9 : ds.length + 1 ≤ 1073741824 := by omega
  simp only [fn10L1, R1, os1, e4, e5, e6, e7, rep, lay, splice, elems, hob', ht, e8, e9, row_len, row_take, row_app, row_one, List.map_cons, List.map_nil, List.take_zero, List.drop_zero, List.take_succ_cons, List.drop_succ_cons, List.nil_append, List.length_append, List.take_nil, List.drop_nil, Nat.le_refl, exec, runOps, wants, Mini.step, stepP, stepE, O.eff, Mini.look, nth, put, exports, bin, binInt, i64, bl, ob_eq, setOb_eq, V.cells, List.length_cons, List.length_nil, Option.map_some, if_true, if_false, decide_true, List.append_nil, List.all_nil, cond_true, Nat.zero_add, Nat.mul_one, and_self, reduceCtorEq, Int.reduceEq, Bool.false_eq_true, and_true]
theorem round1b {E : Env} {N : Nat} {k n i c id g L : Nat} {ds : List Nat} {H : Heap} (hob : H[id]? = some (.cells (row ds) g false)) (hL : ds.length = L) (hb : L < 1000) (hc : c < 10) (hc0 : 0 < c) :
    exec E N false fn10L1 ⟨R1 k n i (os1 id g L none) c, H⟩ = some (.nrm, ⟨put (R1 k n i (os1 id (g + 1) (L + 1) none) 0) 17 (bl true), (H ++ [Ob.cells (row [c]) 0 false]).set id (.cells (row (ds ++ [c])) (g + 1) false)⟩) := by
  subst hL
  have hi : id < H.length := (List.getElem?_eq_some_iff.1 hob).1
  have hob' : (H ++ [Ob.cells [C.d (.int .u8 (c : Int))] 0 false])[id]? = some (.cells (row ds) g false) := by rw [List.getElem?_append_left hi]; exact hob
  have ht : (H ++ [Ob.cells [C.d (.int .u8 (c : Int))] 0 false])[H.length]? = some (.cells [C.d (.int .u8 (c : Int))] 0 false) := by simp
  have e4 : (c : Int).tmod 10 = (c : Int) := by rw [show (10 : Int) = ((10 : Nat) : Int) from rfl, ← Int.ofNat_tmod, Nat.mod_eq_of_lt hc]
  have e5 : IntKind.i64.wrap ((c : Int).tdiv 10) = ((0 : Nat) : Int) := i64_id (by rw [show (10 : Int) = ((10 : Nat) : Int) from rfl, ← Int.ofNat_tdiv, Nat.div_eq_of_lt hc]) (by omega)
  have e6 : IntKind.u8.wrap (c : Int) = (c : Int) := u8_id (by omega)
  have e7 : (c : Int) > 0 := by omega
  have e9 : ds.length + 1 ≤ 1073741824 := by omega
  simp only [fn10L1, R1, os1, e4, e5, e6, e7, rep, lay, splice, elems, hob', ht, e9, row_len, row_take, row_app, row_one, List.map_cons, List.map_nil, List.take_zero, List.drop_zero, List.take_succ_cons, List.drop_succ_cons, List.nil_append, List.take_nil, List.drop_nil, Nat.le_refl, exec, runOps, wants, Mini.step, stepP, stepE, O.eff, Mini.look, nth, put, exports, bin, binInt, i64, bl, ob_eq, setOb_eq, V.cells, List.length_cons, List.length_nil, Option.map_some, if_true, if_false, decide_true, List.append_nil, List.all_nil, cond_true, Nat.zero_add, Nat.mul_one, and_self, reduceCtorEq, Int.reduceEq, Bool.false_eq_true, and_true]
theorem tidy1 {k n i c : Nat} {os a : V} {H : Heap} {hl : Nat} : tidy hl (some [1, 4, 5, 10, 11]) ⟨put (R1 k n i os c) 17 a, H⟩ = gc hl ⟨R1 k n i os c, H⟩ := rfl
theorem mem_app {H : Heap} {cs : List Nat} (h : ∀ o ∈ H, dOb o = true) : ∀ o ∈ H ++ [Ob.cells (row cs) 0 false], dOb o = true := fun o ho => by
  rcases List.mem_append.1 ho with h' | h'
  · exact h o h'
  · rw [List.mem_singleton] at h'; subst h'; exact row_d cs
theorem loop1 {E : Env} {N f : Nat} {k n i c : Nat} {os : V} {ds : List Nat} {H : Heap} (hD : Dig H os ds) (hb : ds.length < 1000) (hc : c < 10) :
    ∃ os' H', iter (some [1, 4, 5, 10, 11]) H.length (exec E N false fn10L1) (f + 2) ⟨R1 k n i os c, H⟩ = some (.exit 4, ⟨put (R1 k n i os' 0) 17 (bl false), H'⟩) ∧ Dig H' os' (ds ++ if c = 0 then [] else [c]) := by
  by_cases h0 : c = 0
  · subst h0
    exact ⟨os, H, iter_stop end1, by simpa using hD⟩
  rw [if_neg h0]
  obtain ⟨id, g, cap, rfl, hob, hcap, hd⟩ := hD
  have hi : id < H.length := (List.getElem?_eq_some_iff.1 hob).1
  rcases hcap with rfl | rfl
  · rw [iter_step (round1b hob rfl hb hc (by omega)), tidy1]
    have hg : gc H.length ⟨R1 k n i (os1 id (g + 1) (ds.length + 1) none) 0, (H ++ [Ob.cells (row [c]) 0 false]).set id (.cells (row (ds ++ [c])) (g + 1) false)⟩ = ⟨R1 k n i (os1 id (g + 1) (ds.length + 1) none) 0, H.set id (.cells (row (ds ++ [c])) (g + 1) false)⟩ := by
      have ht : ((H ++ [Ob.cells (row [c]) 0 false]).set id (.cells (row (ds ++ [c])) (g + 1) false)).take H.length = H.set id (.cells (row (ds ++ [c])) (g + 1) false) := by
        rw [List.set_append_left _ _ hi, List.take_left' (by simp)]
      rw [gc_yes, ht]
      · simp [R1, os1, i64, V.under, C.under, hi]
      · rw [ht]
        rw [List.all_eq_true]
        exact fun o ho => dOb_under _ o (mem_set hd (dOb_row _ _ _) o ho)
    rw [hg, iter_stop end1]
    exact ⟨_, _, rfl, id, g + 1, none, by simp, by simp [hi], Or.inl rfl, mem_set hd (dOb_row _ _ _)⟩
  · rw [iter_step (round1a hob rfl hb hc (by omega)), tidy1]
    rw [gc_no (by simp [R1, os1, i64, V.under, C.under]), iter_stop end1]
    refine ⟨_, _, rfl, H.length + 1, 0, none, by simp, ?_, Or.inl rfl, mem_app (mem_app hd)⟩
    rw [List.getElem?_append_right (by simp)]
    simp
/-! ### One certificate more -/
def nextD (k : Nat) (ds : List Nat) : List Nat := (mulc k 1 ds).1 ++ if (mulc k 1 ds).2 = 0 then [] else [(mulc k 1 ds).2]
def R3 (k n i : Nat) (os : V) : List V := [.any, i64 k, .any, .any, os, .any, .any, .any, .any, .any, i64 n, i64 i, .any, .any, .any, .any, .any, .any, .any, .any, .any]
theorem dig_set {H : Heap} {id g : Nat} {cap : Option Nat} {ds ds' : List Nat} (h1 : H[id]? = some (.cells (row ds) g false)) (h2 : cap = none ∨ cap = some ds.length) (h3 : ∀ o ∈ H, dOb o = true) (hl : ds'.length = ds.length) :
    Dig (H.set id (.cells (row ds') g false)) (os1 id g ds.length cap) ds' := by
  have hi : id < H.length := (List.getElem?_eq_some_iff.1 h1).1
  exact ⟨id, g, cap, by rw [hl], by simp [hi], by rw [hl]; exact h2, mem_set h3 (dOb_row _ _ _)⟩
theorem dig_gc {H : Heap} {os : V} {ds : List Nat} (hD : Dig H os ds) (hl : Nat) (regs : V → List V) (hr : ∀ id g L cap, (regs (os1 id g L cap)).all (V.under hl) = decide (id < hl)) :
    ∃ H', gc hl ⟨regs os, H⟩ = ⟨regs os, H'⟩ ∧ Dig H' os ds := by
  obtain ⟨id, g, cap, rfl, hob, hcap, hd⟩ := hD
  by_cases hi : id < hl
  · refine ⟨H.take hl, gc_yes (by rw [hr]; exact decide_eq_true hi) (heap_under hl hl hd), id, g, cap, rfl, ?_, hcap, fun o ho => hd o (List.mem_of_mem_take ho)⟩
    rw [List.getElem?_take_of_lt hi]; exact hob
  · exact ⟨H, gc_no (by rw [hr]; exact decide_eq_false hi), id, g, cap, rfl, hob, hcap, hd⟩
theorem nextD_lt {k : Nat} (hk : k ≤ 8) {ds : List Nat} (h : ∀ d ∈ ds, d < 10) : ∀ d ∈ nextD k ds, d < 10 := fun d hd => by
  have := mulc_lt hk 1 ds (by omega) h
  rcases List.mem_append.1 hd with h' | h'
  · exact this.1 d h'
  · split at h'
    · cases h'
    · rw [List.mem_singleton] at h'; rw [h']; exact this.2
theorem nextD_len (k : Nat) (ds : List Nat) : (nextD k ds).length ≤ ds.length + 1 := by
  unfold nextD
  rw [List.length_append, mulc_len]
  split <;> simp
theorem round3 {E : Env} {N : Nat} {k n i hl : Nat} {os : V} {ds : List Nat} {H : Heap} (hN : 1000 ≤ N) (hD : Dig H os ds) (hb : ds.length < 998) (hk : k ≤ 8) (hds : ∀ d ∈ ds, d < 10) (hin : i < n) (hn : n < 1000) :
    ∃ os' s' H', exec E N false fn10L3 ⟨R3 k n i os, H⟩ = some (.nrm, s') ∧ tidy hl (some [1, 4, 10, 11]) s' = ⟨R3 k n (i + 1) os', H'⟩ ∧ Dig H' os' (nextD k ds) := by
  obtain ⟨id, g, cap, rfl, hob, hcap, hd⟩ := hD
  have hi : id < H.length := (List.getElem?_eq_some_iff.1 hob).1
  have h2 := loop2 (E := E) (N := N) (k := k) (n := n) (i := i) (id := id) (g := g) (cap := cap) (hl := H.length) hk (by omega : ds.length < 1000) ds [] 1 H N (by simp) (by omega) (Nat.le_refl _) (by omega) hds hob
  have hm := mulc_lt hk 1 ds (by omega) hds
  obtain ⟨f, rfl⟩ : ∃ f, N = f + 2 := ⟨N - 2, by omega⟩
  obtain ⟨os', H', h1, hD'⟩ := loop1 (E := E) (N := f + 2) (f := f) (k := k) (n := n) (i := i) (c := (mulc k 1 ds).2) (dig_set hob hcap hd (mulc_len k 1 ds)) (by rw [mulc_len]; omega) hm.2
  obtain ⟨H'', hg, hD''⟩ := dig_gc hD' hl (fun os => R3 k n (i + 1) os) (fun _ _ _ _ => by simp [R3, os1, i64, V.under, C.under])
  have hlen : (H.set id (.cells (row (mulc k 1 ds).1) g false)).length = H.length := by simp
  have hlt : (i : Int) < (n : Int) := by exact_mod_cast hin
  have e7 : IntKind.i64.wrap ((i : Int) + 1) = ((i + 1 : Nat) : Int) := wrap_succ (by omega)
  have t1 : ∀ a b, tidy H.length (some [1, 4, 5, 10, 11, 13, 14, 15]) ⟨[.any, i64 k, .any, .any, os1 id g ds.length cap, i64 (1 : Nat), .any, .any, .any, .any, i64 n, i64 i, a, os1 id g ds.length cap, i64 ds.length, i64 (0 : Nat), b, .any, .any, .any, .any], H⟩ = ⟨R2 k n i (os1 id g ds.length cap) 1 ds.length 0, H⟩ := fun a b =>
    (show _ = gc H.length ⟨R2 k n i (os1 id g ds.length cap) 1 ds.length 0, H⟩ from rfl).trans (gc_le (Nat.le_refl _))
  refine ⟨os', ⟨[.any, i64 k, .any, .any, os', i64 (0 : Nat), .any, .any, .any, .any, i64 n, i64 (i + 1 : Nat), .any, .any, .any, .any, .any, bl false, .any, .any, .any], H'⟩, H'', ?_, hg, hD''⟩
  rw [List.length_nil] at h2
  rw [hlen] at h1
  have t2 : ∀ c a b j, tidy H.length (some [1, 4, 5, 10, 11]) ⟨[.any, i64 k, .any, .any, os1 id g ds.length cap, i64 (c : Nat), .any, .any, .any, .any, i64 n, i64 i, .any, os1 id g ds.length cap, a, j, b, .any, .any, .any, .any], H.set id (.cells (row (mulc k 1 ds).1) g false)⟩ = ⟨R1 k n i (os1 id g ds.length cap) c, H.set id (.cells (row (mulc k 1 ds).1) g false)⟩ := fun c a b j =>
    (show _ = gc H.length ⟨R1 k n i (os1 id g ds.length cap) c, H.set id (.cells (row (mulc k 1 ds).1) g false)⟩ from rfl).trans (gc_le (by simp))
  simp only [R2, R1, os1, i64, bl, put, List.nil_append, Int.ofNat_zero, Int.ofNat_one] at h1 h2 t1 t2
  simp only [fn10L3, R3, os1, hlt, e7, t1, h2, t2, hlen, h1, freshen, Int.ofNat_zero, exec, runOps, wants, Mini.step, stepP, stepE, O.eff, Mini.look, nth, put, exports, bin, binInt, i64, bl, Option.map_some, if_true, if_false, decide_true, List.append_nil, List.all_nil, cond_true, Int.ofNat_eq_natCast, Bool.false_eq_true]
def tree (k : Nat) : Nat → List Nat
  | 0 => [1]
  | n + 1 => nextD k (tree k n)
theorem tree_lt {k : Nat} (hk : k ≤ 8) : ∀ n, ∀ d ∈ tree k n, d < 10
  | 0 => by simp [tree]
  | n + 1 => nextD_lt hk (tree_lt hk n)
theorem tree_len (k : Nat) : ∀ n, (tree k n).length ≤ n + 1
  | 0 => by simp [tree]
  | n + 1 => Nat.le_trans (nextD_len k _) (Nat.succ_le_succ (tree_len k n))
theorem end3 {E : Env} {N : Nat} {k n : Nat} {os : V} {H : Heap} : exec E N false fn10L3 ⟨R3 k n n os, H⟩ = some (.exit 0, ⟨put (R3 k n n os) 12 (bl false), H⟩) := by
  simp only [fn10L3, R3, Int.lt_irrefl, exec, runOps, wants, Mini.step, stepP, stepE, O.eff, Mini.look, nth, put, exports, bin, binInt, i64, bl, Option.map_some, if_true, if_false, decide_false, List.append_nil, List.all_nil, cond_false, Bool.false_eq_true]
theorem loop3 {E : Env} {N k n hl : Nat} (hN : 1000 ≤ N) (hk : k ≤ 8) (hn : n ≤ 64) : ∀ (m i : Nat) (os : V) (H : Heap) (fuel : Nat), i + m = n → m < fuel → Dig H os (tree k i) →
    ∃ os' H', iter (some [1, 4, 10, 11]) hl (exec E N false fn10L3) fuel ⟨R3 k n i os, H⟩ = some (.exit 0, ⟨put (R3 k n n os') 12 (bl false), H'⟩) ∧ Dig H' os' (tree k n) := by
  intro m
  induction m with
  | zero =>
    intro i os H fuel h1 h2 h3
    obtain ⟨f, rfl⟩ : ∃ f, fuel = f + 1 := ⟨fuel - 1, by omega⟩
    obtain rfl : i = n := by omega
    exact ⟨os, H, iter_stop end3, h3⟩
  | succ m ih =>
    intro i os H fuel h1 h2 h3
    obtain ⟨f, rfl⟩ : ∃ f, fuel = f + 1 := ⟨fuel - 1, by omega⟩
    have hlen := tree_len k i
    obtain ⟨os', s', H', h4, h5, h6⟩ := round3 (E := E) (n := n) (i := i) (hl := hl) hN h3 (by omega) hk (tree_lt hk i) (by omega) (by omega)
    rw [iter_step h4, h5]
    exact ih (i + 1) os' H' f (by omega) (by omega) h6

/-! ### Turned round -/
theorem row_ld' {ds : List Nat} {i : Nat} (h : i < ds.length) : ((row ds).drop i).take 1 = [.d (.int .u8 ((ds[i] : Nat) : Int))] := row_ld (List.getElem?_eq_getElem h)
def R31 (os : V) (j i : Int) : List V := [os, i64 i, i64 j, .any]
/-- The middle is turned round. -/
theorem loop31 {E : Env} {N id g L : Nat} {cap : Option Nat} {hl : Nat} (hL : L < 1000) : ∀ (m : Nat) (mid pre post : List Nat) (H : Heap) (fuel : Nat), mid.length ≤ m → m < fuel → H.length ≤ hl → (pre ++ mid ++ post).length = L → H[id]? = some (.cells (row (pre ++ mid ++ post)) g false) →
    ∃ r, iter (some [0, 1, 2]) hl (exec E N false fn31L0) fuel ⟨R31 (os1 id g L cap) ((pre.length : Int) + mid.length - 1) pre.length, H⟩ = some (.exit 0, ⟨r, H.set id (.cells (row (pre ++ mid.reverse ++ post)) g false)⟩) := by
  intro m
  induction m with
  | zero =>
    intro mid pre post H fuel h1 h2 h3 h4 h5
    obtain ⟨f, rfl⟩ : ∃ f, fuel = f + 1 := ⟨fuel - 1, by omega⟩
    obtain rfl : mid = [] := List.length_eq_zero_iff.1 (by omega)
    refine ⟨put (R31 (os1 id g L cap) ((pre.length : Int) + 0 - 1) pre.length) 3 (bl false), iter_stop ?_⟩
    have e : ¬ ((pre.length : Int) < (pre.length : Int) + 0 - 1) := by omega
    rw [List.reverse_nil, set_same h5, List.length_nil, Int.ofNat_zero]
    simp only [fn31L0, R31, e, exec, runOps, wants, Mini.step, stepP, stepE, O.eff, Mini.look, nth, put, exports, bin, binInt, i64, bl, Option.map_some, if_true, if_false, decide_false, List.append_nil, List.all_nil, cond_false, Bool.false_eq_true]
  | succ m ih =>
    intro mid pre post H fuel h1 h2 h3 h4 h5
    obtain ⟨f, rfl⟩ : ∃ f, fuel = f + 1 := ⟨fuel - 1, by omega⟩
    match mid, h1, h4, h5 with
    | [], _, h4, h5 =>
      refine ⟨put (R31 (os1 id g L cap) ((pre.length : Int) + 0 - 1) pre.length) 3 (bl false), iter_stop ?_⟩
      have e : ¬ ((pre.length : Int) < (pre.length : Int) + 0 - 1) := by omega
      rw [List.reverse_nil, set_same h5, List.length_nil, Int.ofNat_zero]
      simp only [fn31L0, R31, e, exec, runOps, wants, Mini.step, stepP, stepE, O.eff, Mini.look, nth, put, exports, bin, binInt, i64, bl, Option.map_some, if_true, if_false, decide_false, List.append_nil, List.all_nil, cond_false, Bool.false_eq_true]
    | [x], _, h4, h5 =>
      refine ⟨put (R31 (os1 id g L cap) ((pre.length : Int) + 1 - 1) pre.length) 3 (bl false), iter_stop ?_⟩
      have e : ¬ ((pre.length : Int) < (pre.length : Int) + 1 - 1) := by omega
      rw [List.reverse_singleton, set_same h5, List.length_singleton, Int.ofNat_one]
      simp only [fn31L0, R31, e, exec, runOps, wants, Mini.step, stepP, stepE, O.eff, Mini.look, nth, put, exports, bin, binInt, i64, bl, Option.map_some, if_true, if_false, decide_false, List.append_nil, List.all_nil, cond_false, Bool.false_eq_true]
    | x :: z :: rest, h1, h4, h5 =>
      obtain ⟨mid, y, hmid⟩ : ∃ mid y, z :: rest = mid ++ [y] := ⟨(z :: rest).dropLast, (z :: rest).getLast (by simp), (List.dropLast_concat_getLast (by simp)).symm⟩
      rw [hmid] at h1 h4 h5 ⊢
      clear hmid z rest
      have hi : id < H.length := (List.getElem?_eq_some_iff.1 h5).1
      have ej : (pre.length : Int) + ((x :: (mid ++ [y])).length : Int) - 1 = ((pre.length + 1 + mid.length : Nat) : Int) := by simp; omega
      have eL : pre.length + 1 + mid.length + 1 + post.length = L := by rw [← h4]; simp; omega
      have a1 : (pre ++ x :: (mid ++ [y]) ++ post)[pre.length]? = some x := by simp
      have a2 : (pre ++ x :: (mid ++ [y]) ++ post)[pre.length + 1 + mid.length]? = some y := by
        rw [show pre ++ x :: (mid ++ [y]) ++ post = (pre ++ x :: mid) ++ (y :: post) by simp, List.getElem?_append_right (by simp; omega)]
        simp [show pre.length + 1 + mid.length - (pre.length + (mid.length + 1)) = 0 by omega]
      have b1 : (pre ++ x :: (mid ++ [y]) ++ post).set pre.length y = pre ++ y :: (mid ++ [y]) ++ post := by simp
      have b2 : (pre ++ y :: (mid ++ [y]) ++ post).set (pre.length + 1 + mid.length) x = (pre ++ [y]) ++ mid ++ (x :: post) := by
        rw [show pre ++ y :: (mid ++ [y]) ++ post = (pre ++ y :: mid) ++ (y :: post) by simp, List.set_append_right _ _ (by simp; omega)]
        simp [show pre.length + 1 + mid.length - (pre.length + (mid.length + 1)) = 0 by omega]
      have c1 : pre.length < (pre ++ x :: (mid ++ [y]) ++ post).length := by rw [h4]; omega
      have c2 : pre.length + 1 + mid.length < (pre ++ y :: (mid ++ [y]) ++ post).length := by simp; omega
      have l1 : (pre ++ y :: (mid ++ [y]) ++ post).length = L := by rw [← h4]; simp
      have e1 : (pre.length : Int) < ((pre.length + 1 + mid.length : Nat) : Int) := by omega
      have e2 : IntKind.i64.wrap ((pre.length : Int) + 1) = ((pre.length + 1 : Nat) : Int) := wrap_succ (by omega)
      have e3 : IntKind.i64.wrap (((pre.length + 1 + mid.length : Nat) : Int) - 1) = ((pre.length + mid.length : Nat) : Int) := i64_id (by omega) (by omega)
      have e4 : pre.length < L := by omega
      have e5 : pre.length + 1 + mid.length < L := by omega
      have e6 : pre.length + 1 ≤ L := by omega
      have e7 : pre.length + 1 + mid.length + 1 ≤ L := by omega
      have hr : exec E N false fn31L0 ⟨R31 (os1 id g L cap) ((pre.length + 1 + mid.length : Nat) : Int) pre.length, H⟩ = some (.nrm, ⟨[os1 id g L cap, i64 (pre.length + 1 : Nat), i64 (pre.length + mid.length : Nat), bl true], H.set id (.cells (row ((pre ++ [y]) ++ mid ++ (x :: post))) g false)⟩) := by
        have f1 : (H.set id (.cells (row (pre ++ y :: (mid ++ [y]) ++ post)) g false))[id]? = some (.cells (row (pre ++ y :: (mid ++ [y]) ++ post)) g false) := by simp [hi]
        simp only [fn31L0, R31, os1, e1, e2, e3, e4, e5, e6, e7, h5, row_ld a1, row_ld a2, row_st _ c1, row_st _ c2, b1, b2, row_len, h4, l1, f1, List.set_set, apart, exec, runOps, wants, Mini.step, stepP, stepE, O.eff, Mini.look, nth, put, exports, bin, binInt, i64, bl, asNat_nat, ob_eq, setOb_eq, ofCells, V.cells, List.length_cons, List.length_nil, Option.map_some, if_true, if_false, decide_true, List.append_nil, List.all_nil, cond_true, Nat.zero_add, Nat.mul_one, and_self, Bool.false_eq_true]
      rw [ej, iter_step hr]
      have ht : tidy hl (some [0, 1, 2]) ⟨[os1 id g L cap, i64 (pre.length + 1 : Nat), i64 (pre.length + mid.length : Nat), bl true], H.set id (.cells (row ((pre ++ [y]) ++ mid ++ (x :: post))) g false)⟩ = ⟨R31 (os1 id g L cap) (((pre ++ [y]).length : Int) + mid.length - 1) ((pre ++ [y]).length : Nat), H.set id (.cells (row ((pre ++ [y]) ++ mid ++ (x :: post))) g false)⟩ := by
        rw [show (((pre ++ [y]).length : Int) + mid.length - 1) = ((pre.length + mid.length : Nat) : Int) by simp; omega, show (pre ++ [y]).length = pre.length + 1 by simp]
        exact (show _ = gc hl ⟨R31 (os1 id g L cap) ((pre.length + mid.length : Nat) : Int) ((pre.length + 1 : Nat) : Int), H.set id (.cells (row ((pre ++ [y]) ++ mid ++ (x :: post))) g false)⟩ from rfl).trans (gc_le (by simpa using h3))
      obtain ⟨r, hr'⟩ := ih mid (pre ++ [y]) (x :: post) (H.set id (.cells (row ((pre ++ [y]) ++ mid ++ (x :: post))) g false)) f (by simp at h1; omega) (by omega) (by simpa using h3) (by rw [← h4]; simp <;> omega) (by simp [hi])
      refine ⟨r, ?_⟩
      rw [ht, hr', List.set_set]
      simp
theorem fn31_ok {X : Ctx} (hX : X.fns 31 = some fn31) {N id g : Nat} {cap : Option Nat} {ds : List Nat} {H : Heap} (hN : 1000 ≤ N) (hL : ds.length < 1000) (hob : H[id]? = some (.cells (row ds) g false)) :
    callN X (N + 1) (.d (.fn 31 [] [])) [os1 id g ds.length cap] H = some (.tup [], H.set id (.cells (row ds.reverse) g false)) := by
  obtain ⟨r, hr⟩ := loop31 (E := zenv X N) (N := N) (id := id) (g := g) (L := ds.length) (cap := cap) (hl := H.length) hL ds.length ds [] [] H N (Nat.le_refl _) (by omega) (Nat.le_refl _) (by simp) (by simpa using hob)
  have e1 : IntKind.i64.wrap ((ds.length : Int) - 1) = (ds.length : Int) - 1 := by
    simp only [IntKind.wrap, IntKind.bits, IntKind.signed]
    simp
    omega
  have t : tidy H.length (some [0, 1, 2]) ⟨[os1 id g ds.length cap, i64 (0 : Nat), i64 ((ds.length : Int) - 1), .any], H⟩ = ⟨R31 (os1 id g ds.length cap) ((0 : Int) + ds.length - 1) (0 : Nat), H⟩ := by
    rw [Int.zero_add]
    exact (show _ = gc H.length ⟨R31 (os1 id g ds.length cap) ((ds.length : Int) - 1) (0 : Nat), H⟩ from rfl).trans (gc_le (Nat.le_refl _))
  simp only [List.length_nil, Int.ofNat_zero, R31, os1, i64, List.nil_append, List.append_nil, Int.zero_add] at hr t
  rw [fn31_is] at hX
  rw [callN_fn hX]
  simp only [fn31', runFn, pad, List.replicate, Nat.reduceSub, List.cons_append, List.nil_append, os1, e1, t, hr, results, mapO, exec, runOps, wants, Mini.step, stepP, stepE, O.eff, Mini.look, nth, put, exports, bin, binInt, List.length_cons, List.length_nil, Option.map_some, if_true, if_false, List.append_nil, List.all_nil, Nat.zero_add, Int.ofNat_eq_natCast, Bool.false_eq_true]

/-! ### Digits become letters -/
def R0 (os : V) (L j : Nat) : List V := [.any, .any, .any, .any, os, .any, .any, .any, .any, .any, .any, .any, .any, .any, .any, .any, .any, .any, i64 L, i64 j, .any]
theorem round0 {E : Env} {N d j : Nat} {id g : Nat} {cap : Option Nat} {ds : List Nat} {H : Heap} (hob : H[id]? = some (.cells (row ds) g false)) (hj : ds[j]? = some d) {L : Nat} (hL : ds.length = L) (hb : L < 1000) (hd : d < 10) :
    exec E N false fn10L0 ⟨R0 (os1 id g L cap) L j, H⟩ = some (.nrm, ⟨put (put (R0 (os1 id g L cap) L (j + 1)) 8 (i64 j)) 20 (bl true), H.set id (.cells (row (ds.set j (d + 48))) g false)⟩) := by
  subst hL
  have hlt : j < ds.length := (List.getElem?_eq_some_iff.1 hj).1
  have hlt' : (j : Int) < (ds.length : Int) := by exact_mod_cast hlt
  have hle : j + 1 ≤ ds.length := hlt
  have e6 : IntKind.u8.wrap ((d : Int) + 48) = ((d + 48 : Nat) : Int) := (u8_id (n := d + 48) (by omega)) ▸ rfl
  have e7 : IntKind.i64.wrap ((j : Int) + 1) = ((j + 1 : Nat) : Int) := wrap_succ (by omega)
  simp only [fn10L0, R0, os1, hob, hlt', hlt, hle, row_ld hj, row_st _ hlt, row_len, e6, e7, exec, runOps, wants, Mini.step, stepP, stepE, O.eff, Mini.look, nth, put, exports, bin, binInt, i64, bl, asNat_nat, ob_eq, setOb_eq, ofCells, V.cells, List.length_cons, List.length_nil, Option.map_some, if_true, if_false, decide_true, List.append_nil, List.all_nil, cond_true, Nat.zero_add, Nat.mul_one, and_self, Bool.false_eq_true]
theorem end0 {E : Env} {N L : Nat} {os : V} {H : Heap} : exec E N false fn10L0 ⟨R0 os L L, H⟩ = some (.exit 6, ⟨put (R0 os L L) 20 (bl false), H⟩) := by
  simp only [fn10L0, R0, Int.lt_irrefl, exec, runOps, wants, Mini.step, stepP, stepE, O.eff, Mini.look, nth, put, exports, bin, binInt, i64, bl, Option.map_some, if_true, if_false, decide_false, List.append_nil, List.all_nil, cond_false, Bool.false_eq_true]
theorem loop0 {E : Env} {N id g L hl : Nat} {cap : Option Nat} (hL : L < 1000) : ∀ (post pre : List Nat) (H : Heap) (fuel : Nat), (pre ++ post).length = L → post.length < fuel → H.length ≤ hl → (∀ d ∈ post, d < 10) → H[id]? = some (.cells (row (pre ++ post)) g false) →
    iter (some [4, 18, 19]) hl (exec E N false fn10L0) fuel ⟨R0 (os1 id g L cap) L pre.length, H⟩ = some (.exit 6, ⟨put (R0 (os1 id g L cap) L L) 20 (bl false), H.set id (.cells (row (pre ++ post.map (· + 48))) g false)⟩) := by
  intro post
  induction post with
  | nil =>
    intro pre H fuel h1 h2 h3 h5 h6
    obtain ⟨f, rfl⟩ : ∃ f, fuel = f + 1 := ⟨fuel - 1, by simp at h2; omega⟩
    rw [List.append_nil] at h1 h6
    rw [iter_stop (by rw [h1]; exact end0)]
    simp only [List.map_nil, List.append_nil]
    rw [set_same h6]
  | cons d post ih =>
    intro pre H fuel h1 h2 h3 h5 h6
    obtain ⟨f, rfl⟩ : ∃ f, fuel = f + 1 := ⟨fuel - 1, by simp at h2; omega⟩
    have hd := h5 d List.mem_cons_self
    have hi : id < H.length := (List.getElem?_eq_some_iff.1 h6).1
    have hs : (pre ++ d :: post).set pre.length (d + 48) = (pre ++ [d + 48]) ++ post := by simp
    rw [iter_step (round0 h6 (d := d) (by simp) h1 hL hd), hs, show pre.length + 1 = (pre ++ [d + 48]).length by simp]
    have t : tidy hl (some [4, 18, 19]) ⟨put (put (R0 (os1 id g L cap) L (pre ++ [d + 48]).length) 8 (i64 pre.length)) 20 (bl true), H.set id (.cells (row ((pre ++ [d + 48]) ++ post)) g false)⟩ = ⟨R0 (os1 id g L cap) L (pre ++ [d + 48]).length, H.set id (.cells (row ((pre ++ [d + 48]) ++ post)) g false)⟩ :=
      (show _ = gc hl ⟨R0 (os1 id g L cap) L (pre ++ [d + 48]).length, H.set id (.cells (row ((pre ++ [d + 48]) ++ post)) g false)⟩ from rfl).trans (gc_le (by simpa using h3))
    rw [t, ih (pre ++ [d + 48]) _ f (by simpa using h1) (by simp at h2; omega) (by simpa using h3) (fun x hx => h5 x (List.mem_cons_of_mem _ hx)) (by simp [hi]), List.set_set]
    simp
/-! ### WideTree -/
def treeS (k n : Nat) : List Nat := (tree k n).reverse.map (· + 48)
theorem fn10_in {X : Ctx} (hX : X.fns 10 = some fn10) (hX31 : X.fns 31 = some fn31) (h27 : ∀ v lo hi, X.prim 27 [.c (.d (.int .i64 v)), .c (.d (.int .i64 lo)), .c (.d (.int .i64 hi))] = some (.c (.d (.bool (decide (v ≥ lo) && decide (v ≤ hi))))))
    {N n k : Nat} (hN : 1000 ≤ N) (h1 : 1 ≤ n) (h2 : n ≤ 64) (h3 : 1 ≤ k) (h4 : k ≤ 8) :
    vcallN X (N + 2) 10 [i64 n, i64 k] = some (.tup [.c (.d (.str (treeS k n))), i64 0]) := by
  obtain ⟨os, H, hr, hD⟩ := loop3 (E := zenv X (N + 1)) (N := N + 1) (k := k) (n := n) (hl := 1) (by omega) h4 h2 n 0 (os1 0 0 1 (some 1)) [.cells (row [1]) 0 false] (N + 1) (by omega) (by omega) ⟨0, 0, some 1, rfl, rfl, Or.inr rfl, fun o ho => by rw [List.mem_singleton] at ho; subst ho; rfl⟩
  obtain ⟨id, g, cap, rfl, hob, hcap, hd⟩ := hD
  have hlen := tree_len k n
  have hi : id < H.length := (List.getElem?_eq_some_iff.1 hob).1
  have h31 := fn31_ok hX31 (N := N) hN (by omega) hob (cap := cap)
  have hob' : (H.set id (.cells (row (tree k n).reverse) g false))[id]? = some (.cells (row (tree k n).reverse) g false) := by simp [hi]
  have h0 := loop0 (E := zenv X (N + 1)) (N := N + 1) (id := id) (g := g) (L := (tree k n).length) (hl := H.length) (cap := cap) (by omega) (tree k n).reverse [] (H.set id (.cells (row (tree k n).reverse) g false)) (N + 1) (by simp) (by simp; omega) (by simp) (fun d hd' => tree_lt h4 n d (List.mem_reverse.1 hd')) hob'
  have e1 : (n : Int) ≥ 1 := by omega
  have e2 : (n : Int) ≤ 64 := by omega
  have e3 : (k : Int) ≥ 1 := by omega
  have e4 : (k : Int) ≤ 8 := by omega
  have hv := fun v lo hi => zenv_prim (n := N + 1) (h27 v lo hi)
  have t3 : ∀ a, tidy 1 (some [1, 4, 10, 11]) ⟨[i64 n, i64 k, .c (.d (.str [])), i64 (0 : Nat), os1 0 0 1 (some 1), .any, .any, .any, .any, a, i64 n, i64 (0 : Nat), .any, .any, .any, .any, .any, .any, .any, .any, .any], [.cells (row [1]) 0 false]⟩ = ⟨R3 k n 0 (os1 0 0 1 (some 1)), [.cells (row [1]) 0 false]⟩ := fun a =>
    (show _ = gc 1 ⟨R3 k n 0 (os1 0 0 1 (some 1)), [.cells (row [1]) 0 false]⟩ from rfl).trans (gc_le (Nat.le_refl _))
  have t0 : ∀ H' : Heap, H'.length = H.length → tidy H.length (some [4, 18, 19]) ⟨[.any, i64 k, .any, .any, os1 id g (tree k n).length cap, .any, .any, .any, .any, .any, i64 n, i64 n, bl false, .any, .any, .any, .any, .any, i64 (tree k n).length, i64 (0 : Nat), .any], H'⟩ = ⟨R0 (os1 id g (tree k n).length cap) (tree k n).length 0, H'⟩ := fun H' hH =>
    (show _ = gc H.length ⟨R0 (os1 id g (tree k n).length cap) (tree k n).length 0, H'⟩ from rfl).trans (gc_le (Nat.le_of_eq hH))
  have t0 := t0 (H.set id (.cells (row (tree k n).reverse) g false)) (by simp)
  have hb : bytesOf (row (treeS k n)) = some (treeS k n) := row_bytes _ fun d hd' => by
    simp only [treeS, List.mem_map] at hd'
    obtain ⟨x, hx, rfl⟩ := hd'
    have := tree_lt h4 n x (List.mem_reverse.1 hx)
    omega
  have hT : (row (treeS k n)).take (tree k n).length = row (treeS k n) := by
    rw [List.take_of_length_le (by rw [row_len]; simp [treeS])]
  have hT' : (tree k n).length ≤ (row (treeS k n)).length := by rw [row_len]; simp [treeS]
  have hob2 : ((H.set id (.cells (row (tree k n).reverse) g false)).set id (.cells (row (treeS k n)) g false))[id]? = some (.cells (row (treeS k n)) g false) := by simp [hi]
  have hl2 : ((H.set id (.cells (row (tree k n).reverse) g false)) : Heap).length = H.length := by simp
  rw [fn10_is] at hX
  rw [List.nil_append, ← treeS] at h0
  simp only [List.length_nil, R3, R0, os1, i64, put, bl, Int.ofNat_zero] at hr h31 h0 t3 t0
  simp only [row_one, Int.ofNat_one] at hr t3
  refine vcall_of (H := (H.set id (.cells (row (tree k n).reverse) g false)).set id (.cells (row (treeS k n)) g false)) ?_ (v := .tup [.c (.d (.str (treeS k n))), i64 0]) (r := .tup [.c (.d (.str (treeS k n))), i64 0]) rfl
  rw [callN_fn hX]
  simp only [fn10', runFn, pad, List.replicate, Nat.reduceSub, List.cons_append, List.nil_append, byValue, mapO, deepV1, deepC, hv, e1, e2, e3, e4, Bool.and_self, Bool.not_true, rep, lay, splice, List.map_cons, List.map_nil, List.take_zero, List.drop_zero, List.drop_succ_cons, List.drop_nil, Nat.le_refl,
    V.flat, V.flat1, C.flat, D.flat, freshen, t3, hr, zenv_call, h31, t0, hl2, h0, elems, hob2, hT, hT', hb, results, result, beq_self_eq_true, exec, runOps, wants, Mini.step, stepP, stepE, O.eff, Mini.look, nth, put, exports, un, i64, ob_eq, V.cells, List.length_cons, List.length_nil, Option.map_some, if_true, if_false, decide_true, List.append_nil, List.all_nil, cond_false, Nat.zero_add, Nat.mul_one, and_self, Int.ofNat_eq_natCast, Bool.false_eq_true, Nat.reduceAdd]
end Mini
end Go.Proofs.YtcilepbdddgpoaaDoor
