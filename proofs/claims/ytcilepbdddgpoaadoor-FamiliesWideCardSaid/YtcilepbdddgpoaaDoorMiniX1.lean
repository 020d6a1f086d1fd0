/-
  A certificate of a family: the record that 'certificate' makes.
-/
import Derived.Test.YtcilepbdddgpoaaDoorMiniU
namespace Go.Proofs.YtcilepbdddgpoaaDoor
namespace Mini
open Go

def z18 : List C := [.d (.int .u8 0), .d (.int .u32 0), .d (.int .u32 0), .d (.int .u32 0), .d (.int .u32 0), .d (.int .u32 0), .d (.int .u32 0), .d (.int .u32 0), .d (.int .u32 0), .d (.int .u32 0), .d (.int .u32 0), .d (.int .u32 0), .d (.int .u32 0), .d (.int .u32 0), .d (.int .u32 0), .d (.int .u32 0), .d (.int .u32 0), .d .nils]
def nilC : C := .d .nils
def m1 : C := .d (.int .i64 (-1))
/-- A record's cells. -/
def recC (hp hm : Bool) (P M : C) : List C := [.d (.bool false), .d (.bool hp), P, .d (.bool hm), M, m1, m1, m1]
def zrec : List C := [.d (.bool false), .d (.bool false), .d .nils, .d (.bool false), .d .nils, .d (.int .i64 0), .d (.int .i64 0), .d (.int .i64 0)]
def R29 (L pid g len : Nat) (cap : Option Nat) (j : Nat) : List V := [.any, .any, .c (.ptr L 0 0), .c (.ptr (L + 1) 0 0), .any, .any, .c (.os pid g 0 len 17 cap), i64 len, i64 j, .any]
def polC (p : List C) : List C := p ++ [.d .nils]
def arr29 (pre : List (List C)) (n : Nat) : List (List C) := pre.map polC ++ List.replicate n z18
theorem arr29_len {pre : List (List C)} {n : Nat} (h : ∀ e ∈ pre, e.length = 17) : ∀ e ∈ arr29 pre n, e.length = 18 := fun e he => by
  rcases List.mem_append.1 he with h' | h'
  · obtain ⟨x, hx, rfl⟩ := List.mem_map.1 h'
    simp [polC, h x hx]
  · rw [List.eq_of_mem_replicate h']; rfl
def heap29 (H : Heap) (hm : Bool) (M : C) (len : Nat) (pre : List (List C)) (n : Nat) : Heap := H ++ [.cells zrec 0 false, .cells (recC true hm (.os (H.length + 2) 0 0 len 18 (some len)) M) 0 false, .cells (arr29 pre n).flatten 0 false]
theorem round29 {E : Env} {N pid g len : Nat} {cap : Option Nat} {hm : Bool} {M : C} {H : Heap} {fz : Bool} {pre post : List (List C)} {p : List C} (hob : H[pid]? = some (.cells (pre ++ p :: post).flatten g fz)) (hps : ∀ e ∈ pre ++ p :: post, e.length = 17) (hlen : (pre ++ p :: post).length = len) (hb : len < 1000) :
    exec E N false fn29L0 ⟨R29 H.length pid g len cap pre.length, heap29 H hm M len pre (post.length + 1)⟩ = some (.nrm, ⟨[.any, .any, .c (.ptr H.length 0 0), .c (.ptr (H.length + 1) 0 0), i64 pre.length, .c (.ptr (H.length + 3) 0 0), .c (.os pid g 0 len 17 cap), i64 len, i64 (pre.length + 1 : Nat), bl true],
      heap29 H hm M len (pre ++ [p]) post.length ++ [.cells p 0 false]⟩) := by
  have hlt : pre.length < len := by rw [← hlen]; simp
  have hlt' : (pre.length : Int) < (len : Int) := by exact_mod_cast hlt
  have hpre : ∀ e ∈ pre, e.length = 17 := fun e he => hps e (List.mem_append_left _ he)
  have hp : p.length = 17 := hps p (by simp)
  have e7 : IntKind.i64.wrap ((pre.length : Int) + 1) = ((pre.length + 1 : Nat) : Int) := wrap_succ (by omega)
  have hz : (arr29 pre (post.length + 1))[pre.length]? = some z18 := by
    unfold arr29
    rw [List.getElem?_append_right (by simp)]
    simp
  have hld := flat_ld hps (i := pre.length) (e := p) (by simp)
  have hst := flat_st p (arr29_len hpre) hz (by omega)
  have hset : (arr29 pre (post.length + 1)).set pre.length (p ++ z18.drop p.length) = arr29 (pre ++ [p]) post.length := by
    unfold arr29
    rw [List.set_append_right _ _ (by simp), hp]
    simp [List.replicate_succ, polC, z18]
  rw [hset] at hst
  have hbnd : pre.length * 18 + 17 ≤ (arr29 pre (post.length + 1)).flatten.length := by
    have := flat_mem (arr29_len hpre) hz
    omega
  have hpt : p.take 17 = p := by rw [← hp, List.take_length]
  have hob4 : ∀ t, (H ++ t)[pid]? = some (Ob.cells (pre ++ p :: post).flatten g fz) := fun t => atL hob
  simp only [fn29L0, R29, heap29, recC, hlt, hlt', e7, hob4, hld, hst, hp, hpt, hbnd, at1, at2, at3, se2, List.append_assoc, List.cons_append, List.nil_append, List.length_append, List.drop_zero, List.drop_succ_cons, List.take_zero, List.take_succ_cons, exec, runOps, wants, Mini.step, stepP, stepE, O.eff, Mini.look, nth, put, exports, bin, binInt, i64, bl, asNat_nat, ob_eq, setOb_eq, ofCells, V.cells, List.length_cons, List.length_nil, Option.map_some, if_true, if_false, decide_true, List.all_nil, cond_true, Nat.zero_add, Nat.add_zero, and_self, Bool.false_eq_true, Nat.reduceAdd]
theorem uC_all_d {n : Nat} {cs : List C} (h : cs.all C.isD = true) : cs.all (uC n) = true := by
  rw [List.all_eq_true] at h ⊢
  intro c hc
  have := h c hc
  cases c <;> first | rfl | cases this
theorem heap29_hp {H : Heap} {hm : Bool} {M : C} {len : Nat} {pre : List (List C)} {n : Nat} (hH : Hp H.length H) (hM : uC H.length M = true) (hd : ∀ e ∈ pre, e.all C.isD = true) : Hp (heap29 H hm M len pre n).length (heap29 H hm M len pre n) := by
  have hl : (heap29 H hm M len pre n).length = H.length + 3 := by simp [heap29]
  rw [hl]
  refine (hH.mono (by omega)).app (Hp.cons rfl (Hp.cons ?_ (Hp.cons ?_ Hp.nil)))
  · simp only [uO, recC, List.all_cons, List.all_nil, Bool.and_eq_true]
    exact ⟨rfl, rfl, decide_eq_true (by omega), rfl, uC_mono (by omega) hM, rfl, rfl, rfl, trivial⟩
  · refine flat_u fun e he => ?_
    rcases List.mem_append.1 he with h' | h'
    · obtain ⟨x, hx, rfl⟩ := List.mem_map.1 h'
      rw [polC, List.all_append, uC_all_d (hd x hx)]; rfl
    · rw [List.eq_of_mem_replicate h']; rfl
theorem loop29 {E : Env} {N pid g len : Nat} {cap : Option Nat} {hm : Bool} {M : C} {H : Heap} {fz : Bool} {ps : List (List C)} (hob : H[pid]? = some (.cells ps.flatten g fz)) (hps : ∀ e ∈ ps, e.length = 17) (hd : ∀ e ∈ ps, e.all C.isD = true) (hlen : ps.length = len) (hb : len < 1000) (hH : Hp H.length H) (hM : uC H.length M = true) :
    ∀ (post pre : List (List C)) (fuel : Nat), pre ++ post = ps → post.length < fuel →
    iter (some [2, 3, 6, 7, 8]) (H.length + 3) (exec E N false fn29L0) fuel ⟨R29 H.length pid g len cap pre.length, heap29 H hm M len pre post.length⟩ = some (.exit 0, ⟨put (R29 H.length pid g len cap len) 9 (bl false), heap29 H hm M len ps 0⟩) := by
  intro post
  induction post with
  | nil =>
    intro pre fuel h1 h2
    obtain ⟨f, rfl⟩ : ∃ f, fuel = f + 1 := ⟨fuel - 1, by simp at h2; omega⟩
    rw [List.append_nil] at h1
    subst h1
    rw [hlen]
    refine iter_stop ?_
    simp only [fn29L0, R29, Int.lt_irrefl, exec, runOps, wants, Mini.step, stepP, stepE, O.eff, Mini.look, nth, put, exports, bin, binInt, i64, bl, List.length_nil, Option.map_some, if_true, if_false, decide_false, List.append_nil, List.all_nil, cond_false, Bool.false_eq_true]
  | cons p post ih =>
    intro pre fuel h1 h2
    obtain ⟨f, rfl⟩ : ∃ f, fuel = f + 1 := ⟨fuel - 1, by simp at h2; omega⟩
    have hr := round29 (E := E) (N := N) (pid := pid) (g := g) (len := len) (cap := cap) (hm := hm) (M := M) (H := H) (fz := fz) (pre := pre) (post := post) (p := p) (by rw [h1]; exact hob) (by rw [h1]; exact hps) (by rw [h1]; exact hlen) hb
    have hid : pid < H.length := (List.getElem?_eq_some_iff.1 hob).1
    have hl : (heap29 H hm M len (pre ++ [p]) post.length).length = H.length + 3 := by simp [heap29]
    have ht : tidy (H.length + 3) (some [2, 3, 6, 7, 8]) ⟨[.any, .any, .c (.ptr H.length 0 0), .c (.ptr (H.length + 1) 0 0), i64 pre.length, .c (.ptr (H.length + 3) 0 0), .c (.os pid g 0 len 17 cap), i64 len, i64 (pre.length + 1 : Nat), bl true], heap29 H hm M len (pre ++ [p]) post.length ++ [.cells p 0 false]⟩ = ⟨R29 H.length pid g len cap (pre ++ [p]).length, heap29 H hm M len (pre ++ [p]) post.length⟩ := by
      rw [show (pre ++ [p]).length = pre.length + 1 by simp]
      refine (show _ = gc (H.length + 3) ⟨R29 H.length pid g len cap (pre.length + 1), heap29 H hm M len (pre ++ [p]) post.length ++ [.cells p 0 false]⟩ from rfl).trans (gc_back _ hl.symm ?_ (heap29_hp hH hM fun e he => hd e ?_))
      · rw [hl]
        simp only [R29, i64, List.all_cons, List.all_nil, V.under, C.under, Bool.and_true, Bool.true_and, Bool.and_eq_true, decide_eq_true_eq]
        omega
      · rw [← h1]
        have : e ∈ (pre ++ [p]) ++ post := List.mem_append_left _ he
        simpa using this
    rw [List.length_cons, iter_step hr, ht]
    exact ih (pre ++ [p]) f (by rw [← h1]; simp) (by simp at h2; omega)
theorem fn29_ok {X : Ctx} (hX : X.fns 29 = some fn29) {N pid g len mid gm om mm : Nat} {cap capm : Option Nat} {H : Heap} {fz : Bool} {ps : List (List C)} (hN : 1000 ≤ N) (hob : H[pid]? = some (.cells ps.flatten g fz)) (hps : ∀ e ∈ ps, e.length = 17) (hd : ∀ e ∈ ps, e.all C.isD = true) (hlen : ps.length = len) (hb : len < 1000) (hH : Hp H.length H) (hM : mid < H.length) :
    callN X (N + 1) (.d (.fn 29 [] [])) [.c (.os mid gm om mm 34 capm), .c (.os pid g 0 len 17 cap)] H
      = some (.agg (recC true (decide ((mm : Int) > 0)) (.os (H.length + 2) 0 0 len 18 (some len)) (.os mid gm om mm 34 capm)), H ++ [.cells (recC true (decide ((mm : Int) > 0)) (.os (H.length + 2) 0 0 len 18 (some len)) (.os mid gm om mm 34 capm)) 0 false, .cells (recC true (decide ((mm : Int) > 0)) (.os (H.length + 2) 0 0 len 18 (some len)) (.os mid gm om mm 34 capm)) 0 false, .cells (ps.map polC).flatten 0 false]) := by
  have h1 := loop29 (E := zenv X N) (N := N) (cap := cap) (hm := decide ((mm : Int) > 0)) (M := .os mid gm om mm 34 capm) hob hps hd hlen hb hH (decide_eq_true hM) ps [] N rfl (by omega)
  have hl : (heap29 H (decide ((mm : Int) > 0)) (.os mid gm om mm 34 capm) len [] ps.length).length = H.length + 3 := by simp [heap29]
  have hid : pid < H.length := (List.getElem?_eq_some_iff.1 hob).1
  have t1 : ∀ a b c, tidy (H.length + 3) (some [2, 3, 6, 7, 8]) ⟨[a, b, .c (.ptr H.length 0 0), .c (.ptr (H.length + 1) 0 0), .any, .any, .c (.os pid g 0 len 17 cap), i64 len, i64 (0 : Nat), c], heap29 H (decide ((mm : Int) > 0)) (.os mid gm om mm 34 capm) len [] ps.length⟩ = ⟨R29 H.length pid g len cap 0, heap29 H (decide ((mm : Int) > 0)) (.os mid gm om mm 34 capm) len [] ps.length⟩ := fun a b c =>
    (show _ = gc (H.length + 3) ⟨R29 H.length pid g len cap 0, heap29 H (decide ((mm : Int) > 0)) (.os mid gm om mm 34 capm) len [] ps.length⟩ from rfl).trans (gc_le (Nat.le_of_eq hl))
  have e1 : len * 96 ≤ 1099511627776 := by omega
  have e2 : len ≤ 1099511627776 := by omega
  rw [fn29_is] at hX
  rw [callN_fn hX]
  rw [hlen] at h1 t1
  simp only [R29, heap29, arr29, z18, zrec, recC, m1, bl, i64, put, List.length_nil, Int.ofNat_zero, List.map_nil, List.nil_append, List.replicate_zero, List.append_nil] at h1 t1
  simp only [fn29', runFn, pad, List.replicate, Nat.reduceSub, List.cons_append, List.nil_append, lay, splice, rep_flat, recC, m1, at0, at1, se0, se1, List.append_assoc, List.length_append, List.map_cons, List.map_nil, List.take_zero, List.drop_zero, List.take_succ_cons, List.drop_succ_cons, List.take_nil, List.drop_nil, Nat.le_refl, e1, e2, t1, h1, results, result, mapO, exec, runOps, wants, Mini.step, stepP, stepE, O.eff, Mini.look, nth, put, exports, bin, binInt, asNat_nat, ob_eq, setOb_eq, ofCells, V.cells, List.length_cons, List.length_nil, Option.map_some, if_true, if_false, List.append_nil, List.all_nil, Nat.zero_add, and_self, Int.ofNat_eq_natCast, Bool.false_eq_true, Nat.reduceAdd, Nat.reduceLeDiff]
end Mini
end Go.Proofs.YtcilepbdddgpoaaDoor
