/-
  Certificates, long and wide paths, their definitions, like, levels and graphs: walked.
-/
import Derived.Test.YtcilepbdddgpoaaDoorMiniU
import Derived.Test.YtcilepbdddgpoaaDoorMiniN2
import Derived.Test.YtcilepbdddgpoaaDoorMiniR
namespace Go.Proofs.YtcilepbdddgpoaaDoor
namespace Mini
open Go

def z18 : List C := [.d (.int .u8 0), .d (.int .u32 0), .d (.int .u32 0), .d (.int .u32 0), .d (.int .u32 0), .d (.int .u32 0), .d (.int .u32 0), .d (.int .u32 0), .d (.int .u32 0), .d (.int .u32 0), .d (.int .u32 0), .d (.int .u32 0), .d (.int .u32 0), .d (.int .u32 0), .d (.int .u32 0), .d (.int .u32 0), .d (.int .u32 0), .d .nils]
def nilC : C := .d .nils
def m1 : C := .d (.int .i64 (-1))
/-- A record's cells. -/
def recC (hp hm : Bool) (P M : C) : List C := [.d (.bool false), .d (.bool hp), P, .d (.bool hm), M, m1, m1, m1]
def zrec : List C := [.d (.bool false), .d (.bool false), .d .nils, .d (.bool false), .d .nils, .d (.int .i64 0), .d (.int .i64 0), .d (.int .i64 0)]
def R29 (L pid g len : Nat) (cap : Option Nat) (j : Nat) : List V := [.any, .any, .c (.ptr L 0 0), .c (.ptr (L + 1) 0 0), .any, .any, .c (.os pid g 0 len 17 cap), i64 len, i64 j, .any]
def polC (p : List C) : List C := p ++ [.d .nils]
def arr29 (pre : List (List C)) (n : Nat) : List (List C) := pre.map polC ++ List.replicate n z18
theorem arr29_len {pre : List (List C)} {n : Nat} (h : ∀ e ∈ pre, e.length = 17) : ∀ e ∈ arr29 pre n, e.length = 18 := fun e he => by
  rcases List.mem_append.1 he with h' | h'
  · obtain ⟨x, hx, rfl⟩ := List.mem_map.1 h'
    simp [polC, h x hx]
  · rw [List.eq_of_mem_replicate h']; rfl
def heap29 (H : Heap) (hm : Bool) (M : C) (len : Nat) (pre : List (List C)) (n : Nat) : Heap := H ++ [.cells zrec 0 false, .cells (recC true hm (.os (H.length + 2) 0 0 len 18 (some len)) M) 0 false, .cells (arr29 pre n).flatten 0 false]
theorem round29 {E : Env} {N pid g len : Nat} {cap : Option Nat} {hm : Bool} {M : C} {H : Heap} {fz : Bool} {pre post : List (List C)} {p : List C} (hob : H[pid]? = some (.cells (pre ++ p :: post).flatten g fz)) (hps : ∀ e ∈ pre ++ p :: post, e.length = 17) (hlen : (pre ++ p :: post).length = len) (hb : len < 1000) :
    exec E N false fn29L0 ⟨R29 H.length pid g len cap pre.length, heap29 H hm M len pre (post.length + 1)⟩ = some (.nrm, ⟨[.any, .any, .c (.ptr H.length 0 0), .c (.ptr (H.length + 1) 0 0), i64 pre.length, .c (.ptr (H.length + 3) 0 0), .c (.os pid g 0 len 17 cap), i64 len, i64 (pre.length + 1 : Nat), bl true],
      heap29 H hm M len (pre ++ [p]) post.length ++ [.cells p 0 false]⟩) := by
  have hlt : pre.length < len := by rw [← hlen]; simp
  have hlt' : (pre.length : Int) < (len : Int) := by exact_mod_cast hlt
  have hpre : ∀ e ∈ pre, e.length = 17 := fun e he => hps e (List.mem_append_left _ he)
  have hp : p.length = 17 := hps p (by simp)
  have e7 : IntKind.i64.wrap ((pre.length : Int) + 1) = ((pre.length + 1 : Nat) : Int) := wrap_succ (by omega)
  have hz : (arr29 pre (post.length + 1))[pre.length]? = some z18 := by
    unfold arr29
    rw [List.getElem?_append_right (by simp)]
    simp
  have hld := flat_ld hps (i := pre.length) (e := p) (by simp)
  have hst := flat_st p (arr29_len hpre) hz (by omega)
  have hset : (arr29 pre (post.length + 1)).set pre.length (p ++ z18.drop p.length) = arr29 (pre ++ [p]) post.length := by
    unfold arr29
    rw [List.set_append_right _ _ (by simp), hp]
    simp [List.replicate_succ, polC, z18]
  rw [hset] at hst
  have hbnd : pre.length * 18 + 17 ≤ (arr29 pre (post.length + 1)).flatten.length := by
    have := flat_mem (arr29_len hpre) hz
    omega
  have hpt : p.take 17 = p := by rw [← hp, List.take_length]
  have hob4 : ∀ t, (H ++ t)[pid]? = some (Ob.cells (pre ++ p :: post).flatten g fz) := fun t => atL hob
  simp only [fn29L0, R29, heap29, recC, hlt, hlt', e7, hob4, hld, hst, hp, hpt, hbnd, at1, at2, at3, se2, List.append_assoc, List.cons_append, List.nil_append, List.length_append, List.drop_zero, List.drop_succ_cons, List.take_zero, List.take_succ_cons, exec, runOps, wants, Mini.step, stepP, stepE, O.eff, Mini.look, nth, put, exports, bin, binInt, i64, bl, asNat_nat, ob_eq, setOb_eq, ofCells, V.cells, List.length_cons, List.length_nil, Option.map_some, if_true, if_false, decide_true, List.all_nil, cond_true, Nat.zero_add, Nat.add_zero, and_self, Bool.false_eq_true, Nat.reduceAdd]
theorem uC_all_d {n : Nat} {cs : List C} (h : cs.all C.isD = true) : cs.all (uC n) = true := by
  rw [List.all_eq_true] at h ⊢
  intro c hc
  have := h c hc
  cases c <;> first | rfl | cases this
theorem heap29_hp {H : Heap} {hm : Bool} {M : C} {len : Nat} {pre : List (List C)} {n : Nat} (hH : Hp H.length H) (hM : uC H.length M = true) (hd : ∀ e ∈ pre, e.all C.isD = true) : Hp (heap29 H hm M len pre n).length (heap29 H hm M len pre n) := by
  have hl : (heap29 H hm M len pre n).length = H.length + 3 := by simp [heap29]
  rw [hl]
  refine (hH.mono (by omega)).app (Hp.cons rfl (Hp.cons ?_ (Hp.cons ?_ Hp.nil)))
  · simp only [uO, recC, List.all_cons, List.all_nil, Bool.and_eq_true]
    exact ⟨rfl, rfl, decide_eq_true (by omega), rfl, uC_mono (by omega) hM, rfl, rfl, rfl, trivial⟩
  · refine flat_u fun e he => ?_
    rcases List.mem_append.1 he with h' | h'
    · obtain ⟨x, hx, rfl⟩ := List.mem_map.1 h'
      rw [polC, List.all_append, uC_all_d (hd x hx)]; rfl
    · rw [List.eq_of_mem_replicate h']; rfl
theorem loop29 {E : Env} {N pid g len : Nat} {cap : Option Nat} {hm : Bool} {M : C} {H : Heap} {fz : Bool} {ps : List (List C)} (hob : H[pid]? = some (.cells ps.flatten g fz)) (hps : ∀ e ∈ ps, e.length = 17) (hd : ∀ e ∈ ps, e.all C.isD = true) (hlen : ps.length = len) (hb : len < 1000) (hH : Hp H.length H) (hM : uC H.length M = true) :
    ∀ (post pre : List (List C)) (fuel : Nat), pre ++ post = ps → post.length < fuel →
    iter (some [2, 3, 6, 7, 8]) (H.length + 3) (exec E N false fn29L0) fuel ⟨R29 H.length pid g len cap pre.length, heap29 H hm M len pre post.length⟩ = some (.exit 0, ⟨put (R29 H.length pid g len cap len) 9 (bl false), heap29 H hm M len ps 0⟩) := by
  intro post
  induction post with
  | nil =>
    intro pre fuel h1 h2
    obtain ⟨f, rfl⟩ : ∃ f, fuel = f + 1 := ⟨fuel - 1, by simp at h2; omega⟩
    rw [List.append_nil] at h1
    subst h1
    rw [hlen]
    refine iter_stop ?_
    simp only [fn29L0, R29, Int.lt_irrefl, exec, runOps, wants, Mini.step, stepP, stepE, O.eff, Mini.look, nth, put, exports, bin, binInt, i64, bl, List.length_nil, Option.map_some, if_true, if_false, decide_false, List.append_nil, List.all_nil, cond_false, Bool.false_eq_true]
  | cons p post ih =>
    intro pre fuel h1 h2
    obtain ⟨f, rfl⟩ : ∃ f, fuel = f + 1 := ⟨fuel - 1, by simp at h2; omega⟩
    have hr := round29 (E := E) (N := N) (pid := pid) (g := g) (len := len) (cap := cap) (hm := hm) (M := M) (H := H) (fz := fz) (pre := pre) (post := post) (p := p) (by rw [h1]; exact hob) (by rw [h1]; exact hps) (by rw [h1]; exact hlen) hb
    have hid : pid < H.length := (List.getElem?_eq_some_iff.1 hob).1
    have hl : (heap29 H hm M len (pre ++ [p]) post.length).length = H.length + 3 := by simp [heap29]
    have ht : tidy (H.length + 3) (some [2, 3, 6, 7, 8]) ⟨[.any, .any, .c (.ptr H.length 0 0), .c (.ptr (H.length + 1) 0 0), i64 pre.length, .c (.ptr (H.length + 3) 0 0), .c (.os pid g 0 len 17 cap), i64 len, i64 (pre.length + 1 : Nat), bl true], heap29 H hm M len (pre ++ [p]) post.length ++ [.cells p 0 false]⟩ = ⟨R29 H.length pid g len cap (pre ++ [p]).length, heap29 H hm M len (pre ++ [p]) post.length⟩ := by
      rw [show (pre ++ [p]).length = pre.length + 1 by simp]
      refine (show _ = gc (H.length + 3) ⟨R29 H.length pid g len cap (pre.length + 1), heap29 H hm M len (pre ++ [p]) post.length ++ [.cells p 0 false]⟩ from rfl).trans (gc_back _ hl.symm ?_ (heap29_hp hH hM fun e he => hd e ?_))
      · rw [hl]
        simp only [R29, i64, List.all_cons, List.all_nil, V.under, C.under, Bool.and_true, Bool.true_and, Bool.and_eq_true, decide_eq_true_eq]
        omega
      · rw [← h1]
        have : e ∈ (pre ++ [p]) ++ post := List.mem_append_left _ he
        simpa using this
    rw [List.length_cons, iter_step hr, ht]
    exact ih (pre ++ [p]) f (by rw [← h1]; simp) (by simp at h2; omega)
theorem fn29_ok {X : Ctx} (hX : X.fns 29 = some fn29) {N pid g len mid gm om mm : Nat} {cap capm : Option Nat} {H : Heap} {fz : Bool} {ps : List (List C)} (hN : 1000 ≤ N) (hob : H[pid]? = some (.cells ps.flatten g fz)) (hps : ∀ e ∈ ps, e.length = 17) (hd : ∀ e ∈ ps, e.all C.isD = true) (hlen : ps.length = len) (hb : len < 1000) (hH : Hp H.length H) (hM : mid < H.length) :
    callN X (N + 1) (.d (.fn 29 [] [])) [.c (.os mid gm om mm 34 capm), .c (.os pid g 0 len 17 cap)] H
      = some (.agg (recC true (decide ((mm : Int) > 0)) (.os (H.length + 2) 0 0 len 18 (some len)) (.os mid gm om mm 34 capm)), H ++ [.cells (recC true (decide ((mm : Int) > 0)) (.os (H.length + 2) 0 0 len 18 (some len)) (.os mid gm om mm 34 capm)) 0 false, .cells (recC true (decide ((mm : Int) > 0)) (.os (H.length + 2) 0 0 len 18 (some len)) (.os mid gm om mm 34 capm)) 0 false, .cells (ps.map polC).flatten 0 false]) := by
  have h1 := loop29 (E := zenv X N) (N := N) (cap := cap) (hm := decide ((mm : Int) > 0)) (M := .os mid gm om mm 34 capm) hob hps hd hlen hb hH (decide_eq_true hM) ps [] N rfl (by omega)
  have hl : (heap29 H (decide ((mm : Int) > 0)) (.os mid gm om mm 34 capm) len [] ps.length).length = H.length + 3 := by simp [heap29]
  have hid : pid < H.length := (List.getElem?_eq_some_iff.1 hob).1
  have t1 : ∀ a b c, tidy (H.length + 3) (some [2, 3, 6, 7, 8]) ⟨[a, b, .c (.ptr H.length 0 0), .c (.ptr (H.length + 1) 0 0), .any, .any, .c (.os pid g 0 len 17 cap), i64 len, i64 (0 : Nat), c], heap29 H (decide ((mm : Int) > 0)) (.os mid gm om mm 34 capm) len [] ps.length⟩ = ⟨R29 H.length pid g len cap 0, heap29 H (decide ((mm : Int) > 0)) (.os mid gm om mm 34 capm) len [] ps.length⟩ := fun a b c =>
    (show _ = gc (H.length + 3) ⟨R29 H.length pid g len cap 0, heap29 H (decide ((mm : Int) > 0)) (.os mid gm om mm 34 capm) len [] ps.length⟩ from rfl).trans (gc_le (Nat.le_of_eq hl))
  have e1 : len * 96 ≤ 1099511627776 := by omega
  have e2 : len ≤ 1099511627776 := by omega
  rw [fn29_is] at hX
  rw [callN_fn hX]
  rw [hlen] at h1 t1
  simp only [R29, heap29, arr29, z18, zrec, recC, m1, bl, i64, put, List.length_nil, Int.ofNat_zero, List.map_nil, List.nil_append, List.replicate_zero, List.append_nil] at h1 t1
  simp only [fn29', runFn, pad, List.replicate, Nat.reduceSub, List.cons_append, List.nil_append, lay, splice, rep_flat, recC, m1, at0, at1, se0, se1, List.append_assoc, List.length_append, List.map_cons, List.map_nil, List.take_zero, List.drop_zero, List.take_succ_cons, List.drop_succ_cons, List.take_nil, List.drop_nil, Nat.le_refl, e1, e2, t1, h1, results, result, mapO, exec, runOps, wants, Mini.step, stepP, stepE, O.eff, Mini.look, nth, put, exports, bin, binInt, asNat_nat, ob_eq, setOb_eq, ofCells, V.cells, List.length_cons, List.length_nil, Option.map_some, if_true, if_false, List.append_nil, List.all_nil, Nat.zero_add, and_self, Int.ofNat_eq_natCast, Bool.false_eq_true, Nat.reduceAdd, Nat.reduceLeDiff]
end Mini
end Go.Proofs.YtcilepbdddgpoaaDoor
namespace Go.Proofs.YtcilepbdddgpoaaDoor
namespace Mini
open Go

def polE (i k : Int) : List C := [.d (.int .u8 9), u32 1, u32 3, u32 6, u32 1, u32 4, u32 1, u32 99, u32 (IntKind.u32.wrap i), u32 (IntKind.u32.wrap k)] ++ List.replicate 7 (u32 0)
theorem polV_agg (i k : Int) : polV i k = .agg (polE i k) := rfl
theorem polE_len (i k : Int) : (polE i k).length = 17 := rfl
theorem polE_flat (i k : Int) : (polE i k).all C.flat = true := rfl
theorem polE_d (i k : Int) : (polE i k).all C.isD = true := rfl
theorem lay17 {a : List C} (h : a.length = 17) : lay [.d (.int .u8 0), .d (.int .u32 0), .d (.int .u32 0), .d (.int .u32 0), .d (.int .u32 0), .d (.int .u32 0), .d (.int .u32 0), .d (.int .u32 0), .d (.int .u32 0), .d (.int .u32 0), .d (.int .u32 0), .d (.int .u32 0), .d (.int .u32 0), .d (.int .u32 0), .d (.int .u32 0), .d (.int .u32 0), .d (.int .u32 0)] [(0, 17, .agg a)] = some a := by
  simp [lay, V.cells, splice, h]
theorem lay34 {a b : List C} (h : a.length = 17) (h' : b.length = 17) : lay [.d (.int .u8 0), .d (.int .u32 0), .d (.int .u32 0), .d (.int .u32 0), .d (.int .u32 0), .d (.int .u32 0), .d (.int .u32 0), .d (.int .u32 0), .d (.int .u32 0), .d (.int .u32 0), .d (.int .u32 0), .d (.int .u32 0), .d (.int .u32 0), .d (.int .u32 0), .d (.int .u32 0), .d (.int .u32 0), .d (.int .u32 0), .d (.int .u8 0), .d (.int .u32 0), .d (.int .u32 0), .d (.int .u32 0), .d (.int .u32 0), .d (.int .u32 0), .d (.int .u32 0), .d (.int .u32 0), .d (.int .u32 0), .d (.int .u32 0), .d (.int .u32 0), .d (.int .u32 0), .d (.int .u32 0), .d (.int .u32 0), .d (.int .u32 0), .d (.int .u32 0), .d (.int .u32 0)] [(0, 17, .agg a), (17, 17, .agg b)] = some (a ++ b) := by
  have h17 : a.take 17 = a := by rw [← h, List.take_length]
  simp [lay, V.cells, splice, h, h', List.drop_append]
/-- Registers of the first loop of a round. -/
def RA (p m : Nat) (inp arr : V) (i n : Nat) (os : V) (k : Nat) : List V := [.any, i64 p, i64 m, .any, inp, .any, arr, i64 i, os, .any, .any, .any, .any, i64 n, i64 i, .any, i64 p, i64 k, .any, .any, .any, .any]
def os17 (a g k : Nat) : V := .c (.os a g 0 k 17 none)
theorem roundA {E : Env} (hv : ∀ i k, E.vcall 28 [.c (.d (.int .i64 i)), .c (.d (.int .i64 k))] = some (.agg (polE i k))) {N p m n i k : Nat} {inp arr : V} {H : Heap} {es : List (List C)} (hes : ∀ e ∈ es, e.length = 17) (hk : es.length = k) (hkp : k < p) (hp : p < 1000) (hi : i < 1000) :
    exec E N false fn17L1 ⟨RA p m inp arr i n (os17 H.length k k) k, H ++ [.cells es.flatten k false]⟩ = some (.nrm, ⟨put (put (RA p m inp arr i n (os17 H.length (k + 1) (k + 1)) (k + 1)) 9 (i64 k)) 18 (bl true),
      H ++ [.cells (es ++ [polE (i + 1 : Nat) (k + 1 : Nat)]).flatten (k + 1) false, .cells (polE (i + 1 : Nat) (k + 1 : Nat)) 0 false]⟩) := by
  have hlt : (k : Int) < (p : Int) := by exact_mod_cast hkp
  have e1 : IntKind.i64.wrap ((i : Int) + 1) = ((i + 1 : Nat) : Int) := wrap_succ (by omega)
  have e2 : IntKind.i64.wrap ((k : Int) + 1) = ((k + 1 : Nat) : Int) := wrap_succ (by omega)
  have hl : es.flatten.length = k * 17 := by rw [flat_len es hes, hk]
  have h1 : k + 1 ≤ 1073741824 := by omega
  have h2 : (es.flatten ++ polE (i + 1 : Nat) (k + 1 : Nat)) = (es ++ [polE (i + 1 : Nat) (k + 1 : Nat)]).flatten := by simp
  have h3 : es.flatten.take (k * 17) = es.flatten := by rw [← hl, List.take_length]
  have h4 : ∀ j, (polE (i + 1 : Nat) j).take 17 = polE (i + 1 : Nat) j := fun j => by rw [← polE_len (i + 1 : Nat) j, List.take_length]
  simp only [fn17L1, RA, os17, hlt, e1, e2, byValue, mapO, deepV1, deepC, hv, V.flat, V.flat1, polE_flat, polE_len, rep, List.map_cons, List.map_nil, lay17 (polE_len _ _), elems, at0, at1, se0, hl, h1, h2, h3, h4, List.drop_zero, List.append_assoc, List.cons_append, List.nil_append, List.length_append, Nat.le_refl, exec, runOps, wants, Mini.step, stepP, stepE, O.eff, Mini.look, nth, put, exports, bin, binInt, i64, bl, ob_eq, setOb_eq, List.length_cons, List.length_nil, Option.map_some, if_true, if_false, decide_true, List.append_nil, List.all_nil, cond_true, Nat.zero_add, Nat.one_mul, and_self, reduceCtorEq, Bool.false_eq_true, and_true]
theorem endA {E : Env} {N p m n i : Nat} {inp arr os : V} {H : Heap} : exec E N false fn17L1 ⟨RA p m inp arr i n os p, H⟩ = some (.exit 2, ⟨put (RA p m inp arr i n os p) 18 (bl false), H⟩) := by
  simp only [fn17L1, RA, Int.lt_irrefl, exec, runOps, wants, Mini.step, stepP, stepE, O.eff, Mini.look, nth, put, exports, bin, binInt, i64, bl, Option.map_some, if_true, if_false, decide_false, List.append_nil, List.all_nil, cond_false, Bool.false_eq_true]
def polL (i : Nat) : Nat → Nat → List (List C)
  | _, 0 => []
  | k, c + 1 => polE (i + 1 : Nat) (k + 1 : Nat) :: polL i (k + 1) c
theorem polL_len (i : Nat) : ∀ k c, (polL i k c).length = c
  | _, 0 => rfl
  | k, c + 1 => by rw [polL, List.length_cons, polL_len i (k + 1) c]
theorem polL_17 (i : Nat) : ∀ k c, ∀ e ∈ polL i k c, e.length = 17
  | _, 0, _, h => by cases h
  | k, c + 1, e, h => by
    rcases List.mem_cons.1 h with rfl | h
    · rfl
    · exact polL_17 i (k + 1) c e h
theorem polL_d (i : Nat) : ∀ k c, ∀ e ∈ polL i k c, e.all C.isD = true
  | _, 0, _, h => by cases h
  | k, c + 1, e, h => by
    rcases List.mem_cons.1 h with rfl | h
    · rfl
    · exact polL_d i (k + 1) c e h
theorem refs_RA {p m n i k L : Nat} {inp arr : C} {a g l : Nat} (h1 : uC L inp = true) (h2 : uC L arr = true) (h3 : a < L) : (RA p m (.c inp) (.c arr) i n (os17 a g l) k).all (V.under L) = true := by
  simp only [RA, os17, i64, List.all_cons, List.all_nil, V.under, uC_under h1, uC_under h2, Bool.and_true, Bool.true_and, Bool.and_eq_true]
  exact ⟨rfl, rfl, rfl, decide_eq_true h3, rfl, rfl, rfl, rfl⟩
theorem loopA {E : Env} (hv : ∀ i k, E.vcall 28 [.c (.d (.int .i64 i)), .c (.d (.int .i64 k))] = some (.agg (polE i k))) {N p m n i : Nat} {inp arr : C} {H : Heap} (hp : p < 1000) (hi : i < 1000) (hH : Hp H.length H) (h1 : uC H.length inp = true) (h2 : uC H.length arr = true) :
    ∀ (c k : Nat) (es : List (List C)) (fuel : Nat), k + c = p → c < fuel → es.length = k → (∀ e ∈ es, e.length = 17) → (∀ e ∈ es, e.all C.isD = true) →
    iter (some [1, 2, 4, 6, 7, 8, 13, 14, 16, 17]) (H.length + 1) (exec E N false fn17L1) fuel ⟨RA p m (.c inp) (.c arr) i n (os17 H.length k k) k, H ++ [.cells es.flatten k false]⟩
      = some (.exit 2, ⟨put (RA p m (.c inp) (.c arr) i n (os17 H.length p p) p) 18 (bl false), H ++ [.cells (es ++ polL i k c).flatten p false]⟩) := by
  intro c
  induction c with
  | zero =>
    intro k es fuel a1 a2 a3 a4 a5
    obtain ⟨f, rfl⟩ : ∃ f, fuel = f + 1 := ⟨fuel - 1, by omega⟩
    obtain rfl : k = p := by omega
    rw [iter_stop endA, polL, List.append_nil]
  | succ c ih =>
    intro k es fuel a1 a2 a3 a4 a5
    obtain ⟨f, rfl⟩ : ∃ f, fuel = f + 1 := ⟨fuel - 1, by omega⟩
    have hr := roundA hv (N := N) (p := p) (m := m) (n := n) (i := i) (inp := .c inp) (arr := .c arr) (H := H) a4 a3 (by omega) hp hi
    have hl : (H ++ [Ob.cells (es ++ [polE (i + 1 : Nat) (k + 1 : Nat)]).flatten (k + 1) false]).length = H.length + 1 := by simp
    have a4' : ∀ e ∈ es ++ [polE (i + 1 : Nat) (k + 1 : Nat)], e.length = 17 := fun e he => by
      rcases List.mem_append.1 he with h | h
      · exact a4 e h
      · rw [List.mem_singleton.1 h]; rfl
    have a5' : ∀ e ∈ es ++ [polE (i + 1 : Nat) (k + 1 : Nat)], e.all C.isD = true := fun e he => by
      rcases List.mem_append.1 he with h | h
      · exact a5 e h
      · rw [List.mem_singleton.1 h]; rfl
    have ht : tidy (H.length + 1) (some [1, 2, 4, 6, 7, 8, 13, 14, 16, 17]) ⟨put (put (RA p m (.c inp) (.c arr) i n (os17 H.length (k + 1) (k + 1)) (k + 1)) 9 (i64 k)) 18 (bl true), H ++ [.cells (es ++ [polE (i + 1 : Nat) (k + 1 : Nat)]).flatten (k + 1) false, .cells (polE (i + 1 : Nat) (k + 1 : Nat)) 0 false]⟩
        = ⟨RA p m (.c inp) (.c arr) i n (os17 H.length (k + 1) (k + 1)) (k + 1), H ++ [.cells (es ++ [polE (i + 1 : Nat) (k + 1 : Nat)]).flatten (k + 1) false]⟩ := by
      rw [show H ++ [Ob.cells (es ++ [polE (i + 1 : Nat) (k + 1 : Nat)]).flatten (k + 1) false, .cells (polE (i + 1 : Nat) (k + 1 : Nat)) 0 false] = (H ++ [Ob.cells (es ++ [polE (i + 1 : Nat) (k + 1 : Nat)]).flatten (k + 1) false]) ++ [.cells (polE (i + 1 : Nat) (k + 1 : Nat)) 0 false] by simp]
      refine (show _ = gc (H.length + 1) ⟨RA p m (.c inp) (.c arr) i n (os17 H.length (k + 1) (k + 1)) (k + 1), (H ++ [Ob.cells (es ++ [polE (i + 1 : Nat) (k + 1 : Nat)]).flatten (k + 1) false]) ++ [.cells (polE (i + 1 : Nat) (k + 1 : Nat)) 0 false]⟩ from rfl).trans (gc_back _ hl.symm ?_ ?_)
      · rw [hl]; exact refs_RA (uC_mono (by omega) h1) (uC_mono (by omega) h2) (by omega)
      · rw [hl]; exact (hH.mono (by omega)).app (Hp.cons (flat_u fun e he => uC_all_d (a5' e he)) Hp.nil)
    rw [iter_step hr, ht, ih (k + 1) _ f (by omega) (by omega) (by simp [a3]) a4' a5']
    simp [polL]

/-! ### The pairs -/
def RB (p m : Nat) (inp arr : V) (i n : Nat) (os mp : V) (k : Nat) : List V := [.any, i64 p, i64 m, .any, inp, .any, arr, i64 i, os, .any, mp, .any, .any, i64 n, i64 i, .any, .any, .any, .any, i64 m, i64 k, .any]
def z34 : List C := [.d (.int .u8 0), .d (.int .u32 0), .d (.int .u32 0), .d (.int .u32 0), .d (.int .u32 0), .d (.int .u32 0), .d (.int .u32 0), .d (.int .u32 0), .d (.int .u32 0), .d (.int .u32 0), .d (.int .u32 0), .d (.int .u32 0), .d (.int .u32 0), .d (.int .u32 0), .d (.int .u32 0), .d (.int .u32 0), .d (.int .u32 0), .d (.int .u8 0), .d (.int .u32 0), .d (.int .u32 0), .d (.int .u32 0), .d (.int .u32 0), .d (.int .u32 0), .d (.int .u32 0), .d (.int .u32 0), .d (.int .u32 0), .d (.int .u32 0), .d (.int .u32 0), .d (.int .u32 0), .d (.int .u32 0), .d (.int .u32 0), .d (.int .u32 0), .d (.int .u32 0), .d (.int .u32 0)]
def os34 (b m : Nat) : V := .c (.os b 0 0 m 34 (some m))
def mapE (i p m j : Nat) : List C := polE (i + 1 : Nat) (p + j + 1 : Nat) ++ polE (i + 1 : Nat) (p + m + j + 1 : Nat)
def arrB (pre : List (List C)) (c : Nat) : List (List C) := pre ++ List.replicate c z34
theorem arrB_len {pre : List (List C)} {c : Nat} (h : ∀ e ∈ pre, e.length = 34) : ∀ e ∈ arrB pre c, e.length = 34 := fun e he => by
  rcases List.mem_append.1 he with h' | h'
  · exact h e h'
  · rw [List.eq_of_mem_replicate h']; rfl
theorem roundB {E : Env} (hv : ∀ i k, E.vcall 28 [.c (.d (.int .i64 i)), .c (.d (.int .i64 k))] = some (.agg (polE i k))) {N p m n i k c : Nat} {inp arr os : V} {A : Ob} {H : Heap} {pre : List (List C)} (hes : ∀ e ∈ pre, e.length = 34) (hk : pre.length = k) (hkm : k + (c + 1) = m) (hp : p < 1000) (hm : m < 1000) (hi : i < 1000) :
    exec E N false fn17L0 ⟨RB p m inp arr i n os (os34 (H.length + 1) m) k, H ++ [A, .cells (arrB pre (c + 1)).flatten 0 false]⟩ = some (.nrm, ⟨put (put (RB p m inp arr i n os (os34 (H.length + 1) m) (k + 1)) 11 (i64 k)) 21 (bl true),
      H ++ [A, .cells (arrB (pre ++ [mapE i p m k]) c).flatten 0 false]⟩) := by
  have hlt' : k < m := by omega
  have hlt : (k : Int) < (m : Int) := by omega
  have e1 : IntKind.i64.wrap ((i : Int) + 1) = ((i + 1 : Nat) : Int) := wrap_succ (by omega)
  have e2 : IntKind.i64.wrap ((k : Int) + 1) = ((k + 1 : Nat) : Int) := wrap_succ (by omega)
  have e3 : IntKind.i64.wrap ((p : Int) + (k : Int)) = ((p + k : Nat) : Int) := i64_id (by simp) (by omega)
  have e4 : IntKind.i64.wrap (((p + k : Nat) : Int) + 1) = ((p + k + 1 : Nat) : Int) := wrap_succ (by omega)
  have e5 : IntKind.i64.wrap ((p : Int) + (m : Int)) = ((p + m : Nat) : Int) := i64_id (by simp) (by omega)
  have e6 : IntKind.i64.wrap (((p + m : Nat) : Int) + (k : Int)) = ((p + m + k : Nat) : Int) := i64_id (by simp) (by omega)
  have e7 : IntKind.i64.wrap (((p + m + k : Nat) : Int) + 1) = ((p + m + k + 1 : Nat) : Int) := wrap_succ (by omega)
  have hz : (arrB pre (c + 1))[k]? = some z34 := by
    unfold arrB
    rw [List.getElem?_append_right (by omega)]
    simp [hk]
  have hl34 : (polE (i + 1 : Nat) (p + k + 1 : Nat) ++ polE (i + 1 : Nat) (p + m + k + 1 : Nat)).length = 34 := rfl
  have hst := flat_st (polE (i + 1 : Nat) (p + k + 1 : Nat) ++ polE (i + 1 : Nat) (p + m + k + 1 : Nat)) (arrB_len hes) hz (by rw [hl34]; omega)
  have hset : (arrB pre (c + 1)).set k ((polE (i + 1 : Nat) (p + k + 1 : Nat) ++ polE (i + 1 : Nat) (p + m + k + 1 : Nat)) ++ z34.drop (polE (i + 1 : Nat) (p + k + 1 : Nat) ++ polE (i + 1 : Nat) (p + m + k + 1 : Nat)).length) = arrB (pre ++ [mapE i p m k]) c := by
    unfold arrB
    rw [List.set_append_right _ _ (by omega), hl34, hk]
    simp [List.replicate_succ, mapE, z34]
  rw [hset] at hst
  have hbnd : k * 34 + 34 ≤ (arrB pre (c + 1)).flatten.length := flat_mem (arrB_len hes) hz
  simp only [fn17L0, RB, os34, hlt, hlt', e1, e2, e3, e4, e5, e6, e7, byValue, mapO, deepV1, deepC, hv, V.flat, V.flat1, polE_flat, List.map_cons, List.map_nil, lay34 (polE_len _ _) (polE_len _ _), at1, se1, hl34, hst, hbnd, List.append_assoc, List.cons_append, List.nil_append, exec, runOps, wants, Mini.step, stepP, stepE, O.eff, Mini.look, nth, put, exports, bin, binInt, i64, bl, asNat_nat, ob_eq, setOb_eq, V.cells, Option.map_some, if_true, if_false, decide_true, List.all_nil, cond_true, Nat.zero_add, and_self, Bool.false_eq_true]
theorem endB {E : Env} {N p m n i : Nat} {inp arr os mp : V} {H : Heap} : exec E N false fn17L0 ⟨RB p m inp arr i n os mp m, H⟩ = some (.exit 4, ⟨put (RB p m inp arr i n os mp m) 21 (bl false), H⟩) := by
  simp only [fn17L0, RB, Int.lt_irrefl, exec, runOps, wants, Mini.step, stepP, stepE, O.eff, Mini.look, nth, put, exports, bin, binInt, i64, bl, Option.map_some, if_true, if_false, decide_false, List.append_nil, List.all_nil, cond_false, Bool.false_eq_true]
def mapL (i p m : Nat) : Nat → Nat → List (List C)
  | _, 0 => []
  | k, c + 1 => mapE i p m k :: mapL i p m (k + 1) c
theorem mapL_len (i p m : Nat) : ∀ k c, (mapL i p m k c).length = c
  | _, 0 => rfl
  | k, c + 1 => by rw [mapL, List.length_cons, mapL_len i p m (k + 1) c]
theorem mapL_34 (i p m : Nat) : ∀ k c, ∀ e ∈ mapL i p m k c, e.length = 34
  | _, 0, _, h => by cases h
  | k, c + 1, e, h => by
    rcases List.mem_cons.1 h with rfl | h
    · rfl
    · exact mapL_34 i p m (k + 1) c e h
theorem mapL_d (i p m : Nat) : ∀ k c, ∀ e ∈ mapL i p m k c, e.all C.isD = true
  | _, 0, _, h => by cases h
  | k, c + 1, e, h => by
    rcases List.mem_cons.1 h with rfl | h
    · rfl
    · exact mapL_d i p m (k + 1) c e h
theorem loopB {E : Env} (hv : ∀ i k, E.vcall 28 [.c (.d (.int .i64 i)), .c (.d (.int .i64 k))] = some (.agg (polE i k))) {N p m n i : Nat} {inp arr os : V} {A : Ob} {H : Heap} (hp : p < 1000) (hm : m < 1000) (hi : i < 1000) :
    ∀ (c k : Nat) (pre : List (List C)) (fuel : Nat), k + c = m → c < fuel → pre.length = k → (∀ e ∈ pre, e.length = 34) →
    iter (some [1, 2, 4, 6, 7, 8, 10, 13, 14, 19, 20]) (H.length + 2) (exec E N false fn17L0) fuel ⟨RB p m inp arr i n os (os34 (H.length + 1) m) k, H ++ [A, .cells (arrB pre c).flatten 0 false]⟩
      = some (.exit 4, ⟨put (RB p m inp arr i n os (os34 (H.length + 1) m) m) 21 (bl false), H ++ [A, .cells (pre ++ mapL i p m k c).flatten 0 false]⟩) := by
  intro c
  induction c with
  | zero =>
    intro k pre fuel a1 a2 a3 a4
    obtain ⟨f, rfl⟩ : ∃ f, fuel = f + 1 := ⟨fuel - 1, by omega⟩
    obtain rfl : k = m := by omega
    rw [iter_stop endB, mapL, List.append_nil, arrB, List.replicate_zero, List.append_nil]
  | succ c ih =>
    intro k pre fuel a1 a2 a3 a4
    obtain ⟨f, rfl⟩ : ∃ f, fuel = f + 1 := ⟨fuel - 1, by omega⟩
    have hr := roundB hv (N := N) (p := p) (m := m) (n := n) (i := i) (inp := inp) (arr := arr) (os := os) (A := A) (H := H) a4 a3 a1 hp hm hi
    have a4' : ∀ e ∈ pre ++ [mapE i p m k], e.length = 34 := fun e he => by
      rcases List.mem_append.1 he with h | h
      · exact a4 e h
      · rw [List.mem_singleton.1 h]; rfl
    have ht : tidy (H.length + 2) (some [1, 2, 4, 6, 7, 8, 10, 13, 14, 19, 20]) ⟨put (put (RB p m inp arr i n os (os34 (H.length + 1) m) (k + 1)) 11 (i64 k)) 21 (bl true), H ++ [A, .cells (arrB (pre ++ [mapE i p m k]) c).flatten 0 false]⟩
        = ⟨RB p m inp arr i n os (os34 (H.length + 1) m) (k + 1), H ++ [A, .cells (arrB (pre ++ [mapE i p m k]) c).flatten 0 false]⟩ :=
      (show _ = gc (H.length + 2) ⟨RB p m inp arr i n os (os34 (H.length + 1) m) (k + 1), H ++ [A, .cells (arrB (pre ++ [mapE i p m k]) c).flatten 0 false]⟩ from rfl).trans (gc_le (by simp))
    rw [iter_step hr, ht, ih (k + 1) _ f (by omega) (by omega) (by simp [a3]) a4']
    simp [mapL]
/-! ### A round of the outer loop -/
def anyE : List C := [.d (.int .u8 5), u32 2, u32 5, u32 29, u32 32] ++ List.replicate 12 (u32 0)
def RC (p m : Nat) (inp arr : V) (i n : Nat) : List V := [.any, i64 p, i64 m, .any, inp, .any, arr, .any, .any, .any, .any, .any, .any, i64 n, i64 i, .any, .any, .any, .any, .any, .any, .any]
def os8 (a n : Nat) : C := .os a 0 0 n 8 (some n)
def polA (i p : Nat) : List (List C) := polL i 0 p ++ [anyE]
def recL (b p m : Nat) : List C := recC true (decide ((m : Int) > 0)) (.os (b + 5) 0 0 (p + 1) 18 (some (p + 1))) (.os (b + 1) 0 0 m 34 (some m))
theorem recL_eq (b p m : Nat) : recC true (decide ((m : Int) > 0)) (.os (b + 5) 0 0 (p + 1) 18 (some (p + 1))) (.os (b + 1) 0 0 m 34 (some m)) = recL b p m := rfl
/-- What a round lays. -/
def newL (b i p m : Nat) : Heap := [.cells (polA i p).flatten (p + 1) false, .cells (mapL i p m 0 m).flatten 0 false, .cells anyE 0 false, .cells (recL b p m) 0 false, .cells (recL b p m) 0 false, .cells ((polA i p).map polC).flatten 0 false]
theorem polA_17 (i p : Nat) : ∀ e ∈ polA i p, e.length = 17 := fun e he => by
  rcases List.mem_append.1 he with h | h
  · exact polL_17 i 0 p e h
  · rw [List.mem_singleton.1 h]; rfl
theorem polA_d (i p : Nat) : ∀ e ∈ polA i p, e.all C.isD = true := fun e he => by
  rcases List.mem_append.1 he with h | h
  · exact polL_d i 0 p e h
  · rw [List.mem_singleton.1 h]; rfl
theorem round17 {X : Ctx} (hX : X.fns 29 = some fn29) {N : Nat} (hN : 1000 ≤ N) (hv : ∀ i k, (zenv X (N + 1)).vcall 28 [.c (.d (.int .i64 i)), .c (.d (.int .i64 k))] = some (.agg (polE i k))) (h38 : (zenv X (N + 1)).vcall 38 [] = some (.agg anyE))
    {M p m n i ai : Nat} {inp : C} {H : Heap} {rs : List (List C)} (hM : 1000 ≤ M) (hp : p < 900) (hm : m < 900) (hin : i < n) (hn : n < 900) (hH : Hp H.length H) (h1 : uC H.length inp = true) (hai : H[ai]? = some (.cells rs.flatten 0 false)) (hrs : ∀ e ∈ rs, e.length = 8) (hrn : rs.length = n) :
    ∃ r, exec (zenv X (N + 1)) M false fn17L2 ⟨RC p m (.c inp) (.c (os8 ai n)) i n, H⟩ = some (.nrm, ⟨r, H.set ai (.cells (rs.set i (recL H.length p m)).flatten 0 false) ++ newL H.length i p m⟩) ∧ keepOnly [1, 2, 4, 6, 13, 14] 0 r = RC p m (.c inp) (.c (os8 ai n)) (i + 1) n := by
  have hlen : ai < H.length := (List.getElem?_eq_some_iff.1 hai).1
  have h2 : uC H.length (os8 ai n) = true := decide_eq_true hlen
  have hA := loopA hv (N := M) (p := p) (m := m) (n := n) (i := i) (inp := inp) (arr := os8 ai n) (H := H) (by omega) (by omega) hH h1 h2 p 0 [] M (by omega) (by omega) rfl (fun e he => by cases he) (fun e he => by cases he)
  have hB := loopB hv (N := M) (p := p) (m := m) (n := n) (i := i) (inp := .c inp) (arr := .c (os8 ai n)) (os := os17 H.length p p) (A := .cells (polL i 0 p).flatten p false) (H := H) (by omega) (by omega) (by omega) m 0 [] M (by omega) (by omega) rfl (fun e he => by cases he)
  have tA : ∀ a b c d e f g j k, tidy (H.length + 1) (some [1, 2, 4, 6, 7, 8, 13, 14, 16, 17]) ⟨[a, i64 p, i64 m, b, .c inp, c, .c (os8 ai n), i64 i, os17 H.length 0 0, d, e, f, g, i64 n, i64 i, j, i64 p, i64 (0 : Nat), k, .any, .any, .any], H ++ [.cells [] 0 false]⟩ = ⟨RA p m (.c inp) (.c (os8 ai n)) i n (os17 H.length 0 0) 0, H ++ [.cells [] 0 false]⟩ := fun a b c d e f g j k =>
    (show _ = gc (H.length + 1) ⟨RA p m (.c inp) (.c (os8 ai n)) i n (os17 H.length 0 0) 0, H ++ [.cells [] 0 false]⟩ from rfl).trans (gc_le (by simp))
  have tB : ∀ B b c d e f g j k l o, tidy (H.length + 2) (some [1, 2, 4, 6, 7, 8, 10, 13, 14, 19, 20]) ⟨[b, i64 p, i64 m, c, .c inp, d, .c (os8 ai n), i64 i, os17 H.length p p, e, os34 (H.length + 1) m, f, g, i64 n, i64 i, j, k, l, o, i64 m, i64 (0 : Nat), .any], H ++ [.cells (polL i 0 p).flatten p false, B]⟩ = ⟨RB p m (.c inp) (.c (os8 ai n)) i n (os17 H.length p p) (os34 (H.length + 1) m) 0, H ++ [.cells (polL i 0 p).flatten p false, B]⟩ := fun B b c d e f g j k l o =>
    (show _ = gc (H.length + 2) ⟨RB p m (.c inp) (.c (os8 ai n)) i n (os17 H.length p p) (os34 (H.length + 1) m) 0, H ++ [.cells (polL i 0 p).flatten p false, B]⟩ from rfl).trans (gc_le (by simp))
  have hK : Hp (H.length + 3) (H ++ [.cells (polA i p).flatten (p + 1) false, .cells (mapL i p m 0 m).flatten 0 false, .cells anyE 0 false]) :=
    (hH.mono (by omega)).app (Hp.cons (flat_u fun e he => uC_all_d (polA_d i p e he)) (Hp.cons (flat_u fun e he => uC_all_d (mapL_d i p m 0 m e he)) (Hp.cons rfl Hp.nil)))
  have hC := fn29_ok hX (N := N) (pid := H.length) (g := p + 1) (len := p + 1) (mid := H.length + 1) (gm := 0) (om := 0) (mm := m) (cap := none) (capm := some m) (H := H ++ [.cells (polA i p).flatten (p + 1) false, .cells (mapL i p m 0 m).flatten 0 false, .cells anyE 0 false]) (fz := false) hN at0 (polA_17 i p) (polA_d i p) (by simp [polA, polL_len]) (by omega) (by simpa using hK) (by simp)
  have hlt : (i : Int) < (n : Int) := by exact_mod_cast hin
  have e1 : IntKind.i64.wrap ((i : Int) + 1) = ((i + 1 : Nat) : Int) := wrap_succ (by omega)
  have e2 : m * 136 ≤ 1099511627776 := by omega
  have e3 : m ≤ 1099511627776 := by omega
  have e4 : p + 1 ≤ 1073741824 := by omega
  have hl : (polL i 0 p).flatten.length = p * 17 := by rw [flat_len _ (polL_17 i 0 p), polL_len]
  have hl' : (polL i 0 p).flatten.take (p * 17) = (polL i 0 p).flatten := by rw [← hl, List.take_length]
  have hap : (polL i 0 p).flatten ++ anyE = (polA i p).flatten := by simp [polA]
  have hset : ∀ t o, (H ++ t).set ai o = H.set ai o ++ t := fun t o => List.set_append_left _ _ hlen
  have hat : ∀ t, (H ++ t)[ai]? = some (Ob.cells rs.flatten 0 false) := fun t => atL hai
  have hin' : i < rs.length := by omega
  have hst := flat_st (recL H.length p m) hrs (List.getElem?_eq_getElem hin') (Nat.le_refl 8)
  have hst : splice rs.flatten (i * 8) (recL H.length p m) = (rs.set i (recL H.length p m)).flatten := by
    rw [hst, show (rs[i]).drop (recL H.length p m).length = [] from List.drop_eq_nil_of_le (by rw [hrs _ (List.getElem_mem hin')]; exact Nat.le_refl 8), List.append_nil]
  have hbnd : i * 8 + 8 ≤ rs.flatten.length := flat_mem hrs (List.getElem?_eq_getElem hin')
  have h17 : anyE.length = 17 := rfl
  have hfl : anyE.all C.flat = true := rfl
  have htk : anyE.take 17 = anyE := rfl
  have h8 : (recL H.length p m).length = 8 := rfl
  refine ⟨[.any, i64 p, i64 m, .any, .c inp, .any, .c (os8 ai n), i64 i, os17 H.length p p, .any, os34 (H.length + 1) m, .any, .any, i64 n, i64 (i + 1 : Nat), .any, .any, .any, .any, i64 m, i64 m, bl false], ?_, rfl⟩
  rw [show (H ++ [Ob.cells (polA i p).flatten (p + 1) false, .cells (mapL i p m 0 m).flatten 0 false, .cells anyE 0 false]).length + 2 = H.length + 5 by simp] at hC
  simp only [RA, RB, os17, os34, os8, i64, bl, put, z34, arrB, List.flatten_nil, List.nil_append, Int.ofNat_zero] at hA hB tA tB
  simp only [recL_eq] at hC
  simp only [fn17L2, RC, os8, os17, os34, hlt, e1, e2, e3, e4, freshen, tA, hA, tB, hB, rep_flat, byValue, mapO, h38, V.flat, V.flat1, hfl, h17, htk, rep, lay17 h17, elems, at0, at2, se0, hl, hl', hap, zenv_call, hC, hset, hat, hst, hbnd, hin, h8, newL, List.map_cons, List.map_nil, List.append_assoc, List.cons_append, List.nil_append, List.length_append, List.drop_zero, Nat.le_refl, exec, runOps, wants, Mini.step, stepP, stepE, O.eff, Mini.look, nth, put, exports, bin, binInt, i64, bl, asNat_nat, ob_eq, setOb_eq, V.cells, List.length_cons, List.length_nil, Option.map_some, if_true, if_false, decide_true, List.append_nil, List.all_nil, cond_true, Nat.zero_add, Nat.one_mul, and_self, reduceCtorEq, Bool.false_eq_true, Nat.reduceAdd, and_true]
end Mini
end Go.Proofs.YtcilepbdddgpoaaDoor
namespace Go.Proofs.YtcilepbdddgpoaaDoor
namespace Mini
open Go

theorem undersC_false {n : Nat} {c : C} (hc : c.under n = false) : ∀ {cs : List C}, c ∈ cs → undersC n cs = false
  | [], h => by cases h
  | x :: xs, h => by
    rcases List.mem_cons.1 h with rfl | h
    · simp only [undersC, hc, Bool.false_and]
    · simp only [undersC, undersC_false hc h, Bool.and_false]
theorem gc_no2 {hl : Nat} {r : List V} {H : Heap} {o : Ob} {i : Nat} (h1 : H[i]? = some o) (h2 : i < hl) (h3 : o.under hl = false) : gc hl ⟨r, H⟩ = ⟨r, H⟩ := by
  unfold gc
  have : (H.take hl).all (Ob.under hl) = false := by
    rw [List.all_eq_false]
    refine ⟨o, List.mem_of_getElem? (i := i) (by rw [List.getElem?_take_of_lt h2]; exact h1), by rw [h3]; decide⟩
  rw [this, Bool.and_false]
  rfl
/-- The records behind i rounds. -/
def recsL (f : Nat → List C) : Nat → List (List C)
  | 0 => []
  | i + 1 => recsL f i ++ [f i]
theorem recsL_len (f : Nat → List C) : ∀ i, (recsL f i).length = i
  | 0 => rfl
  | i + 1 => by rw [recsL, List.length_append, recsL_len f i]; rfl
theorem recsL_at (f : Nat → List C) : ∀ i k, k < i → (recsL f i)[k]? = some (f k)
  | i + 1, k, h => by
    rw [recsL]
    by_cases hk : k = i
    · subst hk; rw [List.getElem?_append_right (by rw [recsL_len]; exact Nat.le_refl _), recsL_len]; simp
    · rw [List.getElem?_append_left (by rw [recsL_len]; omega)]; exact recsL_at f i k (by omega)
theorem recsL_all (f : Nat → List C) {P : List C → Prop} (h : ∀ i, P (f i)) : ∀ i, ∀ e ∈ recsL f i, P e
  | 0, _, he => by cases he
  | i + 1, e, he => by
    rcases List.mem_append.1 he with h' | h'
    · exact recsL_all f h i e h'
    · rw [List.mem_singleton.1 h']; exact h i
structure Inv17 (L p m n ai : Nat) (base : Nat) (H0 H : Heap) (i : Nat) : Prop where
  len : H.length = L + 6 * i
  arr : H[ai]? = some (.cells (recsL (fun k => recL (L + 6 * k) p m) i ++ List.replicate (n - i) zrec).flatten 0 false)
  hp : Hp H.length H
  old : ∀ j, j < L → j ≠ ai → H[j]? = H0[j]?
  pol : ∀ k, k < i → H[L + 6 * k + 5]? = some (.cells ((polA (base + k) p).map polC).flatten 0 false)
  map : ∀ k, k < i → H[L + 6 * k + 1]? = some (.cells (mapL (base + k) p m 0 m).flatten 0 false)
theorem recL_u {b p m n : Nat} (h : b + 6 ≤ n) : (recL b p m).all (uC n) = true := by
  simp only [recL, recC, m1, List.all_cons, List.all_nil, uC, Bool.and_true, Bool.true_and, Bool.and_eq_true, decide_eq_true_eq]
  omega
theorem rs_8 {L p m n i : Nat} : ∀ e ∈ recsL (fun k => recL (L + 6 * k) p m) i ++ List.replicate (n - i) zrec, e.length = 8 := fun e he => by
  rcases List.mem_append.1 he with h | h
  · exact recsL_all _ (P := fun e => e.length = 8) (fun _ => rfl) i e h
  · rw [List.eq_of_mem_replicate h]; rfl
theorem loop17 {X : Ctx} (hX : X.fns 29 = some fn29) {N : Nat} (hN : 1000 ≤ N) (hv : ∀ i k, (zenv X (N + 1)).vcall 28 [.c (.d (.int .i64 i)), .c (.d (.int .i64 k))] = some (.agg (polE i k))) (h38 : (zenv X (N + 1)).vcall 38 [] = some (.agg anyE))
    {M p m n ai L : Nat} {inp : C} {H0 : Heap} (hM : 1000 ≤ M) (hp : p < 900) (hm : m < 900) (hn : n < 900) (h1 : uC L inp = true) (hai : ai < L) :
    ∀ (c i : Nat) (H : Heap) (fuel : Nat), i + c = n → c < fuel → Inv17 L p m n ai 0 H0 H i →
    ∃ r H', iter (some [1, 2, 4, 6, 13, 14]) L (exec (zenv X (N + 1)) M false fn17L2) fuel ⟨RC p m (.c inp) (.c (os8 ai n)) i n, H⟩ = some (.exit 0, ⟨put (RC p m (.c inp) (.c (os8 ai n)) n n) 15 r, H'⟩) ∧ Inv17 L p m n ai 0 H0 H' n := by
  intro c
  induction c with
  | zero =>
    intro i H fuel a1 a2 a3
    obtain ⟨f, rfl⟩ : ∃ f, fuel = f + 1 := ⟨fuel - 1, by omega⟩
    obtain rfl : i = n := by omega
    refine ⟨bl false, H, iter_stop ?_, a3⟩
    simp only [fn17L2, RC, Int.lt_irrefl, exec, runOps, wants, Mini.step, stepP, stepE, O.eff, Mini.look, nth, put, exports, bin, binInt, i64, bl, Option.map_some, if_true, if_false, decide_false, List.append_nil, List.all_nil, cond_false, Bool.false_eq_true]
  | succ c ih =>
    intro i H fuel a1 a2 a3
    obtain ⟨f, rfl⟩ : ∃ f, fuel = f + 1 := ⟨fuel - 1, by omega⟩
    have hin : i < n := by omega
    have hlenrs : (recsL (fun k => recL (L + 6 * k) p m) i ++ List.replicate (n - i) zrec).length = n := by rw [List.length_append, recsL_len, List.length_replicate]; omega
    obtain ⟨r, hr, hk⟩ := round17 hX hN hv h38 (M := M) hM hp hm hin hn a3.hp (uC_mono (by rw [a3.len]; omega) h1) a3.arr rs_8 hlenrs
    have hset : (recsL (fun k => recL (L + 6 * k) p m) i ++ List.replicate (n - i) zrec).set i (recL H.length p m) = recsL (fun k => recL (L + 6 * k) p m) (i + 1) ++ List.replicate (n - (i + 1)) zrec := by
      rw [List.set_append_right _ _ (by rw [recsL_len]; exact Nat.le_refl _), recsL_len, show n - i = (n - (i + 1)) + 1 by omega, List.replicate_succ]
      simp [recsL, a3.len]
    rw [hset] at hr
    have hai' : ai < H.length := by rw [a3.len]; omega
    have hb : H.length + 6 = L + 6 * (i + 1) := by rw [a3.len]; omega
    have inv : Inv17 L p m n ai 0 H0 (H.set ai (.cells (recsL (fun k => recL (L + 6 * k) p m) (i + 1) ++ List.replicate (n - (i + 1)) zrec).flatten 0 false) ++ newL H.length i p m) (i + 1) := by
      have hl : (H.set ai (.cells (recsL (fun k => recL (L + 6 * k) p m) (i + 1) ++ List.replicate (n - (i + 1)) zrec).flatten 0 false) ++ newL H.length i p m).length = H.length + 6 := by simp [newL]
      have hrs : ∀ e ∈ recsL (fun k => recL (L + 6 * k) p m) (i + 1) ++ List.replicate (n - (i + 1)) zrec, e.all (uC (H.length + 6)) = true := fun e he => by
        rcases List.mem_append.1 he with h | h
        · obtain ⟨k, hk⟩ := List.mem_iff_getElem?.1 h
          have hlt : k < i + 1 := by rw [← recsL_len (fun k => recL (L + 6 * k) p m) (i + 1)]; exact (List.getElem?_eq_some_iff.1 hk).1
          rw [recsL_at _ _ _ hlt, Option.some.injEq] at hk
          subst hk
          exact recL_u (by rw [a3.len]; omega)
        · rw [List.eq_of_mem_replicate h]; rfl
      have hat : ∀ j, j < H.length → j ≠ ai → (H.set ai (.cells (recsL (fun k => recL (L + 6 * k) p m) (i + 1) ++ List.replicate (n - (i + 1)) zrec).flatten 0 false) ++ newL H.length i p m)[j]? = H[j]? := fun j hj hne => by
        rw [List.getElem?_append_left (by simpa using hj), List.getElem?_set_ne (by omega)]
      refine ⟨by rw [hl, hb], ?_, ?_, ?_, ?_, ?_⟩
      · rw [List.getElem?_append_left (by simpa using hai')]; simp [hai']
      · rw [hl]
        refine ((a3.hp.mono (by omega)).set (show uO (H.length + 6) (.cells _ 0 false) = true from flat_u hrs)).app ?_
        exact Hp.cons (flat_u fun e he => uC_all_d (polA_d i p e he)) (Hp.cons (flat_u fun e he => uC_all_d (mapL_d i p m 0 m e he)) (Hp.cons rfl (Hp.cons (recL_u (by omega)) (Hp.cons (recL_u (by omega)) (Hp.cons (flat_u fun e he => by
          obtain ⟨x, hx, rfl⟩ := List.mem_map.1 he
          rw [polC, List.all_append, uC_all_d (polA_d i p x hx)]; rfl) Hp.nil)))))
      · intro j hj hne
        rw [hat j (by rw [a3.len]; omega) hne]
        exact a3.old j hj hne
      · intro k hk
        by_cases hki : k = i
        · subst hki
          rw [List.getElem?_append_right (by rw [List.length_set, a3.len]; omega), List.length_set, a3.len, show L + 6 * k + 5 - (L + 6 * k) = 5 by omega]
          simp [newL]
        · rw [hat _ (by rw [a3.len]; omega) (by omega)]
          exact a3.pol k (by omega)
      · intro k hk
        by_cases hki : k = i
        · subst hki
          rw [List.getElem?_append_right (by rw [List.length_set, a3.len]; omega), List.length_set, a3.len, show L + 6 * k + 1 - (L + 6 * k) = 1 by omega]
          simp [newL]
        · rw [hat _ (by rw [a3.len]; omega) (by omega)]
          exact a3.map k (by omega)
    have ht : ∀ H', Inv17 L p m n ai 0 H0 H' (i + 1) → tidy L (some [1, 2, 4, 6, 13, 14]) ⟨r, H'⟩ = ⟨RC p m (.c inp) (.c (os8 ai n)) (i + 1) n, H'⟩ := fun H' hi => by
      have : tidy L (some [1, 2, 4, 6, 13, 14]) ⟨r, H'⟩ = gc L ⟨RC p m (.c inp) (.c (os8 ai n)) (i + 1) n, H'⟩ := by rw [← hk]; rfl
      rw [this]
      refine gc_no2 hi.arr hai ?_
      have hmem : (C.os (L + 5) 0 0 (p + 1) 18 (some (p + 1))) ∈ (recsL (fun k => recL (L + 6 * k) p m) (i + 1) ++ List.replicate (n - (i + 1)) zrec).flatten := by
        refine List.mem_flatten.2 ⟨recL L p m, List.mem_append_left _ (List.mem_of_getElem? (i := 0) (recsL_at _ _ 0 (by omega))), ?_⟩
        simp [recL, recC]
      exact undersC_false (c := .os (L + 5) 0 0 (p + 1) 18 (some (p + 1))) (decide_eq_false (by omega)) hmem
    rw [iter_step hr, ht _ inv]
    exact ih (i + 1) _ f (by omega) (by omega) inv
/-! ### Read out -/
def unD : C → D
  | .d x => x
  | _ => .nils
theorem deepC_dd (H : Heap) (k : Nat) (x : D) : deepC H k (.d x) = some x := by cases k <;> rfl
theorem mapO_deep (H : Heap) (k : Nat) : ∀ cs : List C, cs.all C.isD = true → mapO (deepC H k) cs = some (cs.map unD)
  | [], _ => rfl
  | c :: cs, h => by
    rw [List.all_cons, Bool.and_eq_true] at h
    cases c with
    | d x => simp only [mapO, deepC_dd, mapO_deep H k cs h.2]; rfl
    | _ => cases h.1
theorem mapO_app {α β : Type} (f : α → Option β) : ∀ {a b : List α} {x y : List β}, mapO f a = some x → mapO f b = some y → mapO f (a ++ b) = some (x ++ y)
  | [], b, x, y, h1, h2 => by cases h1; exact h2
  | c :: a, b, x, y, h1, h2 => by
    simp only [mapO, List.cons_append] at h1 ⊢
    cases hc : f c with
    | none => rw [hc] at h1; cases h1
    | some z =>
      rw [hc] at h1
      cases ha : mapO f a with
      | none => rw [ha] at h1; cases h1
      | some zs =>
        rw [ha] at h1
        cases h1
        simp only [mapO_app f ha h2, List.cons_append]
theorem flat_d {es : List (List C)} (h : ∀ e ∈ es, e.all C.isD = true) : es.flatten.all C.isD = true := by
  rw [List.all_eq_true]
  intro c hc
  obtain ⟨e, he, hce⟩ := List.mem_flatten.1 hc
  exact List.all_eq_true.1 (h e he) c hce
theorem deep_os {H : Heap} {id g len sz k : Nat} {cap : Option Nat} {es : List (List C)} {fz : Bool} (h : H[id]? = some (.cells es.flatten g fz)) (h1 : ∀ e ∈ es, e.length = sz) (h2 : es.length = len) (h3 : ∀ e ∈ es, e.all C.isD = true) :
    deepC H (k + 1) (.os id g 0 len sz cap) = some (.sl (es.flatten.map unD) len) := by
  have hl := flat_len es h1
  rw [h2] at hl
  simp only [deepC, ob_eq, h, if_true, Nat.zero_add, hl, Nat.le_refl, List.drop_zero]
  rw [← hl, List.take_length, mapO_deep H k _ (flat_d h3)]
  rfl
def polsD (i p : Nat) : List D := ((polA i p).map polC).flatten.map unD
def mapsD (i p m : Nat) : List D := (mapL i p m 0 m).flatten.map unD
def recD (i p m : Nat) : List D := [.bool false, .bool true, .sl (polsD i p) (p + 1), .bool (decide ((m : Int) > 0)), .sl (mapsD i p m) m, .int .i64 (-1), .int .i64 (-1), .int .i64 (-1)]
theorem polC_18 (i p : Nat) : ∀ e ∈ (polA i p).map polC, e.length = 18 := fun e he => by
  obtain ⟨x, hx, rfl⟩ := List.mem_map.1 he
  simp [polC, polA_17 i p x hx]
theorem polC_d (i p : Nat) : ∀ e ∈ (polA i p).map polC, e.all C.isD = true := fun e he => by
  obtain ⟨x, hx, rfl⟩ := List.mem_map.1 he
  rw [polC, List.all_append, polA_d i p x hx]; rfl
theorem deep_rec {H : Heap} {b i p m k : Nat} (h5 : H[b + 5]? = some (.cells ((polA i p).map polC).flatten 0 false)) (h1 : H[b + 1]? = some (.cells (mapL i p m 0 m).flatten 0 false)) : mapO (deepC H (k + 1)) (recL b p m) = some (recD i p m) := by
  have a := deep_os (k := k) (cap := some (p + 1)) (len := p + 1) h5 (polC_18 i p) (by simp [polA, polL_len]) (polC_d i p)
  have b := deep_os (k := k) (cap := some m) (len := m) h1 (mapL_34 i p m 0 m) (mapL_len i p m 0 m) (mapL_d i p m 0 m)
  simp only [recL, recC, m1, mapO, deepC_dd, a, b]
  rfl
def recsD (p m : Nat) : Nat → List D
  | 0 => []
  | i + 1 => recsD p m i ++ recD i p m
def longV (n p m : Nat) : V := .c (.d (.sl (recsD p m n) n))
theorem deep_recs {H : Heap} {L p m k : Nat} : ∀ i, (∀ j, j < i → H[L + 6 * j + 5]? = some (.cells ((polA (0 + j) p).map polC).flatten 0 false)) → (∀ j, j < i → H[L + 6 * j + 1]? = some (.cells (mapL (0 + j) p m 0 m).flatten 0 false)) →
    mapO (deepC H (k + 1)) (recsL (fun k => recL (L + 6 * k) p m) i).flatten = some (recsD p m i)
  | 0, _, _ => rfl
  | i + 1, h5, h1 => by
    rw [recsL, List.flatten_append, List.flatten_singleton, recsD]
    have a := h5 i (by omega)
    have b := h1 i (by omega)
    rw [Nat.zero_add] at a b
    exact mapO_app _ (deep_recs i (fun j hj => h5 j (by omega)) (fun j hj => h1 j (by omega))) (deep_rec a b)
theorem deep_long {L p m n ai : Nat} {H0 H : Heap} (h : Inv17 L p m n ai 0 H0 H n) (t : Heap) : deepV1 (H ++ t) (.c (os8 ai n)) = some (longV n p m) := by
  have ha : (H ++ t)[ai]? = some (.cells (recsL (fun k => recL (L + 6 * k) p m) n ++ List.replicate (n - n) zrec).flatten 0 false) := atL h.arr
  rw [Nat.sub_self, List.replicate_zero, List.append_nil] at ha
  have hl : (recsL (fun k => recL (L + 6 * k) p m) n).flatten.length = n * 8 := by rw [flat_len (sz := 8) _ (recsL_all _ (P := fun e => e.length = 8) (fun _ => rfl) n), recsL_len]
  have hr := deep_recs (H := H ++ t) (L := L) (p := p) (m := m) (k := 6) n (fun j hj => atL (h.pol j hj)) (fun j hj => atL (h.map j hj))
  simp only [deepV1, deepMax, os8, deepC, ob_eq, ha, if_true, Nat.zero_add, hl, Nat.le_refl, List.drop_zero]
  rw [← hl, List.take_length, hr]
  rfl

/-! ### Long -/
def inpsC : List C := [.d (.sl (anyE.map unD) 1), .d (.bool true), .d (.bool false), .d (.bool false)]
def inp0 : List C := [.d .nils, .d (.bool false), .d (.bool false), .d (.bool false)]
def inL (n p m : Int) : Bool := (decide (n ≥ 1) && decide (n ≤ 64)) && (decide (p ≥ 0) && decide (p ≤ 63)) && (decide (m ≥ 0) && decide (m ≤ 64))
theorem fn17_in {X : Ctx} (hX : X.fns 17 = some fn17) (hX29 : X.fns 29 = some fn29) {N : Nat} (hN : 1000 ≤ N) (hv : ∀ i k, (zenv X (N + 1)).vcall 28 [.c (.d (.int .i64 i)), .c (.d (.int .i64 k))] = some (.agg (polE i k))) (h38 : (zenv X (N + 1)).vcall 38 [] = some (.agg anyE)) (h30 : (zenv X (N + 1)).vcall 30 [] = some (.agg inpsC))
    (h37 : ∀ n p m, (zenv X (N + 1)).vcall 37 [.c (.d (.int .i64 n)), .c (.d (.int .i64 p)), .c (.d (.int .i64 m))] = some (.c (.d (.bool (inL n p m)))))
    {n p m : Nat} (h1 : 1 ≤ n) (h2 : n ≤ 64) (h3 : p ≤ 63) (h4 : m ≤ 64) (H0 : Heap) (hH0 : Hp H0.length H0) :
    ∃ H', callN X (N + 2) (.d (.fn 17 [] [])) [i64 n, i64 p, i64 m] H0 = some (.tup [.c (os8 (H0.length + 1) n), .agg inpsC, i64 0], H') ∧ (∀ t, deepV1 (H' ++ t) (.c (os8 (H0.length + 1) n)) = some (longV n p m)) ∧ ∀ j, j < H0.length → H'[j]? = H0[j]? := by
  have inv0 : Inv17 (H0.length + 2) p m n (H0.length + 1) 0 (H0 ++ [.cells inp0 0 false, .cells (List.replicate n zrec).flatten 0 false]) (H0 ++ [.cells inp0 0 false, .cells (List.replicate n zrec).flatten 0 false]) 0 := by
    refine ⟨by simp, ?_, ?_, fun _ _ _ => rfl, fun k hk => by omega, fun k hk => by omega⟩
    · rw [recsL, List.nil_append, Nat.sub_zero]; exact at1
    · rw [show (H0 ++ [Ob.cells inp0 0 false, .cells (List.replicate n zrec).flatten 0 false]).length = H0.length + 2 by simp]
      refine (hH0.mono (by omega)).app (Hp.cons rfl (Hp.cons (flat_u fun e he => ?_) Hp.nil))
      rw [List.eq_of_mem_replicate he]; rfl
  obtain ⟨r, H', hl, inv⟩ := loop17 hX29 hN hv h38 (M := N + 1) (p := p) (m := m) (n := n) (ai := H0.length + 1) (L := H0.length + 2) (inp := .ptr H0.length 0 0) (H0 := H0 ++ [.cells inp0 0 false, .cells (List.replicate n zrec).flatten 0 false]) (by omega) (by omega) (by omega) (by omega) (decide_eq_true (by omega)) (by omega) n 0 _ (N + 1) (by omega) (by omega) inv0
  have hin : inL n p m = true := by
    unfold inL
    simp only [Bool.and_eq_true, decide_eq_true_eq]
    omega
  have hinp : H'[H0.length]? = some (.cells inp0 0 false) := by
    rw [inv.old H0.length (by omega) (by omega)]; exact at0
  have hlt : H0.length < H'.length := (List.getElem?_eq_some_iff.1 hinp).1
  have e1 : n * 88 ≤ 1099511627776 := by omega
  have e2 : n ≤ 1099511627776 := by omega
  have hfl : inpsC.all C.flat = false := rfl
  have t1 : ∀ a b c d, tidy (H0.length + 2) (some [1, 2, 4, 6, 13, 14]) ⟨[a, i64 p, i64 m, b, .c (.ptr H0.length 0 0), c, .c (os8 (H0.length + 1) n), .any, .any, .any, .any, .any, d, i64 n, i64 (0 : Nat), .any, .any, .any, .any, .any, .any, .any], H0 ++ [.cells inp0 0 false, .cells (List.replicate n zrec).flatten 0 false]⟩ = ⟨RC p m (.c (.ptr H0.length 0 0)) (.c (os8 (H0.length + 1) n)) 0 n, H0 ++ [.cells inp0 0 false, .cells (List.replicate n zrec).flatten 0 false]⟩ := fun a b c d =>
    (show _ = gc (H0.length + 2) ⟨RC p m (.c (.ptr H0.length 0 0)) (.c (os8 (H0.length + 1) n)) 0 n, H0 ++ [.cells inp0 0 false, .cells (List.replicate n zrec).flatten 0 false]⟩ from rfl).trans (gc_le (by simp))
  refine ⟨H'.set H0.length (.cells inpsC 0 false), ?_, ?_, ?_⟩
  · have hfr : freeze H' ([].flatMap fun a : A => reachV H' (look (zenv X (N + 1)) [] [] a)) = H' := rfl
    have hat : (H'.set H0.length (.cells inpsC 0 false))[H0.length]? = some (.cells inpsC 0 false) := by simp [hlt]
    rw [fn17_is] at hX
    rw [callN_fn hX]
    simp only [RC, os8, i64, put, inp0, zrec, Int.ofNat_zero] at hl t1 hinp
    simp only [inpsC] at hat
    simp only [fn17', runFn, pad, List.replicate, Nat.reduceSub, List.cons_append, List.nil_append, byValue, mapO, deepV1, deepC, h37, hin, Bool.not_true, V.flat, V.flat1, C.flat, D.flat, e1, e2, rep_flat, freshen, t1, hl, h30, os8, inpsC, hinp, List.map_cons, List.map_nil, List.append_assoc, List.length_append, List.drop_zero, List.drop_succ_cons, List.drop_nil, List.take_zero, List.take_succ_cons, List.take_nil, splice, List.flatMap_nil, freeze, List.foldl_nil, results, result, Nat.le_refl, hat, ite_self, exec, runOps, wants, Mini.step, stepP, stepE, O.eff, Mini.look, nth, put, exports, un, i64, asNat_nat, ob_eq, setOb_eq, ofCells, V.cells, List.length_cons, List.length_nil, Option.map_some, if_true, if_false, List.append_nil, List.all_nil, cond_false, Nat.zero_add, and_self, Bool.false_eq_true, Nat.reduceAdd]
  · intro t
    have : Inv17 (H0.length + 2) p m n (H0.length + 1) 0 (H0 ++ [.cells inpsC 0 false, .cells (List.replicate n zrec).flatten 0 false]) (H'.set H0.length (.cells inpsC 0 false)) n := by
      refine ⟨by rw [List.length_set]; exact inv.len, by rw [List.getElem?_set_ne (by omega)]; exact inv.arr, by rw [List.length_set]; exact inv.hp.set rfl, ?_, fun k hk => by rw [List.getElem?_set_ne (by omega)]; exact inv.pol k hk, fun k hk => by rw [List.getElem?_set_ne (by omega)]; exact inv.map k hk⟩
      intro j hj hne
      by_cases hj0 : j = H0.length
      · subst hj0; rw [at0]; simp [hlt]
      · rw [List.getElem?_set_ne (by omega), inv.old j hj hne, List.getElem?_append_left (by omega), List.getElem?_append_left (by omega)]
    exact deep_long this t
  · intro j hj
    rw [List.getElem?_set_ne (by omega), inv.old j (by omega) (by omega), List.getElem?_append_left hj]
end Mini
end Go.Proofs.YtcilepbdddgpoaaDoor
namespace Go.Proofs.YtcilepbdddgpoaaDoor
namespace Mini
open Go

/-- Registers of the innermost loop. -/
def W0 (k : Nat) (inp arr : V) (i n : Nat) (mp os : V) (a b : Nat) : List V := [.any, i64 k, .any, inp, .any, arr, i64 i, mp, os, i64 a, .any, .any, i64 n, i64 i, .any, i64 k, i64 a, .any, i64 k, i64 b, .any]
def pairE (a b : Nat) : List C := polE 0 (a + 1 : Nat) ++ polE 0 (b + 1 : Nat)
def osM (b l c : Nat) : V := .c (.os b 0 0 l 34 (some c))
theorem roundW0 {E : Env} (hv : ∀ i k, E.vcall 28 [.c (.d (.int .i64 i)), .c (.d (.int .i64 k))] = some (.agg (polE i k))) {N k n i a b l : Nat} {inp arr os : V} {A T : Ob} {H : Heap} {es : List (List C)} (hes : ∀ e ∈ es, e.length = 34) (hl : es.length = l) (hlk : l < k * k) (hbk : b < k) (hk : k ≤ 8) (ha : a < k) :
    exec E N false fn9L0 ⟨W0 k inp arr i n (osM H.length l (k * k)) os a b, H ++ [.cells es.flatten 0 false, A, T]⟩ = some (.nrm, ⟨put (put (W0 k inp arr i n (osM H.length (l + 1) (k * k)) os a (b + 1)) 10 (i64 b)) 20 (bl true),
      H ++ [.cells (es ++ [pairE a b]).flatten 0 false, A, T, .cells (pairE a b) 0 false]⟩) := by
  have hlt : (b : Int) < (k : Int) := by exact_mod_cast hbk
  have e1 : IntKind.i64.wrap ((a : Int) + 1) = ((a + 1 : Nat) : Int) := wrap_succ (by omega)
  have e2 : IntKind.i64.wrap ((b : Int) + 1) = ((b + 1 : Nat) : Int) := wrap_succ (by omega)
  have hkk : k * k ≤ 8 * 8 := Nat.mul_le_mul hk hk
  have h34 : (polE 0 (a + 1 : Nat) ++ polE 0 (b + 1 : Nat)).length = 34 := rfl
  have hfl : es.flatten.length = l * 34 := by rw [flat_len es hes, hl]
  have h1 : l + 1 ≤ 1073741824 := by omega
  have h2 : l + 1 ≤ k * k := by omega
  have h3 : (polE 0 (a + 1 : Nat) ++ polE 0 (b + 1 : Nat)).take 34 = polE 0 (a + 1 : Nat) ++ polE 0 (b + 1 : Nat) := rfl
  have hsp : splice es.flatten (l * 34) (polE 0 (a + 1 : Nat) ++ polE 0 (b + 1 : Nat)) = (es ++ [pairE a b]).flatten := by
    unfold splice
    rw [← hfl, List.take_length, List.drop_eq_nil_of_le (by omega)]
    simp [pairE]
  have hrep : ∀ z : List C, rep z 1 = z := fun z => by simp [rep]
  have hl34 : ∀ a, a.length = 34 → lay ([C.d (.int .u8 0)] ++ List.replicate 16 (C.d (.int .u32 0)) ++ [C.d (.int .u8 0)] ++ List.replicate 16 (C.d (.int .u32 0))) [(0, 34, .agg a)] = some a := fun a ha => by
    simp [lay, V.cells, splice, ha]
  have hl34 := hl34 _ h34
  simp only [List.replicate, List.cons_append, List.nil_append] at hl34
  simp only [fn9L0, W0, osM, hlt, e1, e2, byValue, mapO, deepV1, deepC, hv, V.flat, V.flat1, polE_flat, hrep, List.map_cons, List.map_nil, lay34 (polE_len _ _) (polE_len _ _), hl34, elems, at0, at3, se0, hfl, h1, h2, h3, h34, hsp, pairE, List.drop_zero, List.append_assoc, List.cons_append, List.nil_append, List.length_append, Nat.le_refl, exec, runOps, wants, Mini.step, stepP, stepE, O.eff, Mini.look, nth, put, exports, bin, binInt, i64, bl, ob_eq, setOb_eq, List.length_cons, List.length_nil, Option.map_some, if_true, if_false, decide_true, List.all_nil, cond_true, Nat.zero_add, Nat.one_mul, and_self, reduceCtorEq, Bool.false_eq_true, Nat.reduceAdd, and_true]
theorem endW0 {E : Env} {N k n i a : Nat} {inp arr mp os : V} {H : Heap} : exec E N false fn9L0 ⟨W0 k inp arr i n mp os a k, H⟩ = some (.exit 4, ⟨put (W0 k inp arr i n mp os a k) 20 (bl false), H⟩) := by
  simp only [fn9L0, W0, Int.lt_irrefl, exec, runOps, wants, Mini.step, stepP, stepE, O.eff, Mini.look, nth, put, exports, bin, binInt, i64, bl, Option.map_some, if_true, if_false, decide_false, List.append_nil, List.all_nil, cond_false, Bool.false_eq_true]
def rowW (a : Nat) : Nat → Nat → List (List C)
  | _, 0 => []
  | b, c + 1 => pairE a b :: rowW a (b + 1) c
theorem rowW_len (a : Nat) : ∀ b c, (rowW a b c).length = c
  | _, 0 => rfl
  | b, c + 1 => by rw [rowW, List.length_cons, rowW_len a (b + 1) c]
theorem rowW_34 (a : Nat) : ∀ b c, ∀ e ∈ rowW a b c, e.length = 34 ∧ e.all C.isD = true
  | _, 0, _, h => by cases h
  | b, c + 1, e, h => by
    rcases List.mem_cons.1 h with rfl | h
    · exact ⟨rfl, rfl⟩
    · exact rowW_34 a (b + 1) c e h
theorem loopW0 {E : Env} (hv : ∀ i k, E.vcall 28 [.c (.d (.int .i64 i)), .c (.d (.int .i64 k))] = some (.agg (polE i k))) {N k n i a : Nat} {inp arr : C} {A T : Ob} {aid ag al : Nat} {H : Heap} (hk : k ≤ 8) (ha : a < k) (hH : Hp H.length H) (h1 : uC H.length inp = true) (h2 : uC H.length arr = true) (hA : uO H.length A = true) (hT : uO H.length T = true) (haid : aid < H.length + 2) :
    ∀ (c b l : Nat) (es : List (List C)) (fuel : Nat), b + c = k → c < fuel → es.length = l → l + c ≤ k * k → (∀ e ∈ es, e.length = 34 ∧ e.all C.isD = true) →
    iter (some [1, 3, 5, 6, 7, 8, 9, 12, 13, 15, 16, 18, 19]) (H.length + 3) (exec E N false fn9L0) fuel ⟨W0 k (.c inp) (.c arr) i n (osM H.length l (k * k)) (os17 aid ag al) a b, H ++ [.cells es.flatten 0 false, A, T]⟩
      = some (.exit 4, ⟨put (W0 k (.c inp) (.c arr) i n (osM H.length (l + c) (k * k)) (os17 aid ag al) a k) 20 (bl false), H ++ [.cells (es ++ rowW a b c).flatten 0 false, A, T]⟩) := by
  intro c
  induction c with
  | zero =>
    intro b l es fuel a1 a2 a3 a4 a5
    obtain ⟨f, rfl⟩ : ∃ f, fuel = f + 1 := ⟨fuel - 1, by omega⟩
    obtain rfl : b = k := by omega
    rw [iter_stop endW0, rowW, List.append_nil, Nat.add_zero]
  | succ c ih =>
    intro b l es fuel a1 a2 a3 a4 a5
    obtain ⟨f, rfl⟩ : ∃ f, fuel = f + 1 := ⟨fuel - 1, by omega⟩
    have hr := roundW0 hv (N := N) (n := n) (i := i) (inp := .c inp) (arr := .c arr) (os := os17 aid ag al) (A := A) (T := T) (H := H) (fun e he => (a5 e he).1) a3 (by omega : l < k * k) (by omega : b < k) hk ha
    have a5' : ∀ e ∈ es ++ [pairE a b], e.length = 34 ∧ e.all C.isD = true := fun e he => by
      rcases List.mem_append.1 he with h | h
      · exact a5 e h
      · rw [List.mem_singleton.1 h]; exact ⟨rfl, rfl⟩
    have hl : (H ++ [Ob.cells (es ++ [pairE a b]).flatten 0 false, A, T]).length = H.length + 3 := by simp
    have ht : tidy (H.length + 3) (some [1, 3, 5, 6, 7, 8, 9, 12, 13, 15, 16, 18, 19]) ⟨put (put (W0 k (.c inp) (.c arr) i n (osM H.length (l + 1) (k * k)) (os17 aid ag al) a (b + 1)) 10 (i64 b)) 20 (bl true), H ++ [.cells (es ++ [pairE a b]).flatten 0 false, A, T, .cells (pairE a b) 0 false]⟩
        = ⟨W0 k (.c inp) (.c arr) i n (osM H.length (l + 1) (k * k)) (os17 aid ag al) a (b + 1), H ++ [.cells (es ++ [pairE a b]).flatten 0 false, A, T]⟩ := by
      rw [show H ++ [Ob.cells (es ++ [pairE a b]).flatten 0 false, A, T, .cells (pairE a b) 0 false] = (H ++ [Ob.cells (es ++ [pairE a b]).flatten 0 false, A, T]) ++ [.cells (pairE a b) 0 false] by simp]
      refine (show _ = gc (H.length + 3) ⟨W0 k (.c inp) (.c arr) i n (osM H.length (l + 1) (k * k)) (os17 aid ag al) a (b + 1), (H ++ [Ob.cells (es ++ [pairE a b]).flatten 0 false, A, T]) ++ [.cells (pairE a b) 0 false]⟩ from rfl).trans (gc_back _ hl.symm ?_ ?_)
      · rw [hl]
        simp only [W0, os17, osM, i64, List.all_cons, List.all_nil, V.under, uC_under (uC_mono (Nat.le_add_right H.length 3) h1), uC_under (uC_mono (Nat.le_add_right H.length 3) h2), Bool.and_true, Bool.true_and, Bool.and_eq_true]
        exact ⟨rfl, rfl, decide_eq_true (by omega), decide_eq_true (by omega), rfl, rfl, rfl, rfl, rfl, rfl, rfl⟩
      · rw [hl]
        exact (hH.mono (by omega)).app (Hp.cons (flat_u fun e he => uC_all_d (a5' e he).2) (Hp.cons (uO_mono (by omega) hA) (Hp.cons (uO_mono (by omega) hT) Hp.nil)))
    rw [iter_step hr, ht, ih (b + 1) (l + 1) _ f (by omega) (by omega) (by simp [a3]) (by omega) a5']
    simp [rowW, Nat.add_assoc, Nat.add_comm 1 c]
/-- Registers of the middle loop. -/
def W1 (k : Nat) (inp arr : V) (i n : Nat) (mp os : V) (a : Nat) : List V := [.any, i64 k, .any, inp, .any, arr, i64 i, mp, os, .any, .any, .any, i64 n, i64 i, .any, i64 k, i64 a, .any, .any, .any, .any]
theorem roundW1 {E : Env} (hv : ∀ i k, E.vcall 28 [.c (.d (.int .i64 i)), .c (.d (.int .i64 k))] = some (.agg (polE i k))) {N k n i a : Nat} {inp arr : C} {H : Heap} {es ps : List (List C)} (hN : 1000 ≤ N) (hk : k ≤ 8) (ha : a < k) (hH : Hp H.length H) (h1 : uC H.length inp = true) (h2 : uC H.length arr = true)
    (hes : es.length = a * k) (hes' : ∀ e ∈ es, e.length = 34 ∧ e.all C.isD = true) (hps : ps.length = a) (hps' : ∀ e ∈ ps, e.length = 17) (hpsd : ∀ e ∈ ps, e.all C.isD = true) :
    ∃ r, exec E N false fn9L1 ⟨W1 k (.c inp) (.c arr) i n (osM H.length (a * k) (k * k)) (os17 (H.length + 1) a a) a, H ++ [.cells es.flatten 0 false, .cells ps.flatten a false]⟩ = some (.nrm, ⟨r,
      H ++ [.cells (es ++ rowW a 0 k).flatten 0 false, .cells (ps ++ [polE 0 (a + 1 : Nat)]).flatten (a + 1) false, .cells (polE 0 (a + 1 : Nat)) 0 false]⟩) ∧ keepOnly [1, 3, 5, 6, 7, 8, 12, 13, 15, 16] 0 r = W1 k (.c inp) (.c arr) i n (osM H.length ((a + 1) * k) (k * k)) (os17 (H.length + 1) (a + 1) (a + 1)) (a + 1) := by
  have hak : a * k + k ≤ k * k := by
    have : (a + 1) * k ≤ k * k := Nat.mul_le_mul_right _ ha
    rwa [Nat.succ_mul] at this
  have hpp : ∀ e ∈ ps ++ [polE 0 (a + 1 : Nat)], e.all C.isD = true := fun e he => by
    rcases List.mem_append.1 he with h | h
    · exact hpsd e h
    · rw [List.mem_singleton.1 h]; rfl
  have hw := loopW0 hv (N := N) (n := n) (i := i) (inp := inp) (arr := arr) (A := .cells (ps ++ [polE 0 (a + 1 : Nat)]).flatten (a + 1) false) (T := .cells (polE 0 (a + 1 : Nat)) 0 false) (aid := H.length + 1) (ag := a + 1) (al := a + 1) (H := H) hk ha hH h1 h2 (flat_u fun e he => uC_all_d (hpp e he)) rfl (by omega) k 0 (a * k) es N (by omega) (by omega) hes hak hes'
  have hlt : (a : Int) < (k : Int) := by exact_mod_cast ha
  have e1 : IntKind.i64.wrap ((a : Int) + 1) = ((a + 1 : Nat) : Int) := wrap_succ (by omega)
  have hl : ps.flatten.length = a * 17 := by rw [flat_len ps hps', hps]
  have hb : a + 1 ≤ 1073741824 := by omega
  have h3 : ps.flatten.take (a * 17) = ps.flatten := by rw [← hl, List.take_length]
  have h4 : (ps.flatten ++ polE 0 (a + 1 : Nat)) = (ps ++ [polE 0 (a + 1 : Nat)]).flatten := by simp
  have h5 : ∀ j, (polE 0 j).take 17 = polE 0 j := fun j => rfl
  have t1 : ∀ x y z, tidy (H.length + 3) (some [1, 3, 5, 6, 7, 8, 9, 12, 13, 15, 16, 18, 19]) ⟨[.any, i64 k, .any, .c inp, .any, .c arr, i64 i, osM H.length (a * k) (k * k), os17 (H.length + 1) (a + 1) (a + 1), i64 a, x, y, i64 n, i64 i, .any, i64 k, i64 a, z, i64 k, i64 (0 : Nat), .any], H ++ [.cells es.flatten 0 false, .cells (ps ++ [polE 0 (a + 1 : Nat)]).flatten (a + 1) false, .cells (polE 0 (a + 1 : Nat)) 0 false]⟩ = ⟨W0 k (.c inp) (.c arr) i n (osM H.length (a * k) (k * k)) (os17 (H.length + 1) (a + 1) (a + 1)) a 0, H ++ [.cells es.flatten 0 false, .cells (ps ++ [polE 0 (a + 1 : Nat)]).flatten (a + 1) false, .cells (polE 0 (a + 1 : Nat)) 0 false]⟩ := fun x y z =>
    (show _ = gc (H.length + 3) ⟨W0 k (.c inp) (.c arr) i n (osM H.length (a * k) (k * k)) (os17 (H.length + 1) (a + 1) (a + 1)) a 0, _⟩ from rfl).trans (gc_le (by simp))
  refine ⟨[.any, i64 k, .any, .c inp, .any, .c arr, i64 i, osM H.length (a * k + k) (k * k), os17 (H.length + 1) (a + 1) (a + 1), i64 a, .any, .any, i64 n, i64 i, .any, i64 k, i64 (a + 1 : Nat), .any, i64 k, i64 k, bl false], ?_, by rw [Nat.succ_mul]; rfl⟩
  simp only [W0, os17, osM, i64, bl, put, Int.ofNat_zero] at hw t1
  simp only [fn9L1, W1, os17, osM, hlt, e1, byValue, mapO, deepV1, deepC, hv, V.flat, V.flat1, polE_flat, polE_len, rep, List.map_cons, List.map_nil, lay17 (polE_len _ _), elems, at1, at2, se1, hl, hb, h3, h4, h5, freshen, t1, hw, List.drop_zero, List.append_assoc, List.cons_append, List.nil_append, List.length_append, Nat.le_refl, exec, runOps, wants, Mini.step, stepP, stepE, O.eff, Mini.look, nth, put, exports, bin, binInt, i64, bl, ob_eq, setOb_eq, List.length_cons, List.length_nil, Option.map_some, if_true, if_false, decide_true, List.append_nil, List.all_nil, cond_true, Nat.zero_add, Nat.one_mul, and_self, reduceCtorEq, Bool.false_eq_true, Nat.reduceAdd, and_true]
def polW : Nat → Nat → List (List C)
  | _, 0 => []
  | a, c + 1 => polE 0 (a + 1 : Nat) :: polW (a + 1) c
def rowsW (k : Nat) : Nat → Nat → List (List C)
  | _, 0 => []
  | a, c + 1 => rowW a 0 k ++ rowsW k (a + 1) c
theorem endW1 {E : Env} {N k n i : Nat} {inp arr mp os : V} {H : Heap} : exec E N false fn9L1 ⟨W1 k inp arr i n mp os k, H⟩ = some (.exit 2, ⟨put (W1 k inp arr i n mp os k) 17 (bl false), H⟩) := by
  simp only [fn9L1, W1, Int.lt_irrefl, exec, runOps, wants, Mini.step, stepP, stepE, O.eff, Mini.look, nth, put, exports, bin, binInt, i64, bl, Option.map_some, if_true, if_false, decide_false, List.append_nil, List.all_nil, cond_false, Bool.false_eq_true]
theorem loopW1 {E : Env} (hv : ∀ i k, E.vcall 28 [.c (.d (.int .i64 i)), .c (.d (.int .i64 k))] = some (.agg (polE i k))) {N k n i : Nat} {inp arr : C} {H : Heap} (hN : 1000 ≤ N) (hk : k ≤ 8) (hH : Hp H.length H) (h1 : uC H.length inp = true) (h2 : uC H.length arr = true) :
    ∀ (c a : Nat) (es ps : List (List C)) (fuel : Nat), a + c = k → c < fuel → es.length = a * k → (∀ e ∈ es, e.length = 34 ∧ e.all C.isD = true) → ps.length = a → (∀ e ∈ ps, e.length = 17) → (∀ e ∈ ps, e.all C.isD = true) →
    iter (some [1, 3, 5, 6, 7, 8, 12, 13, 15, 16]) (H.length + 2) (exec E N false fn9L1) fuel ⟨W1 k (.c inp) (.c arr) i n (osM H.length (a * k) (k * k)) (os17 (H.length + 1) a a) a, H ++ [.cells es.flatten 0 false, .cells ps.flatten a false]⟩
      = some (.exit 2, ⟨put (W1 k (.c inp) (.c arr) i n (osM H.length (k * k) (k * k)) (os17 (H.length + 1) k k) k) 17 (bl false), H ++ [.cells (es ++ rowsW k a c).flatten 0 false, .cells (ps ++ polW a c).flatten k false]⟩) := by
  intro c
  induction c with
  | zero =>
    intro a es ps fuel a1 a2 a3 a4 a5 a6 a7
    obtain ⟨f, rfl⟩ : ∃ f, fuel = f + 1 := ⟨fuel - 1, by omega⟩
    obtain rfl : a = k := by omega
    rw [iter_stop endW1, rowsW, polW, List.append_nil, List.append_nil]
  | succ c ih =>
    intro a es ps fuel a1 a2 a3 a4 a5 a6 a7
    obtain ⟨f, rfl⟩ : ∃ f, fuel = f + 1 := ⟨fuel - 1, by omega⟩
    obtain ⟨r, hr, hkp⟩ := roundW1 hv (n := n) (i := i) hN hk (by omega : a < k) hH h1 h2 a3 a4 a5 a6 a7
    have a4' : ∀ e ∈ es ++ rowW a 0 k, e.length = 34 ∧ e.all C.isD = true := fun e he => by
      rcases List.mem_append.1 he with h | h
      · exact a4 e h
      · exact rowW_34 a 0 k e h
    have a6' : ∀ e ∈ ps ++ [polE 0 (a + 1 : Nat)], e.length = 17 := fun e he => by
      rcases List.mem_append.1 he with h | h
      · exact a6 e h
      · rw [List.mem_singleton.1 h]; rfl
    have a7' : ∀ e ∈ ps ++ [polE 0 (a + 1 : Nat)], e.all C.isD = true := fun e he => by
      rcases List.mem_append.1 he with h | h
      · exact a7 e h
      · rw [List.mem_singleton.1 h]; rfl
    have hl : (H ++ [Ob.cells (es ++ rowW a 0 k).flatten 0 false, .cells (ps ++ [polE 0 (a + 1 : Nat)]).flatten (a + 1) false]).length = H.length + 2 := by simp
    have ht : tidy (H.length + 2) (some [1, 3, 5, 6, 7, 8, 12, 13, 15, 16]) ⟨r, H ++ [.cells (es ++ rowW a 0 k).flatten 0 false, .cells (ps ++ [polE 0 (a + 1 : Nat)]).flatten (a + 1) false, .cells (polE 0 (a + 1 : Nat)) 0 false]⟩
        = ⟨W1 k (.c inp) (.c arr) i n (osM H.length ((a + 1) * k) (k * k)) (os17 (H.length + 1) (a + 1) (a + 1)) (a + 1), H ++ [.cells (es ++ rowW a 0 k).flatten 0 false, .cells (ps ++ [polE 0 (a + 1 : Nat)]).flatten (a + 1) false]⟩ := by
      rw [show H ++ [Ob.cells (es ++ rowW a 0 k).flatten 0 false, .cells (ps ++ [polE 0 (a + 1 : Nat)]).flatten (a + 1) false, .cells (polE 0 (a + 1 : Nat)) 0 false] = (H ++ [Ob.cells (es ++ rowW a 0 k).flatten 0 false, .cells (ps ++ [polE 0 (a + 1 : Nat)]).flatten (a + 1) false]) ++ [.cells (polE 0 (a + 1 : Nat)) 0 false] by simp, ← hkp]
      refine (show _ = gc (H.length + 2) ⟨keepOnly [1, 3, 5, 6, 7, 8, 12, 13, 15, 16] 0 r, _⟩ from rfl).trans (gc_back _ hl.symm ?_ ?_)
      · rw [hl, hkp]
        simp only [W1, os17, osM, i64, List.all_cons, List.all_nil, V.under, uC_under (uC_mono (Nat.le_add_right H.length 2) h1), uC_under (uC_mono (Nat.le_add_right H.length 2) h2), Bool.and_true, Bool.true_and, Bool.and_eq_true]
        exact ⟨rfl, rfl, decide_eq_true (by omega), decide_eq_true (by omega), rfl, rfl, rfl, rfl⟩
      · rw [hl]
        exact (hH.mono (by omega)).app (Hp.cons (flat_u fun e he => uC_all_d (a4' e he).2) (Hp.cons (flat_u fun e he => uC_all_d (a7' e he)) Hp.nil))
    rw [iter_step hr, ht, ih (a + 1) _ _ f (by omega) (by omega) (by rw [List.length_append, rowW_len, a3, Nat.succ_mul]) a4' (by simp [a5]) a6' a7']
    simp [rowsW, polW]
end Mini
end Go.Proofs.YtcilepbdddgpoaaDoor
namespace Go.Proofs.YtcilepbdddgpoaaDoor
namespace Mini
open Go

theorem rowsW_len (k : Nat) : ∀ a c, (rowsW k a c).length = c * k
  | _, 0 => by simp [rowsW]
  | a, c + 1 => by rw [rowsW, List.length_append, rowW_len, rowsW_len k (a + 1) c, Nat.succ_mul, Nat.add_comm]
theorem rowsW_34 (k : Nat) : ∀ a c, ∀ e ∈ rowsW k a c, e.length = 34 ∧ e.all C.isD = true
  | _, 0, _, h => by cases h
  | a, c + 1, e, h => by
    rcases List.mem_append.1 h with h | h
    · exact rowW_34 a 0 k e h
    · exact rowsW_34 k (a + 1) c e h
theorem polW_len : ∀ a c, (polW a c).length = c
  | _, 0 => rfl
  | a, c + 1 => by rw [polW, List.length_cons, polW_len (a + 1) c]
theorem polW_17 : ∀ a c, ∀ e ∈ polW a c, e.length = 17 ∧ e.all C.isD = true
  | _, 0, _, h => by cases h
  | a, c + 1, e, h => by
    rcases List.mem_cons.1 h with rfl | h
    · exact ⟨rfl, rfl⟩
    · exact polW_17 (a + 1) c e h
def W2 (k : Nat) (inp arr : V) (i n : Nat) : List V := [.any, i64 k, .any, inp, .any, arr, .any, .any, .any, .any, .any, .any, i64 n, i64 i, .any, .any, .any, .any, .any, .any, .any]
def recW (b k : Nat) : List C := recC true (decide (((k * k : Nat) : Int) > 0)) (.os (b + 4) 0 0 k 18 (some k)) (.os b 0 0 (k * k) 34 (some (k * k)))
theorem recW_eq (b k : Nat) : recC true (decide (((k * k : Nat) : Int) > 0)) (.os (b + 4) 0 0 k 18 (some k)) (.os b 0 0 (k * k) 34 (some (k * k))) = recW b k := rfl
def newW (b k : Nat) : Heap := [.cells (rowsW k 0 k).flatten 0 false, .cells (polW 0 k).flatten k false, .cells (recW b k) 0 false, .cells (recW b k) 0 false, .cells ((polW 0 k).map polC).flatten 0 false]
theorem roundW2 {X : Ctx} (hX : X.fns 29 = some fn29) {N : Nat} (hN : 1000 ≤ N) (hv : ∀ i k, (zenv X (N + 1)).vcall 28 [.c (.d (.int .i64 i)), .c (.d (.int .i64 k))] = some (.agg (polE i k)))
    {M k n i ai : Nat} {inp : C} {H : Heap} {rs : List (List C)} (hM : 1000 ≤ M) (hk : k ≤ 8) (hin : i < n) (hn : n < 900) (hH : Hp H.length H) (h1 : uC H.length inp = true) (hai : H[ai]? = some (.cells rs.flatten 0 false)) (hrs : ∀ e ∈ rs, e.length = 8) (hrn : rs.length = n) :
    ∃ r, exec (zenv X (N + 1)) M false fn9L2 ⟨W2 k (.c inp) (.c (os8 ai n)) i n, H⟩ = some (.nrm, ⟨r, H.set ai (.cells (rs.set i (recW H.length k)).flatten 0 false) ++ newW H.length k⟩) ∧ keepOnly [1, 3, 5, 12, 13] 0 r = W2 k (.c inp) (.c (os8 ai n)) (i + 1) n := by
  have hlen : ai < H.length := (List.getElem?_eq_some_iff.1 hai).1
  have hkk : k * k ≤ 8 * 8 := Nat.mul_le_mul hk hk
  have h2 : uC H.length (os8 ai n) = true := decide_eq_true hlen
  have hA := loopW1 hv (N := M) (n := n) (i := i) (inp := inp) (arr := os8 ai n) (H := H) hM hk hH h1 h2 k 0 [] [] M (by omega) (by omega) (by simp) (fun e he => by cases he) rfl (fun e he => by cases he) (fun e he => by cases he)
  rw [Nat.zero_mul] at hA
  have tA : ∀ a b c d e f g j l, tidy (H.length + 2) (some [1, 3, 5, 6, 7, 8, 12, 13, 15, 16]) ⟨[a, i64 k, b, .c inp, c, .c (os8 ai n), i64 i, osM H.length 0 (k * k), os17 (H.length + 1) 0 0, d, e, f, i64 n, i64 i, g, i64 k, i64 (0 : Nat), j, l, .any, .any], H ++ [.cells [] 0 false, .cells [] 0 false]⟩ = ⟨W1 k (.c inp) (.c (os8 ai n)) i n (osM H.length 0 (k * k)) (os17 (H.length + 1) 0 0) 0, H ++ [.cells [] 0 false, .cells [] 0 false]⟩ := fun a b c d e f g j l =>
    (show _ = gc (H.length + 2) ⟨W1 k (.c inp) (.c (os8 ai n)) i n (osM H.length 0 (k * k)) (os17 (H.length + 1) 0 0) 0, H ++ [.cells [] 0 false, .cells [] 0 false]⟩ from rfl).trans (gc_le (by simp))
  have hK : Hp (H.length + 2) (H ++ [.cells (rowsW k 0 k).flatten 0 false, .cells (polW 0 k).flatten k false]) :=
    (hH.mono (by omega)).app (Hp.cons (flat_u fun e he => uC_all_d (rowsW_34 k 0 k e he).2) (Hp.cons (flat_u fun e he => uC_all_d (polW_17 0 k e he).2) Hp.nil))
  have hC := fn29_ok hX (N := N) (pid := H.length + 1) (g := k) (len := k) (mid := H.length) (gm := 0) (om := 0) (mm := k * k) (cap := none) (capm := some (k * k)) (H := H ++ [.cells (rowsW k 0 k).flatten 0 false, .cells (polW 0 k).flatten k false]) (fz := false) hN at1 (fun e he => (polW_17 0 k e he).1) (fun e he => (polW_17 0 k e he).2) (polW_len 0 k) (by omega) (by simpa using hK) (by simp)
  have hlt : (i : Int) < (n : Int) := by exact_mod_cast hin
  have e1 : IntKind.i64.wrap ((i : Int) + 1) = ((i + 1 : Nat) : Int) := wrap_succ (by omega)
  have e0 : IntKind.i64.wrap ((k : Int) * (k : Int)) = ((k * k : Nat) : Int) := i64_id (by simp) (by omega)
  have e2 : k * k * 136 ≤ 1099511627776 := by omega
  have e3 : k * k ≤ 1099511627776 := by omega
  have hset : ∀ t o, (H ++ t).set ai o = H.set ai o ++ t := fun t o => List.set_append_left _ _ hlen
  have hat : ∀ t, (H ++ t)[ai]? = some (Ob.cells rs.flatten 0 false) := fun t => atL hai
  have hin' : i < rs.length := by omega
  have hst := flat_st (recW H.length k) hrs (List.getElem?_eq_getElem hin') (Nat.le_refl 8)
  have hst : splice rs.flatten (i * 8) (recW H.length k) = (rs.set i (recW H.length k)).flatten := by
    rw [hst, show (rs[i]).drop (recW H.length k).length = [] from List.drop_eq_nil_of_le (by rw [hrs _ (List.getElem_mem hin')]; exact Nat.le_refl 8), List.append_nil]
  have hbnd : i * 8 + 8 ≤ rs.flatten.length := flat_mem hrs (List.getElem?_eq_getElem hin')
  have h8 : (recW H.length k).length = 8 := rfl
  have asN0 : asNat (.c (.d (.int .i64 0))) = some 0 := rfl
  refine ⟨[.any, i64 k, .any, .c inp, .any, .c (os8 ai n), i64 i, osM H.length (k * k) (k * k), os17 (H.length + 1) k k, .any, .any, .any, i64 n, i64 (i + 1 : Nat), .any, i64 k, i64 k, bl false, .any, .any, .any], ?_, rfl⟩
  rw [show (H ++ [Ob.cells (rowsW k 0 k).flatten 0 false, .cells (polW 0 k).flatten k false]).length + 2 = H.length + 4 by simp] at hC
  simp only [W1, os17, osM, os8, i64, bl, put, List.flatten_nil, List.nil_append, Int.ofNat_zero] at hA tA
  simp only [recW_eq] at hC
  simp only [fn9L2, W2, os8, os17, osM, hlt, e0, e1, e2, e3, freshen, tA, hA, rep_flat, List.replicate_zero, List.flatten_nil, asN0, Nat.zero_le, zenv_call, hC, hset, hat, hst, hbnd, hin, h8, newW, List.map_cons, List.map_nil, List.append_assoc, List.cons_append, List.nil_append, List.length_append, exec, runOps, wants, Mini.step, stepP, stepE, O.eff, Mini.look, nth, put, exports, bin, binInt, i64, bl, asNat_nat, ob_eq, setOb_eq, V.cells, List.length_cons, List.length_nil, Option.map_some, if_true, if_false, decide_true, List.append_nil, List.all_nil, cond_true, Nat.zero_add, and_self, Bool.false_eq_true, Nat.reduceAdd]
structure Inv9 (L k0 n ai : Nat) (H0 H : Heap) (i : Nat) : Prop where
  len : H.length = L + 5 * i
  arr : H[ai]? = some (.cells (recsL (fun k => recW (L + 5 * k) k0) i ++ List.replicate (n - i) zrec).flatten 0 false)
  hp : Hp H.length H
  old : ∀ j, j < L → j ≠ ai → H[j]? = H0[j]?
  pol : ∀ k, k < i → H[L + 5 * k + 4]? = some (.cells ((polW 0 k0).map polC).flatten 0 false)
  map : ∀ k, k < i → H[L + 5 * k]? = some (.cells (rowsW k0 0 k0).flatten 0 false)
theorem recW_u {b k0 n : Nat} (h : b + 5 ≤ n) : (recW b k0).all (uC n) = true := by
  simp only [recW, recC, m1, List.all_cons, List.all_nil, uC, Bool.and_true, Bool.true_and, Bool.and_eq_true, decide_eq_true_eq]
  omega
theorem rsW_8 {L k0 n i : Nat} : ∀ e ∈ recsL (fun k => recW (L + 5 * k) k0) i ++ List.replicate (n - i) zrec, e.length = 8 := fun e he => by
  rcases List.mem_append.1 he with h | h
  · exact recsL_all _ (P := fun e => e.length = 8) (fun _ => rfl) i e h
  · rw [List.eq_of_mem_replicate h]; rfl
theorem loopW2 {X : Ctx} (hX : X.fns 29 = some fn29) {N : Nat} (hN : 1000 ≤ N) (hv : ∀ i k, (zenv X (N + 1)).vcall 28 [.c (.d (.int .i64 i)), .c (.d (.int .i64 k))] = some (.agg (polE i k)))
    {M k0 n ai L : Nat} {inp : C} {H0 : Heap} (hM : 1000 ≤ M) (hk0 : k0 ≤ 8) (hn : n < 900) (h1 : uC L inp = true) (hai : ai < L) :
    ∀ (c i : Nat) (H : Heap) (fuel : Nat), i + c = n → c < fuel → Inv9 L k0 n ai H0 H i →
    ∃ r H', iter (some [1, 3, 5, 12, 13]) L (exec (zenv X (N + 1)) M false fn9L2) fuel ⟨W2 k0 (.c inp) (.c (os8 ai n)) i n, H⟩ = some (.exit 0, ⟨put (W2 k0 (.c inp) (.c (os8 ai n)) n n) 14 r, H'⟩) ∧ Inv9 L k0 n ai H0 H' n := by
  intro c
  induction c with
  | zero =>
    intro i H fuel a1 a2 a3
    obtain ⟨f, rfl⟩ : ∃ f, fuel = f + 1 := ⟨fuel - 1, by omega⟩
    obtain rfl : i = n := by omega
    refine ⟨bl false, H, iter_stop ?_, a3⟩
    simp only [fn9L2, W2, Int.lt_irrefl, exec, runOps, wants, Mini.step, stepP, stepE, O.eff, Mini.look, nth, put, exports, bin, binInt, i64, bl, Option.map_some, if_true, if_false, decide_false, List.append_nil, List.all_nil, cond_false, Bool.false_eq_true]
  | succ c ih =>
    intro i H fuel a1 a2 a3
    obtain ⟨f, rfl⟩ : ∃ f, fuel = f + 1 := ⟨fuel - 1, by omega⟩
    have hin : i < n := by omega
    have hlenrs : (recsL (fun k => recW (L + 5 * k) k0) i ++ List.replicate (n - i) zrec).length = n := by rw [List.length_append, recsL_len, List.length_replicate]; omega
    obtain ⟨r, hr, hk⟩ := roundW2 hX hN hv (M := M) hM hk0 hin hn a3.hp (uC_mono (by rw [a3.len]; omega) h1) a3.arr rsW_8 hlenrs
    have hset : (recsL (fun k => recW (L + 5 * k) k0) i ++ List.replicate (n - i) zrec).set i (recW H.length k0) = recsL (fun k => recW (L + 5 * k) k0) (i + 1) ++ List.replicate (n - (i + 1)) zrec := by
      rw [List.set_append_right _ _ (by rw [recsL_len]; exact Nat.le_refl _), recsL_len, show n - i = (n - (i + 1)) + 1 by omega, List.replicate_succ]
      simp [recsL, a3.len]
    rw [hset] at hr
    have hai' : ai < H.length := by rw [a3.len]; omega
    have hb : H.length + 5 = L + 5 * (i + 1) := by rw [a3.len]; omega
    have inv : Inv9 L k0 n ai H0 (H.set ai (.cells (recsL (fun k => recW (L + 5 * k) k0) (i + 1) ++ List.replicate (n - (i + 1)) zrec).flatten 0 false) ++ newW H.length k0) (i + 1) := by
      have hl : (H.set ai (.cells (recsL (fun k => recW (L + 5 * k) k0) (i + 1) ++ List.replicate (n - (i + 1)) zrec).flatten 0 false) ++ newW H.length k0).length = H.length + 5 := by simp [newW]
      have hrs : ∀ e ∈ recsL (fun k => recW (L + 5 * k) k0) (i + 1) ++ List.replicate (n - (i + 1)) zrec, e.all (uC (H.length + 5)) = true := fun e he => by
        rcases List.mem_append.1 he with h | h
        · obtain ⟨k, hk⟩ := List.mem_iff_getElem?.1 h
          have hlt : k < i + 1 := by rw [← recsL_len (fun k => recW (L + 5 * k) k0) (i + 1)]; exact (List.getElem?_eq_some_iff.1 hk).1
          rw [recsL_at _ _ _ hlt, Option.some.injEq] at hk
          subst hk
          exact recW_u (by rw [a3.len]; omega)
        · rw [List.eq_of_mem_replicate h]; rfl
      have hat : ∀ j, j < H.length → j ≠ ai → (H.set ai (.cells (recsL (fun k => recW (L + 5 * k) k0) (i + 1) ++ List.replicate (n - (i + 1)) zrec).flatten 0 false) ++ newW H.length k0)[j]? = H[j]? := fun j hj hne => by
        rw [List.getElem?_append_left (by simpa using hj), List.getElem?_set_ne (by omega)]
      refine ⟨by rw [hl, hb], ?_, ?_, ?_, ?_, ?_⟩
      · rw [List.getElem?_append_left (by simpa using hai')]; simp [hai']
      · rw [hl]
        refine ((a3.hp.mono (by omega)).set (show uO (H.length + 5) (.cells _ 0 false) = true from flat_u hrs)).app ?_
        exact Hp.cons (flat_u fun e he => uC_all_d (rowsW_34 k0 0 k0 e he).2) (Hp.cons (flat_u fun e he => uC_all_d (polW_17 0 k0 e he).2) (Hp.cons (recW_u (by omega)) (Hp.cons (recW_u (by omega)) (Hp.cons (flat_u fun e he => by
          obtain ⟨x, hx, rfl⟩ := List.mem_map.1 he
          rw [polC, List.all_append, uC_all_d (polW_17 0 k0 x hx).2]; rfl) Hp.nil))))
      · intro j hj hne
        rw [hat j (by rw [a3.len]; omega) hne]
        exact a3.old j hj hne
      · intro k hk
        by_cases hki : k = i
        · subst hki
          rw [List.getElem?_append_right (by rw [List.length_set, a3.len]; omega), List.length_set, a3.len, show L + 5 * k + 4 - (L + 5 * k) = 4 by omega]
          simp [newW]
        · rw [hat _ (by rw [a3.len]; omega) (by omega)]
          exact a3.pol k (by omega)
      · intro k hk
        by_cases hki : k = i
        · subst hki
          rw [List.getElem?_append_right (by rw [List.length_set, a3.len]; omega), List.length_set, a3.len, show L + 5 * k - (L + 5 * k) = 0 by omega]
          simp [newW]
        · rw [hat _ (by rw [a3.len]; omega) (by omega)]
          exact a3.map k (by omega)
    have ht : ∀ H', Inv9 L k0 n ai H0 H' (i + 1) → tidy L (some [1, 3, 5, 12, 13]) ⟨r, H'⟩ = ⟨W2 k0 (.c inp) (.c (os8 ai n)) (i + 1) n, H'⟩ := fun H' hi => by
      have : tidy L (some [1, 3, 5, 12, 13]) ⟨r, H'⟩ = gc L ⟨W2 k0 (.c inp) (.c (os8 ai n)) (i + 1) n, H'⟩ := by rw [← hk]; rfl
      rw [this]
      refine gc_no2 hi.arr hai ?_
      have hmem : (C.os (L + 4) 0 0 k0 18 (some k0)) ∈ (recsL (fun k => recW (L + 5 * k) k0) (i + 1) ++ List.replicate (n - (i + 1)) zrec).flatten := by
        refine List.mem_flatten.2 ⟨recW L k0, List.mem_append_left _ (List.mem_of_getElem? (i := 0) (recsL_at _ _ 0 (by omega))), ?_⟩
        simp [recW, recC]
      exact undersC_false (c := .os (L + 4) 0 0 k0 18 (some k0)) (decide_eq_false (by omega)) hmem
    rw [iter_step hr, ht _ inv]
    exact ih (i + 1) _ f (by omega) (by omega) inv
/-! ### Read out -/
def polsWD (k : Nat) : List D := ((polW 0 k).map polC).flatten.map unD
def mapsWD (k : Nat) : List D := (rowsW k 0 k).flatten.map unD
def recWD (k : Nat) : List D := [.bool false, .bool true, .sl (polsWD k) k, .bool (decide (((k * k : Nat) : Int) > 0)), .sl (mapsWD k) (k * k), .int .i64 (-1), .int .i64 (-1), .int .i64 (-1)]
theorem polWC_18 (k : Nat) : ∀ e ∈ (polW 0 k).map polC, e.length = 18 := fun e he => by
  obtain ⟨x, hx, rfl⟩ := List.mem_map.1 he
  simp [polC, (polW_17 0 k x hx).1]
theorem polWC_d (k : Nat) : ∀ e ∈ (polW 0 k).map polC, e.all C.isD = true := fun e he => by
  obtain ⟨x, hx, rfl⟩ := List.mem_map.1 he
  rw [polC, List.all_append, (polW_17 0 k x hx).2]; rfl
theorem deep_recW {H : Heap} {b k0 k : Nat} (h5 : H[b + 4]? = some (.cells ((polW 0 k0).map polC).flatten 0 false)) (h1 : H[b]? = some (.cells (rowsW k0 0 k0).flatten 0 false)) : mapO (deepC H (k + 1)) (recW b k0) = some (recWD k0) := by
  have a := deep_os (k := k) (cap := some k0) (len := k0) h5 (polWC_18 k0) (by simp [polW_len]) (polWC_d k0)
  have b := deep_os (k := k) (cap := some (k0 * k0)) (len := k0 * k0) h1 (fun e he => (rowsW_34 k0 0 k0 e he).1) (rowsW_len k0 0 k0) (fun e he => (rowsW_34 k0 0 k0 e he).2)
  simp only [recW, recC, m1, mapO, deepC_dd, a, b]
  rfl
def recsWD (k : Nat) : Nat → List D
  | 0 => []
  | i + 1 => recsWD k i ++ recWD k
def wideV (n k : Nat) : V := .c (.d (.sl (recsWD k n) n))
theorem deep_recsW {H : Heap} {L k0 k : Nat} : ∀ i, (∀ j, j < i → H[L + 5 * j + 4]? = some (.cells ((polW 0 k0).map polC).flatten 0 false)) → (∀ j, j < i → H[L + 5 * j]? = some (.cells (rowsW k0 0 k0).flatten 0 false)) →
    mapO (deepC H (k + 1)) (recsL (fun k => recW (L + 5 * k) k0) i).flatten = some (recsWD k0 i)
  | 0, _, _ => rfl
  | i + 1, h5, h1 => by
    rw [recsL, List.flatten_append, List.flatten_singleton, recsWD]
    exact mapO_app _ (deep_recsW i (fun j hj => h5 j (by omega)) (fun j hj => h1 j (by omega))) (deep_recW (h5 i (by omega)) (h1 i (by omega)))
theorem deep_wide {L k0 n ai : Nat} {H0 H : Heap} (h : Inv9 L k0 n ai H0 H n) (t : Heap) : deepV1 (H ++ t) (.c (os8 ai n)) = some (wideV n k0) := by
  have ha : (H ++ t)[ai]? = some (.cells (recsL (fun k => recW (L + 5 * k) k0) n ++ List.replicate (n - n) zrec).flatten 0 false) := atL h.arr
  rw [Nat.sub_self, List.replicate_zero, List.append_nil] at ha
  have hl : (recsL (fun k => recW (L + 5 * k) k0) n).flatten.length = n * 8 := by rw [flat_len (sz := 8) _ (recsL_all _ (P := fun e => e.length = 8) (fun _ => rfl) n), recsL_len]
  have hr := deep_recsW (H := H ++ t) (L := L) (k0 := k0) (k := 6) n (fun j hj => atL (h.pol j hj)) (fun j hj => atL (h.map j hj))
  simp only [deepV1, deepMax, os8, deepC, ob_eq, ha, if_true, Nat.zero_add, hl, Nat.le_refl, List.drop_zero]
  rw [← hl, List.take_length, hr]
  rfl

/-! ### Wide -/
theorem fn9_in {X : Ctx} (hX : X.fns 9 = some fn9) (hX29 : X.fns 29 = some fn29) {N : Nat} (hN : 1000 ≤ N) (hv : ∀ i k, (zenv X (N + 1)).vcall 28 [.c (.d (.int .i64 i)), .c (.d (.int .i64 k))] = some (.agg (polE i k))) (h30 : (zenv X (N + 1)).vcall 30 [] = some (.agg inpsC))
    (h27 : ∀ v lo hi, (zenv X (N + 1)).vcall 27 [.c (.d (.int .i64 v)), .c (.d (.int .i64 lo)), .c (.d (.int .i64 hi))] = some (.c (.d (.bool (decide (v ≥ lo) && decide (v ≤ hi))))))
    {n k : Nat} (h1 : 1 ≤ n) (h2 : n ≤ 64) (h3 : 1 ≤ k) (h4 : k ≤ 8) (H0 : Heap) (hH0 : Hp H0.length H0) :
    ∃ H', callN X (N + 2) (.d (.fn 9 [] [])) [i64 n, i64 k] H0 = some (.tup [.c (os8 (H0.length + 1) n), .agg inpsC, i64 0], H') ∧ (∀ t, deepV1 (H' ++ t) (.c (os8 (H0.length + 1) n)) = some (wideV n k)) ∧ ∀ j, j < H0.length → H'[j]? = H0[j]? := by
  have inv0 : Inv9 (H0.length + 2) k n (H0.length + 1) (H0 ++ [.cells inp0 0 false, .cells (List.replicate n zrec).flatten 0 false]) (H0 ++ [.cells inp0 0 false, .cells (List.replicate n zrec).flatten 0 false]) 0 := by
    refine ⟨by simp, ?_, ?_, fun _ _ _ => rfl, fun k hk => by omega, fun k hk => by omega⟩
    · rw [recsL, List.nil_append, Nat.sub_zero]; exact at1
    · rw [show (H0 ++ [Ob.cells inp0 0 false, .cells (List.replicate n zrec).flatten 0 false]).length = H0.length + 2 by simp]
      refine (hH0.mono (by omega)).app (Hp.cons rfl (Hp.cons (flat_u fun e he => ?_) Hp.nil))
      rw [List.eq_of_mem_replicate he]; rfl
  obtain ⟨r, H', hl, inv⟩ := loopW2 hX29 hN hv (M := N + 1) (k0 := k) (n := n) (ai := H0.length + 1) (L := H0.length + 2) (inp := .ptr H0.length 0 0) (H0 := H0 ++ [.cells inp0 0 false, .cells (List.replicate n zrec).flatten 0 false]) (by omega) (by omega) (by omega) (decide_eq_true (by omega)) (by omega) n 0 _ (N + 1) (by omega) (by omega) inv0
  have c1 : (n : Int) ≥ 1 := by omega
  have c2 : (n : Int) ≤ 64 := by omega
  have c3 : (k : Int) ≥ 1 := by omega
  have c4 : (k : Int) ≤ 8 := by omega
  have hinp : H'[H0.length]? = some (.cells inp0 0 false) := by
    rw [inv.old H0.length (by omega) (by omega)]; exact at0
  have hlt : H0.length < H'.length := (List.getElem?_eq_some_iff.1 hinp).1
  have e1 : n * 88 ≤ 1099511627776 := by omega
  have e2 : n ≤ 1099511627776 := by omega
  have hfl : inpsC.all C.flat = false := rfl
  have t1 : ∀ a b c d, tidy (H0.length + 2) (some [1, 3, 5, 12, 13]) ⟨[a, i64 k, b, .c (.ptr H0.length 0 0), c, .c (os8 (H0.length + 1) n), .any, .any, .any, .any, .any, d, i64 n, i64 (0 : Nat), .any, .any, .any, .any, .any, .any, .any], H0 ++ [.cells inp0 0 false, .cells (List.replicate n zrec).flatten 0 false]⟩ = ⟨W2 k (.c (.ptr H0.length 0 0)) (.c (os8 (H0.length + 1) n)) 0 n, H0 ++ [.cells inp0 0 false, .cells (List.replicate n zrec).flatten 0 false]⟩ := fun a b c d =>
    (show _ = gc (H0.length + 2) ⟨W2 k (.c (.ptr H0.length 0 0)) (.c (os8 (H0.length + 1) n)) 0 n, H0 ++ [.cells inp0 0 false, .cells (List.replicate n zrec).flatten 0 false]⟩ from rfl).trans (gc_le (by simp))
  refine ⟨H'.set H0.length (.cells inpsC 0 false), ?_, ?_, ?_⟩
  · have hfr : freeze H' ([].flatMap fun a : A => reachV H' (look (zenv X (N + 1)) [] [] a)) = H' := rfl
    have hat : (H'.set H0.length (.cells inpsC 0 false))[H0.length]? = some (.cells inpsC 0 false) := by simp [hlt]
    rw [fn9_is] at hX
    rw [callN_fn hX]
    simp only [W2, os8, i64, put, inp0, zrec, Int.ofNat_zero] at hl t1 hinp
    simp only [inpsC] at hat
    simp only [fn9', runFn, pad, List.replicate, Nat.reduceSub, List.cons_append, List.nil_append, byValue, mapO, deepV1, deepC, h27, c1, c2, c3, c4, Bool.and_self, Bool.not_true, beq_self_eq_true, V.flat, V.flat1, C.flat, D.flat, e1, e2, rep_flat, freshen, t1, hl, h30, os8, inpsC, hinp, List.map_cons, List.map_nil, List.append_assoc, List.length_append, List.drop_zero, List.drop_succ_cons, List.drop_nil, List.take_zero, List.take_succ_cons, List.take_nil, splice, List.flatMap_nil, freeze, List.foldl_nil, results, result, Nat.le_refl, hat, ite_self, exec, runOps, wants, Mini.step, stepP, stepE, O.eff, Mini.look, nth, put, exports, un, i64, asNat_nat, ob_eq, setOb_eq, ofCells, V.cells, List.length_cons, List.length_nil, Option.map_some, if_true, if_false, decide_true, List.append_nil, List.all_nil, cond_false, Nat.zero_add, and_self, Bool.false_eq_true, Nat.reduceAdd]
  · intro t
    have : Inv9 (H0.length + 2) k n (H0.length + 1) (H0 ++ [.cells inpsC 0 false, .cells (List.replicate n zrec).flatten 0 false]) (H'.set H0.length (.cells inpsC 0 false)) n := by
      refine ⟨by rw [List.length_set]; exact inv.len, by rw [List.getElem?_set_ne (by omega)]; exact inv.arr, by rw [List.length_set]; exact inv.hp.set rfl, ?_, fun k hk => by rw [List.getElem?_set_ne (by omega)]; exact inv.pol k hk, fun k hk => by rw [List.getElem?_set_ne (by omega)]; exact inv.map k hk⟩
      intro j hj hne
      by_cases hj0 : j = H0.length
      · subst hj0; rw [at0]; simp [hlt]
      · rw [List.getElem?_set_ne (by omega), inv.old j hj hne, List.getElem?_append_left (by omega), List.getElem?_append_left (by omega)]
    exact deep_wide this t
  · intro j hj
    rw [List.getElem?_set_ne (by omega), inv.old j (by omega) (by omega), List.getElem?_append_left hj]
end Mini
end Go.Proofs.YtcilepbdddgpoaaDoor
namespace Go.Proofs.YtcilepbdddgpoaaDoor
namespace Mini
open Go

theorem lay18 {a : List C} (h : a.length = 17) : lay [.d (.int .u8 0), .d (.int .u32 0), .d (.int .u32 0), .d (.int .u32 0), .d (.int .u32 0), .d (.int .u32 0), .d (.int .u32 0), .d (.int .u32 0), .d (.int .u32 0), .d (.int .u32 0), .d (.int .u32 0), .d (.int .u32 0), .d (.int .u32 0), .d (.int .u32 0), .d (.int .u32 0), .d (.int .u32 0), .d (.int .u32 0), .d .nils] [(0, 17, .agg a)] = some (a ++ [.d .nils]) := by
  simp [lay, V.cells, splice, h]
theorem lay18' {a : List C} (h : a.length = 18) : lay [.d (.int .u8 0), .d (.int .u32 0), .d (.int .u32 0), .d (.int .u32 0), .d (.int .u32 0), .d (.int .u32 0), .d (.int .u32 0), .d (.int .u32 0), .d (.int .u32 0), .d (.int .u32 0), .d (.int .u32 0), .d (.int .u32 0), .d (.int .u32 0), .d (.int .u32 0), .d (.int .u32 0), .d (.int .u32 0), .d (.int .u32 0), .d .nils] [(0, 18, .agg a)] = some a := by
  simp [lay, V.cells, splice, h]
theorem lay34' {a : List C} (h : a.length = 34) : lay [.d (.int .u8 0), .d (.int .u32 0), .d (.int .u32 0), .d (.int .u32 0), .d (.int .u32 0), .d (.int .u32 0), .d (.int .u32 0), .d (.int .u32 0), .d (.int .u32 0), .d (.int .u32 0), .d (.int .u32 0), .d (.int .u32 0), .d (.int .u32 0), .d (.int .u32 0), .d (.int .u32 0), .d (.int .u32 0), .d (.int .u32 0), .d (.int .u8 0), .d (.int .u32 0), .d (.int .u32 0), .d (.int .u32 0), .d (.int .u32 0), .d (.int .u32 0), .d (.int .u32 0), .d (.int .u32 0), .d (.int .u32 0), .d (.int .u32 0), .d (.int .u32 0), .d (.int .u32 0), .d (.int .u32 0), .d (.int .u32 0), .d (.int .u32 0), .d (.int .u32 0), .d (.int .u32 0)] [(0, 34, .agg a)] = some a := by
  simp [lay, V.cells, splice, h]
theorem fn34_a {X : Ctx} (hX : X.fns 34 = some fn34) {N : Nat} {hp hm : Bool} {M : C} {a : List C} {H : Heap} (ha : a.length = 17) :
    callN X (N + 1) (.d (.fn 34 [] [])) [.agg (recC hp hm (.d .nils) M), .agg a] H = some (.agg (recC true hm (.os (H.length + 4) 0 0 1 18 none) M),
      H ++ [.cells (recC true hm (.os (H.length + 4) 0 0 1 18 none) M) 0 false, .cells a 0 false, .cells (recC true hm (.os (H.length + 4) 0 0 1 18 none) M) 0 false, .cells (polC a) 0 false, .cells (polC a) 0 false]) := by
  rw [callN_fn hX]
  have h18 : (a ++ [C.d .nils]).length = 18 := by simp [ha]
  have ht : a.take 17 = a := by rw [← ha, List.take_length]
  have ht' : (a ++ [C.d .nils]).take 18 = a ++ [C.d .nils] := by rw [← h18, List.take_length]
  simp only [fn34, recC, m1, polC, runFn, pad, List.replicate, Nat.reduceSub, List.cons_append, List.nil_append, List.append_assoc, rep, splice, List.map_cons, List.map_nil, ht, ht', ha, h18, lay18 ha, lay18' h18, elems, at0, at1, at2, at3, se0, se2, results, result, mapO, List.length_append, List.take_zero, List.take_succ_cons, List.take_nil, List.drop_zero, List.drop_succ_cons, List.drop_nil, Nat.le_refl, exec, runOps, wants, Mini.step, stepP, stepE, O.eff, Mini.look, nth, put, exports, ob_eq, setOb_eq, ofCells, V.cells, List.length_cons, List.length_nil, Option.map_some, if_true, if_false, List.append_nil, List.all_nil, Nat.zero_add, Nat.one_mul, and_self, reduceCtorEq, Bool.false_eq_true, Nat.reduceAdd, Nat.reduceLeDiff]
theorem fn34_b {X : Ctx} (hX : X.fns 34 = some fn34) {N id g k : Nat} {hp hm : Bool} {M : C} {a : List C} {es : List (List C)} {H : Heap} (ha : a.length = 17) (hid : H[id]? = some (.cells es.flatten g false)) (hes : ∀ e ∈ es, e.length = 18) (hk : es.length = k) (hb : k < 1000) :
    callN X (N + 1) (.d (.fn 34 [] [])) [.agg (recC hp hm (.os id g 0 k 18 none) M), .agg a] H = some (.agg (recC true hm (.os id (g + 1) 0 (k + 1) 18 none) M),
      H.set id (.cells (es ++ [polC a]).flatten (g + 1) false) ++ [.cells (recC true hm (.os id (g + 1) 0 (k + 1) 18 none) M) 0 false, .cells a 0 false, .cells (recC true hm (.os id (g + 1) 0 (k + 1) 18 none) M) 0 false, .cells (polC a) 0 false]) := by
  rw [callN_fn hX]
  have hlt : id < H.length := (List.getElem?_eq_some_iff.1 hid).1
  have h18 : (a ++ [C.d .nils]).length = 18 := by simp [ha]
  have ht : a.take 17 = a := by rw [← ha, List.take_length]
  have ht' : (a ++ [C.d .nils]).take 18 = a ++ [C.d .nils] := by rw [← h18, List.take_length]
  have hl : es.flatten.length = k * 18 := by rw [flat_len es hes, hk]
  have hf : es.flatten.take (k * 18) = es.flatten := by rw [← hl, List.take_length]
  have hat : ∀ t, (H ++ t)[id]? = some (Ob.cells es.flatten g false) := fun t => atL hid
  have hset : ∀ t o, (H ++ t).set id o = H.set id o ++ t := fun t o => List.set_append_left _ _ hlt
  have hb' : k + 1 ≤ 1073741824 := by omega
  have hfl : (es ++ [a ++ [C.d .nils]]).flatten = es.flatten ++ (a ++ [.d .nils]) := by simp
  have hsl : ∀ o, (H.set id o).length = H.length := fun o => List.length_set
  have at0' : ∀ {o : Ob} {x : Ob} {t : Heap}, (H.set id o ++ x :: t)[H.length]? = some x := fun {o x t} => by rw [← hsl o]; exact at0
  have at2' : ∀ {o : Ob} {x y z : Ob} {t : Heap}, (H.set id o ++ x :: y :: z :: t)[H.length + 2]? = some z := fun {o x y z t} => by rw [← hsl o]; exact at2
  have se0' : ∀ {o : Ob} {x v : Ob} {t : Heap}, (H.set id o ++ x :: t).set H.length v = H.set id o ++ v :: t := fun {o x v t} => by rw [← hsl o]; exact se0
  have se2' : ∀ {o : Ob} {x y z v : Ob} {t : Heap}, (H.set id o ++ x :: y :: z :: t).set (H.length + 2) v = H.set id o ++ x :: y :: v :: t := fun {o x y z v t} => by rw [← hsl o]; exact se2
  simp only [fn34, ht, ht', ha, h18, lay18 ha, lay18' h18, hl, hf, hat, hset, hb', hfl, at0', at2', se0', se2', recC, m1, polC, runFn, pad, List.replicate, Nat.reduceSub, List.cons_append, List.nil_append, List.append_assoc, rep, splice, List.map_cons, List.map_nil, elems, at0, at1, at3, se0, results, result, mapO, List.length_append, List.take_zero, List.take_succ_cons, List.take_nil, List.drop_zero, List.drop_succ_cons, List.drop_nil, Nat.le_refl, exec, runOps, wants, Mini.step, stepP, stepE, O.eff, Mini.look, nth, put, exports, ob_eq, setOb_eq, ofCells, V.cells, List.length_cons, List.length_nil, Option.map_some, if_true, if_false, List.append_nil, List.all_nil, Nat.zero_add, Nat.one_mul, and_self, reduceCtorEq, Bool.false_eq_true, Nat.reduceAdd, Nat.reduceLeDiff, and_true]
theorem fn35_a {X : Ctx} (hX : X.fns 35 = some fn35) {N : Nat} {hp hm : Bool} {P : C} {a b : List C} {H : Heap} (ha : a.length = 17) (hb : b.length = 17) :
    callN X (N + 1) (.d (.fn 35 [] [])) [.agg (recC hp hm P (.d .nils)), .agg a, .agg b] H = some (.agg (recC hp true P (.os (H.length + 5) 0 0 1 34 none)),
      H ++ [.cells (recC hp true P (.os (H.length + 5) 0 0 1 34 none)) 0 false, .cells a 0 false, .cells b 0 false, .cells (recC hp true P (.os (H.length + 5) 0 0 1 34 none)) 0 false, .cells (a ++ b) 0 false, .cells (a ++ b) 0 false]) := by
  rw [callN_fn hX]
  have h34 : (a ++ b).length = 34 := by simp [ha, hb]
  have ht : a.take 17 = a := by rw [← ha, List.take_length]
  have hs : b.take 17 = b := by rw [← hb, List.take_length]
  have ht' : (a ++ b).take 34 = a ++ b := by rw [← h34, List.take_length]
  simp only [fn35, ht, hs, ht', ha, hb, h34, lay34 ha hb, lay34' h34, recC, m1, runFn, pad, List.replicate, Nat.reduceSub, List.cons_append, List.nil_append, List.append_assoc, rep, splice, List.map_cons, List.map_nil, elems, at0, at1, at2, at3, at4, se0, se3, results, result, mapO, List.length_append, List.take_zero, List.take_succ_cons, List.take_nil, List.drop_zero, List.drop_succ_cons, List.drop_nil, Nat.le_refl, exec, runOps, wants, Mini.step, stepP, stepE, O.eff, Mini.look, nth, put, exports, ob_eq, setOb_eq, ofCells, V.cells, List.length_cons, List.length_nil, Option.map_some, if_true, if_false, List.append_nil, List.all_nil, Nat.zero_add, Nat.one_mul, and_self, reduceCtorEq, Bool.false_eq_true, Nat.reduceAdd, Nat.reduceLeDiff]
theorem fn35_b {X : Ctx} (hX : X.fns 35 = some fn35) {N id g k : Nat} {hp hm : Bool} {P : C} {a b : List C} {es : List (List C)} {H : Heap} (ha : a.length = 17) (hb : b.length = 17) (hid : H[id]? = some (.cells es.flatten g false)) (hes : ∀ e ∈ es, e.length = 34) (hk : es.length = k) (hb1 : k < 1000) :
    callN X (N + 1) (.d (.fn 35 [] [])) [.agg (recC hp hm P (.os id g 0 k 34 none)), .agg a, .agg b] H = some (.agg (recC hp true P (.os id (g + 1) 0 (k + 1) 34 none)),
      H.set id (.cells (es ++ [a ++ b]).flatten (g + 1) false) ++ [.cells (recC hp true P (.os id (g + 1) 0 (k + 1) 34 none)) 0 false, .cells a 0 false, .cells b 0 false, .cells (recC hp true P (.os id (g + 1) 0 (k + 1) 34 none)) 0 false, .cells (a ++ b) 0 false]) := by
  rw [callN_fn hX]
  have hlt : id < H.length := (List.getElem?_eq_some_iff.1 hid).1
  have h34 : (a ++ b).length = 34 := by simp [ha, hb]
  have ht : a.take 17 = a := by rw [← ha, List.take_length]
  have hs : b.take 17 = b := by rw [← hb, List.take_length]
  have ht' : (a ++ b).take 34 = a ++ b := by rw [← h34, List.take_length]
  have hl : es.flatten.length = k * 34 := by rw [flat_len es hes, hk]
  have hf : es.flatten.take (k * 34) = es.flatten := by rw [← hl, List.take_length]
  have hat : ∀ t, (H ++ t)[id]? = some (Ob.cells es.flatten g false) := fun t => atL hid
  have hset : ∀ t o, (H ++ t).set id o = H.set id o ++ t := fun t o => List.set_append_left _ _ hlt
  have hb' : k + 1 ≤ 1073741824 := by omega
  have hfl : (es ++ [a ++ b]).flatten = es.flatten ++ (a ++ b) := by simp
  have hsl : ∀ o, (H.set id o).length = H.length := fun o => List.length_set
  have at0' : ∀ {o : Ob} {x : Ob} {t : Heap}, (H.set id o ++ x :: t)[H.length]? = some x := fun {o x t} => by rw [← hsl o]; exact at0
  have at3' : ∀ {o : Ob} {x y z v : Ob} {t : Heap}, (H.set id o ++ x :: y :: z :: v :: t)[H.length + 3]? = some v := fun {o x y z v t} => by rw [← hsl o]; exact at3
  have se0' : ∀ {o : Ob} {x v : Ob} {t : Heap}, (H.set id o ++ x :: t).set H.length v = H.set id o ++ v :: t := fun {o x v t} => by rw [← hsl o]; exact se0
  have se3' : ∀ {o : Ob} {x y z u v : Ob} {t : Heap}, (H.set id o ++ x :: y :: z :: u :: t).set (H.length + 3) v = H.set id o ++ x :: y :: z :: v :: t := fun {o x y z u v t} => by rw [← hsl o]; exact se3
  simp only [fn35, ht, hs, ht', ha, hb, h34, lay34 ha hb, lay34' h34, hl, hf, hat, hset, hb', hfl, at0', at3', se0', se3', recC, m1, runFn, pad, List.replicate, Nat.reduceSub, List.cons_append, List.nil_append, List.append_assoc, rep, splice, List.map_cons, List.map_nil, elems, at0, at1, at2, at4, se0, results, result, mapO, List.length_append, List.take_zero, List.take_succ_cons, List.take_nil, List.drop_zero, List.drop_succ_cons, List.drop_nil, Nat.le_refl, exec, runOps, wants, Mini.step, stepP, stepE, O.eff, Mini.look, nth, put, exports, ob_eq, setOb_eq, ofCells, V.cells, List.length_cons, List.length_nil, Option.map_some, if_true, if_false, List.append_nil, List.all_nil, Nat.zero_add, Nat.one_mul, and_self, reduceCtorEq, Bool.false_eq_true, Nat.reduceAdd, Nat.reduceLeDiff, and_true]

theorem Hp.cells {n g : Nat} {f : Bool} {cs : List C} {t : Heap} (h : cs.all (uC n) = true) (ht : Hp n t) : Hp n (.cells cs g f :: t) := Hp.cons (show uO n (.cells cs g f) = true from h) ht
theorem Hp.setc {n i g : Nat} {f : Bool} {cs : List C} {H : Heap} (h : Hp n H) (hc : cs.all (uC n) = true) : Hp n (H.set i (.cells cs g f)) := h.set (show uO n (.cells cs g f) = true from hc)
theorem uC_os {n id g o l s : Nat} {c : Option Nat} (h : id < n) : uC n (.os id g o l s c) = true := decide_eq_true h
/-! ### A record that grows -/
def ArrAt (H : Heap) (b sz : Nat) (P : C) (es : List (List C)) : Prop := (es = [] ∧ P = .d .nils) ∨ (∃ id g, P = .os id g 0 es.length sz none ∧ b ≤ id ∧ H[id]? = some (.cells es.flatten g false) ∧ es ≠ [])
/-- At R lies a record with these policies, these pairs; whatever is below R is as it was. -/
structure RecAt (H0 H : Heap) (R bp bm : Nat) (hp hm : Bool) (ps ms : List (List C)) : Prop where
  hH : Hp H.length H
  low : ∀ j, j < R → H[j]? = H0[j]?
  wid : bp > R ∧ bm > R
  cel : ∃ P M, H[R]? = some (.cells (recC hp hm P M) 0 false) ∧ ArrAt H bp 18 P ps ∧ ArrAt H bm 34 M ms ∧ ∀ i j g g' l l' s s' c c', P = .os i g 0 l s c → M = .os j g' 0 l' s' c' → i ≠ j
theorem arr_keep {H H' : Heap} {b sz : Nat} {P : C} {es : List (List C)} (h : ArrAt H b sz P es) (hk : ∀ i g, P = .os i g 0 es.length sz none → H'[i]? = H[i]?) : ArrAt H' b sz P es := by
  rcases h with h | ⟨id, g, rfl, h1, h2, h3⟩
  · exact Or.inl h
  · exact Or.inr ⟨id, g, rfl, h1, (hk id g rfl).trans h2, h3⟩
theorem arr_u {H : Heap} {b sz n : Nat} {P : C} {es : List (List C)} (h : ArrAt H b sz P es) (hn : H.length ≤ n) : uC n P = true := by
  rcases h with ⟨_, rfl⟩ | ⟨id, g, rfl, _, h2, _⟩
  · rfl
  · exact decide_eq_true (Nat.lt_of_lt_of_le (List.getElem?_eq_some_iff.1 h2).1 hn)
theorem recC_u {n : Nat} {hp hm : Bool} {P M : C} (h1 : uC n P = true) (h2 : uC n M = true) : (recC hp hm P M).all (uC n) = true := by
  simp only [recC, List.all_cons, List.all_nil, Bool.and_eq_true]
  exact ⟨rfl, rfl, h1, rfl, h2, rfl, rfl, rfl, trivial⟩
theorem list_step {X : Ctx} (hX : X.fns 34 = some fn34) {N R bp bm : Nat} {hp hm : Bool} {ps ms : List (List C)} {a : List C} {H0 H : Heap} (ha : a.length = 17) (hda : a.all C.isD = true) (hR : RecAt H0 H R bp bm hp hm ps ms) (hx : ∀ e ∈ ps, e.length = 18) (hxd : ∀ e ∈ ps, e.all C.isD = true) (hxl : ps.length < 1000) (hbl : bp ≤ H.length) :
    ∃ P M rec' H1, H[R]? = some (.cells (recC hp hm P M) 0 false) ∧ callN X (N + 1) (.d (.fn 34 [] [])) [.agg (recC hp hm P M), .agg a] H = some (.agg rec', H1) ∧ rec'.length = 8 ∧ (∃ c, H1[R]? = some (.cells c 0 false) ∧ c.length = 8) ∧ RecAt H0 (H1.set R (.cells rec' 0 false)) R bp bm true hm (ps ++ [polC a]) ms ∧ H.length ≤ H1.length := by
  obtain ⟨hH, low, hw, P, M, hcel, aP, aM, hdist⟩ := hR
  have hRl : R < H.length := (List.getElem?_eq_some_iff.1 hcel).1
  have hnew : (polC a).all C.isD = true := by rw [polC, List.all_append, hda]; rfl
  have hY : ∀ j g l s c, M = .os j g 0 l s c → bm ≤ j ∧ j < H.length := fun j g l s c e => by
    rcases aM with ⟨_, h⟩ | ⟨id, g', h, h1, h2, _⟩
    · rw [h] at e; cases e
    · rw [h] at e; cases e; exact ⟨h1, (List.getElem?_eq_some_iff.1 h2).1⟩
  rcases aP with ⟨rfl, rfl⟩ | ⟨id, g, rfl, h1, h2, _⟩
  · refine ⟨.d .nils, M, _, _, hcel, (fn34_a hX ha), rfl, ⟨_, atL hcel, rfl⟩, ⟨?_, ?_, hw, ?_⟩, by simp⟩
    · have hl : ((H ++ [Ob.cells (recC true hm (.os (H.length + 4) 0 0 1 18 none) M) 0 false, .cells a 0 false, .cells (recC true hm (.os (H.length + 4) 0 0 1 18 none) M) 0 false, .cells (polC a) 0 false, .cells (polC a) 0 false]).set R (.cells (recC true hm (.os (H.length + 4) 0 0 1 18 none) M) 0 false)).length = H.length + 5 := by simp
      rw [hl]
      exact ((hH.mono (by omega)).app (Hp.cells (recC_u (uC_os (by omega)) (arr_u aM (by omega))) (Hp.cells (uC_all_d hda) (Hp.cells (recC_u (uC_os (by omega)) (arr_u aM (by omega))) (Hp.cells (uC_all_d hnew) (Hp.cells (uC_all_d hnew) Hp.nil)))))).setc (recC_u (uC_os (by omega)) (arr_u aM (by omega)))
    · intro j hj
      rw [List.getElem?_set_ne (by omega), List.getElem?_append_left (by omega)]
      exact low j hj
    · refine ⟨_, M, List.getElem?_set_self (by rw [List.length_append]; omega), Or.inr ⟨H.length + 4, 0, rfl, by omega, ?_, by simp⟩, ?_, fun i j g1 g2 l1 l2 s1 s2 c1 c2 e1 e2 => by
        cases e1
        have := hY j g2 l2 s2 c2 e2
        omega⟩
      · rw [List.getElem?_set_ne (by omega), at4]; simp
      · refine arr_keep aM fun i g e => ?_
        have := hY i g _ _ _ e
        rw [List.getElem?_set_ne (by omega), List.getElem?_append_left (by omega)]
  · have hid : id < H.length := (List.getElem?_eq_some_iff.1 h2).1
    have hne : id ≠ R := by omega
    refine ⟨_, M, _, _, hcel, (fn34_b hX ha h2 hx rfl hxl), rfl, ⟨_, atL (by rw [List.getElem?_set_ne hne]; exact hcel), rfl⟩, ⟨?_, ?_, hw, ?_⟩, by simp⟩
    · have hl : ((H.set id (.cells (ps ++ [polC a]).flatten (g + 1) false) ++ [Ob.cells (recC true hm (.os id (g + 1) 0 (ps.length + 1) 18 none) M) 0 false, .cells a 0 false, .cells (recC true hm (.os id (g + 1) 0 (ps.length + 1) 18 none) M) 0 false, .cells (polC a) 0 false]).set R (.cells (recC true hm (.os id (g + 1) 0 (ps.length + 1) 18 none) M) 0 false)).length = H.length + 4 := by simp
      rw [hl]
      have hfl : uO (H.length + 4) (.cells (ps ++ [polC a]).flatten (g + 1) false) = true := flat_u fun e he => by
        rcases List.mem_append.1 he with h | h
        · exact uC_all_d (hxd e h)
        · rw [List.mem_singleton.1 h]; exact uC_all_d hnew
      exact (((hH.mono (by omega)).set hfl).app (Hp.cells (recC_u (uC_os (by omega)) (arr_u aM (by omega))) (Hp.cells (uC_all_d hda) (Hp.cells (recC_u (uC_os (by omega)) (arr_u aM (by omega))) (Hp.cells (uC_all_d hnew) Hp.nil))))).setc (recC_u (uC_os (by omega)) (arr_u aM (by omega)))
    · intro j hj
      rw [List.getElem?_set_ne (by omega), List.getElem?_append_left (by rw [List.length_set]; omega), List.getElem?_set_ne (by omega)]
      exact low j hj
    · refine ⟨.os id (g + 1) 0 (ps.length + 1) 18 none, M, ?_, Or.inr ⟨id, g + 1, by simp, h1, ?_, by simp⟩, ?_, fun i j g1 g2 l1 l2 s1 s2 c1 c2 e1 e2 => by
        cases e1
        exact hdist _ j _ g2 _ l2 _ s2 _ c2 rfl e2⟩
      · exact List.getElem?_set_self (by rw [List.length_append, List.length_set]; omega)
      · rw [List.getElem?_set_ne (by omega), List.getElem?_append_left (by rw [List.length_set]; omega)]
        simp [hid]
      · refine arr_keep aM fun i g' e => ?_
        have h3 := hY i g' _ _ _ e
        have h4 : id ≠ i := hdist _ i _ g' _ _ _ _ _ _ rfl e
        rw [List.getElem?_set_ne (by omega), List.getElem?_append_left (by rw [List.length_set]; omega), List.getElem?_set_ne h4]
theorem pair_step {X : Ctx} (hX : X.fns 35 = some fn35) {N R bp bm : Nat} {hp hm : Bool} {ps ms : List (List C)} {a b : List C} {H0 H : Heap} (ha : a.length = 17) (hda : a.all C.isD = true) (hb : b.length = 17) (hdb : b.all C.isD = true) (hR : RecAt H0 H R bp bm hp hm ps ms) (hx : ∀ e ∈ ms, e.length = 34) (hxd : ∀ e ∈ ms, e.all C.isD = true) (hxl : ms.length < 1000) (hbl : bm ≤ H.length) :
    ∃ P M rec' H1, H[R]? = some (.cells (recC hp hm P M) 0 false) ∧ callN X (N + 1) (.d (.fn 35 [] [])) [.agg (recC hp hm P M), .agg a, .agg b] H = some (.agg rec', H1) ∧ rec'.length = 8 ∧ (∃ c, H1[R]? = some (.cells c 0 false) ∧ c.length = 8) ∧ RecAt H0 (H1.set R (.cells rec' 0 false)) R bp bm hp true ps (ms ++ [a ++ b]) ∧ H.length ≤ H1.length := by
  obtain ⟨hH, low, hw, P, M, hcel, aP, aM, hdist⟩ := hR
  have hRl : R < H.length := (List.getElem?_eq_some_iff.1 hcel).1
  have hnew : (a ++ b).all C.isD = true := by rw [List.all_append, hda, hdb]; rfl
  have hY : ∀ j g l s c, P = .os j g 0 l s c → bp ≤ j ∧ j < H.length := fun j g l s c e => by
    rcases aP with ⟨_, h⟩ | ⟨id, g', h, h1, h2, _⟩
    · rw [h] at e; cases e
    · rw [h] at e; cases e; exact ⟨h1, (List.getElem?_eq_some_iff.1 h2).1⟩
  rcases aM with ⟨rfl, rfl⟩ | ⟨id, g, rfl, h1, h2, _⟩
  · refine ⟨P, .d .nils, _, _, hcel, (fn35_a hX ha hb), rfl, ⟨_, atL hcel, rfl⟩, ⟨?_, ?_, hw, ?_⟩, by simp⟩
    · have hl : ((H ++ [Ob.cells (recC hp true P (.os (H.length + 5) 0 0 1 34 none)) 0 false, .cells a 0 false, .cells b 0 false, .cells (recC hp true P (.os (H.length + 5) 0 0 1 34 none)) 0 false, .cells (a ++ b) 0 false, .cells (a ++ b) 0 false]).set R (.cells (recC hp true P (.os (H.length + 5) 0 0 1 34 none)) 0 false)).length = H.length + 6 := by simp
      rw [hl]
      exact ((hH.mono (by omega)).app (Hp.cells (recC_u (arr_u aP (by omega)) (uC_os (by omega))) (Hp.cells (uC_all_d hda) (Hp.cells (uC_all_d hdb) (Hp.cells (recC_u (arr_u aP (by omega)) (uC_os (by omega))) (Hp.cells (uC_all_d hnew) (Hp.cells (uC_all_d hnew) Hp.nil))))))).setc (recC_u (arr_u aP (by omega)) (uC_os (by omega)))
    · intro j hj
      rw [List.getElem?_set_ne (by omega), List.getElem?_append_left (by omega)]
      exact low j hj
    · refine ⟨P, _, List.getElem?_set_self (by rw [List.length_append]; omega), ?_, Or.inr ⟨H.length + 5, 0, rfl, by omega, ?_, by simp⟩, fun i j g1 g2 l1 l2 s1 s2 c1 c2 e1 e2 => by
        cases e2
        have := hY i g1 l1 s1 c1 e1
        omega⟩
      · refine arr_keep aP fun i g e => ?_
        have := hY i g _ _ _ e
        rw [List.getElem?_set_ne (by omega), List.getElem?_append_left (by omega)]
      · rw [List.getElem?_set_ne (by omega), at5]; simp
  · have hid : id < H.length := (List.getElem?_eq_some_iff.1 h2).1
    have hne : id ≠ R := by omega
    refine ⟨P, _, _, _, hcel, (fn35_b hX ha hb h2 hx rfl hxl), rfl, ⟨_, atL (by rw [List.getElem?_set_ne hne]; exact hcel), rfl⟩, ⟨?_, ?_, hw, ?_⟩, by simp⟩
    · have hl : ((H.set id (.cells (ms ++ [(a ++ b)]).flatten (g + 1) false) ++ [Ob.cells (recC hp true P (.os id (g + 1) 0 (ms.length + 1) 34 none)) 0 false, .cells a 0 false, .cells b 0 false, .cells (recC hp true P (.os id (g + 1) 0 (ms.length + 1) 34 none)) 0 false, .cells (a ++ b) 0 false]).set R (.cells (recC hp true P (.os id (g + 1) 0 (ms.length + 1) 34 none)) 0 false)).length = H.length + 5 := by simp
      rw [hl]
      have hfl : uO (H.length + 5) (.cells (ms ++ [(a ++ b)]).flatten (g + 1) false) = true := flat_u fun e he => by
        rcases List.mem_append.1 he with h | h
        · exact uC_all_d (hxd e h)
        · rw [List.mem_singleton.1 h]; exact uC_all_d hnew
      exact (((hH.mono (by omega)).set hfl).app (Hp.cells (recC_u (arr_u aP (by omega)) (uC_os (by omega))) (Hp.cells (uC_all_d hda) (Hp.cells (uC_all_d hdb) (Hp.cells (recC_u (arr_u aP (by omega)) (uC_os (by omega))) (Hp.cells (uC_all_d hnew) Hp.nil)))))).setc (recC_u (arr_u aP (by omega)) (uC_os (by omega)))
    · intro j hj
      rw [List.getElem?_set_ne (by omega), List.getElem?_append_left (by rw [List.length_set]; omega), List.getElem?_set_ne (by omega)]
      exact low j hj
    · refine ⟨P, .os id (g + 1) 0 (ms.length + 1) 34 none, ?_, ?_, Or.inr ⟨id, g + 1, by simp, h1, ?_, by simp⟩, fun i j g1 g2 l1 l2 s1 s2 c1 c2 e1 e2 => by
        cases e2
        exact hdist i _ g1 _ l1 _ s1 _ c1 _ e1 rfl⟩
      · exact List.getElem?_set_self (by rw [List.length_append, List.length_set]; omega)
      · refine arr_keep aP fun i g' e => ?_
        have h3 := hY i g' _ _ _ e
        have h4 : id ≠ i := fun h => hdist i _ g' _ _ _ _ _ _ _ e rfl h.symm
        rw [List.getElem?_set_ne (by omega), List.getElem?_append_left (by rw [List.length_set]; omega), List.getElem?_set_ne h4]
      · rw [List.getElem?_set_ne (by omega), List.getElem?_append_left (by rw [List.length_set]; omega)]
        simp [hid]
end Mini
end Go.Proofs.YtcilepbdddgpoaaDoor
namespace Go.Proofs.YtcilepbdddgpoaaDoor
namespace Mini
open Go

theorem rec_take {hp hm : Bool} {P M : C} : (recC hp hm P M).take 8 = recC hp hm P M := rfl
theorem rec_len {hp hm : Bool} {P M : C} : (recC hp hm P M).length = 8 := rfl
theorem splice_all {c new : List C} (h : c.length = new.length) : splice c 0 new = new := by
  unfold splice
  rw [List.take_zero, List.nil_append, Nat.zero_add, List.drop_eq_nil_of_le (by omega), List.append_nil]
theorem RecAt.pol_back {H0 H : Heap} {R bp bm : Nat} {hp hm : Bool} {ps ms : List (List C)} (h : RecAt H0 H R bp bm hp hm ps ms) (hne : ps ≠ []) : ∃ o, H[R]? = some o ∧ o.under bp = false := by
  obtain ⟨P, M, h1, h2, _, _⟩ := h.cel
  rcases h2 with ⟨rfl, _⟩ | ⟨id, g, rfl, h3, _, _⟩
  · exact absurd rfl hne
  · exact ⟨_, h1, undersC_false (c := .os id g 0 ps.length 18 none) (decide_eq_false (by omega)) (by simp [recC])⟩
theorem RecAt.map_back {H0 H : Heap} {R bp bm : Nat} {hp hm : Bool} {ps ms : List (List C)} (h : RecAt H0 H R bp bm hp hm ps ms) (hne : ms ≠ []) : ∃ o, H[R]? = some o ∧ o.under bm = false := by
  obtain ⟨P, M, h1, _, h2, _⟩ := h.cel
  rcases h2 with ⟨rfl, _⟩ | ⟨id, g, rfl, h3, _, _⟩
  · exact absurd rfl hne
  · exact ⟨_, h1, undersC_false (c := .os id g 0 ms.length 34 none) (decide_eq_false (by omega)) (by simp [recC])⟩
theorem RecAt.rebm {H0 H : Heap} {R bp bm bm' : Nat} {hp hm : Bool} {ps : List (List C)} (h : RecAt H0 H R bp bm hp hm ps []) (hb : bm' > R) : RecAt H0 H R bp bm' hp hm ps [] := by
  obtain ⟨a, b, c, P, M, h1, h2, h3, h4⟩ := h
  refine ⟨a, b, ⟨c.1, hb⟩, P, M, h1, h2, ?_, h4⟩
  rcases h3 with h3 | ⟨id, g, _, _, _, h7⟩
  · exact Or.inl h3
  · exact absurd rfl h7
/-- Registers: L the number in register 7 or 8. -/
def RP (n p m : Nat) (r4 : V) (i R k : Nat) : List V := [i64 n, i64 p, i64 m, .any, r4, i64 (i + 1 : Nat), .c (.ptr R 0 0), i64 (k + 1 : Nat), .any, .any, .any, .any]
def RM (n p m : Nat) (r4 : V) (i R k : Nat) : List V := [i64 n, i64 p, i64 m, .any, r4, i64 (i + 1 : Nat), .c (.ptr R 0 0), .any, i64 (k + 1 : Nat), .any, .any, .any]
theorem polC_len {a : List C} (h : a.length = 17) : (polC a).length = 18 := by simp [polC, h]
theorem polC_dd {a : List C} (h : a.all C.isD = true) : (polC a).all C.isD = true := by rw [polC, List.all_append, h]; rfl
theorem mem_snoc {α : Type} {P : α → Prop} {l : List α} {x : α} (h : ∀ e ∈ l, P e) (hx : P x) : ∀ e ∈ l ++ [x], P e := fun e he => by
  rcases List.mem_append.1 he with h' | h'
  · exact h e h'
  · rw [List.mem_singleton.1 h']; exact hx
theorem roundP {X : Ctx} (hX : X.fns 34 = some fn34) {N M n p m i R k bm : Nat} {r4 : V} {hp hm : Bool} {ps ms : List (List C)} {H0 H : Heap} (hv : ∀ i k, (zenv X (N + 1)).vcall 26 [.c (.d (.int .i64 i)), .c (.d (.int .i64 k))] = some (.agg (polE i k))) (hR : RecAt H0 H R (R + 1) bm hp hm ps ms) (hx : ∀ e ∈ ps, e.length = 18) (hxd : ∀ e ∈ ps, e.all C.isD = true) (hk : k < p) (hp1 : p < 900) (hl : ps.length = k) :
    ∃ H', exec (zenv X (N + 1)) M false fn20L1 ⟨RP n p m r4 i R k, H⟩ = some (.nrm, ⟨put (RP n p m r4 i R (k + 1)) 10 (bl true), H'⟩) ∧ RecAt H0 H' R (R + 1) bm true hm (ps ++ [polC (polE (i + 1 : Nat) (k + 1 : Nat))]) ms ∧ H.length ≤ H'.length := by
  have hRl : R + 1 ≤ H.length := by
    obtain ⟨P, M, h1, _⟩ := hR.cel
    exact (List.getElem?_eq_some_iff.1 h1).1
  obtain ⟨P, M', rec', H1, h1, h2, h3, ⟨c, h4, h4'⟩, h5, h6⟩ := list_step hX (N := N) (a := polE (i + 1 : Nat) (k + 1 : Nat)) rfl rfl hR hx hxd (by omega) hRl
  refine ⟨_, ?_, h5, by rw [List.length_set]; exact h6⟩
  have e0 : ((k + 1 : Nat) : Int) ≤ (p : Int) := by omega
  have e1 : IntKind.i64.wrap (((k + 1 : Nat) : Int) + 1) = ((k + 1 + 1 : Nat) : Int) := wrap_succ (by omega)
  have hsp := splice_all (c := c) (new := rec') (by omega)
  simp only [fn20L1, RP, e0, e1, h1, rec_take, rec_len, hv, byValue, mapO, deepV1, deepC, V.flat, V.flat1, polE_flat, zenv_call, h2, h4, h4', h3, hsp, List.map_cons, List.map_nil, List.drop_zero, Nat.le_refl, exec, runOps, wants, Mini.step, stepP, stepE, O.eff, Mini.look, nth, put, exports, bin, binInt, i64, bl, ob_eq, setOb_eq, ofCells, V.cells, Option.map_some, if_true, if_false, decide_true, List.append_nil, List.all_nil, cond_true, Nat.zero_add, and_self, Bool.false_eq_true]
theorem endP {E : Env} {M n p m i R : Nat} {r4 : V} {H : Heap} : exec E M false fn20L1 ⟨RP n p m r4 i R p, H⟩ = some (.exit 2, ⟨put (RP n p m r4 i R p) 10 (bl false), H⟩) := by
  have e0 : ¬ ((p + 1 : Nat) : Int) ≤ (p : Int) := by omega
  simp only [fn20L1, RP, e0, exec, runOps, wants, Mini.step, stepP, stepE, O.eff, Mini.look, nth, put, exports, bin, binInt, i64, bl, Option.map_some, if_true, if_false, decide_false, List.append_nil, List.all_nil, cond_false, Bool.false_eq_true]
theorem loopP {X : Ctx} (hX : X.fns 34 = some fn34) {N M n p m i R bm : Nat} {r4 : V} {hm : Bool} {ms : List (List C)} {H0 : Heap} (hv : ∀ i k, (zenv X (N + 1)).vcall 26 [.c (.d (.int .i64 i)), .c (.d (.int .i64 k))] = some (.agg (polE i k))) (hp1 : p < 900) :
    ∀ (c k fuel : Nat) (hp : Bool) (ps : List (List C)) (H : Heap), k + c = p → c < fuel → ps.length = k → (∀ e ∈ ps, e.length = 18) → (∀ e ∈ ps, e.all C.isD = true) → RecAt H0 H R (R + 1) bm hp hm ps ms →
    ∃ hp' H', iter (some [0, 1, 2, 4, 5, 6, 7]) (R + 1) (exec (zenv X (N + 1)) M false fn20L1) fuel ⟨RP n p m r4 i R k, H⟩ = some (.exit 2, ⟨put (RP n p m r4 i R p) 10 (bl false), H'⟩) ∧ RecAt H0 H' R (R + 1) bm hp' hm (ps ++ (polL i k c).map polC) ms ∧ H.length ≤ H'.length := by
  intro c
  induction c with
  | zero =>
    intro k fuel hp ps H a1 a2 a3 a4 a5 a6
    obtain ⟨f, rfl⟩ : ∃ f, fuel = f + 1 := ⟨fuel - 1, by omega⟩
    obtain rfl : k = p := by omega
    exact ⟨hp, H, iter_stop endP, by simpa [polL] using a6, Nat.le_refl _⟩
  | succ c ih =>
    intro k fuel hp ps H a1 a2 a3 a4 a5 a6
    obtain ⟨f, rfl⟩ : ∃ f, fuel = f + 1 := ⟨fuel - 1, by omega⟩
    obtain ⟨H', hr, hR', hlen⟩ := roundP hX (M := M) (n := n) (m := m) (i := i) (r4 := r4) hv a6 a4 a5 (by omega : k < p) hp1 a3
    obtain ⟨o, ho, hou⟩ := hR'.pol_back (by simp)
    have ht : tidy (R + 1) (some [0, 1, 2, 4, 5, 6, 7]) ⟨put (RP n p m r4 i R (k + 1)) 10 (bl true), H'⟩ = ⟨RP n p m r4 i R (k + 1), H'⟩ :=
      (show _ = gc (R + 1) ⟨RP n p m r4 i R (k + 1), H'⟩ from rfl).trans (gc_no2 ho (by omega) hou)
    obtain ⟨hp', H2, h1, h2, h3⟩ := ih (k + 1) f true _ H' (by omega) (by omega) (by simp [a3]) (mem_snoc a4 (polC_len rfl)) (mem_snoc a5 (polC_dd rfl)) hR'
    refine ⟨hp', H2, by rw [iter_step hr, ht]; exact h1, by simpa [polL] using h2, by omega⟩
theorem roundM {X : Ctx} (hX : X.fns 35 = some fn35) {N M n p m i R k bm : Nat} {r4 : V} {hp hm : Bool} {ps ms : List (List C)} {H0 H : Heap} (hv : ∀ i k, (zenv X (N + 1)).vcall 26 [.c (.d (.int .i64 i)), .c (.d (.int .i64 k))] = some (.agg (polE i k))) (hR : RecAt H0 H R (R + 1) bm hp hm ps ms) (hx : ∀ e ∈ ms, e.length = 34) (hxd : ∀ e ∈ ms, e.all C.isD = true) (hk : k < m) (hp1 : p < 900) (hm1 : m < 900) (hl : ms.length = k) (hbl : bm ≤ H.length) :
    ∃ H', exec (zenv X (N + 1)) M false fn20L0 ⟨RM n p m r4 i R k, H⟩ = some (.nrm, ⟨put (RM n p m r4 i R (k + 1)) 11 (bl true), H'⟩) ∧ RecAt H0 H' R (R + 1) bm hp true ps (ms ++ [mapE i p m k]) ∧ H.length ≤ H'.length := by
  obtain ⟨P, M', rec', H1, h1, h2, h3, ⟨c, h4, h4'⟩, h5, h6⟩ := pair_step hX (N := N) (a := polE (i + 1 : Nat) (p + k + 1 : Nat)) (b := polE (i + 1 : Nat) (p + m + k + 1 : Nat)) rfl rfl rfl rfl hR hx hxd (by omega) hbl
  refine ⟨_, ?_, h5, by rw [List.length_set]; exact h6⟩
  have e0 : ((k + 1 : Nat) : Int) ≤ (m : Int) := by omega
  have e1 : IntKind.i64.wrap (((k + 1 : Nat) : Int) + 1) = ((k + 1 + 1 : Nat) : Int) := wrap_succ (by omega)
  have e2 : IntKind.i64.wrap ((p : Int) + ((k + 1 : Nat) : Int)) = ((p + k + 1 : Nat) : Int) := i64_id (by omega) (by omega)
  have e3 : IntKind.i64.wrap ((p : Int) + (m : Int)) = ((p + m : Nat) : Int) := i64_id (by omega) (by omega)
  have e4 : IntKind.i64.wrap (((p + m : Nat) : Int) + ((k + 1 : Nat) : Int)) = ((p + m + k + 1 : Nat) : Int) := i64_id (by omega) (by omega)
  have hsp := splice_all (c := c) (new := rec') (by omega)
  simp only [fn20L0, RM, e0, e1, e2, e3, e4, h1, rec_take, rec_len, hv, byValue, mapO, deepV1, deepC, V.flat, V.flat1, polE_flat, zenv_call, h2, h4, h4', h3, hsp, List.map_cons, List.map_nil, List.drop_zero, Nat.le_refl, exec, runOps, wants, Mini.step, stepP, stepE, O.eff, Mini.look, nth, put, exports, bin, binInt, i64, bl, ob_eq, setOb_eq, ofCells, V.cells, Option.map_some, if_true, if_false, decide_true, List.append_nil, List.all_nil, cond_true, Nat.zero_add, and_self, Bool.false_eq_true]
theorem endM {E : Env} {M n p m i R : Nat} {r4 : V} {H : Heap} : exec E M false fn20L0 ⟨RM n p m r4 i R m, H⟩ = some (.exit 4, ⟨put (RM n p m r4 i R m) 11 (bl false), H⟩) := by
  have e0 : ¬ ((m + 1 : Nat) : Int) ≤ (m : Int) := by omega
  simp only [fn20L0, RM, e0, exec, runOps, wants, Mini.step, stepP, stepE, O.eff, Mini.look, nth, put, exports, bin, binInt, i64, bl, Option.map_some, if_true, if_false, decide_false, List.append_nil, List.all_nil, cond_false, Bool.false_eq_true]
theorem loopM {X : Ctx} (hX : X.fns 35 = some fn35) {N M n p m i R bm : Nat} {r4 : V} {hp : Bool} {ps : List (List C)} {H0 : Heap} (hv : ∀ i k, (zenv X (N + 1)).vcall 26 [.c (.d (.int .i64 i)), .c (.d (.int .i64 k))] = some (.agg (polE i k))) (hp1 : p < 900) (hm1 : m < 900) :
    ∀ (c k fuel : Nat) (hm : Bool) (ms : List (List C)) (H : Heap), k + c = m → c < fuel → ms.length = k → (∀ e ∈ ms, e.length = 34) → (∀ e ∈ ms, e.all C.isD = true) → RecAt H0 H R (R + 1) bm hp hm ps ms → bm ≤ H.length → hm = decide (0 < k) →
    ∃ H', iter (some [0, 1, 2, 4, 5, 6, 8]) bm (exec (zenv X (N + 1)) M false fn20L0) fuel ⟨RM n p m r4 i R k, H⟩ = some (.exit 4, ⟨put (RM n p m r4 i R m) 11 (bl false), H'⟩) ∧ RecAt H0 H' R (R + 1) bm hp (decide (0 < m)) ps (ms ++ mapL i p m k c) ∧ H.length ≤ H'.length := by
  intro c
  induction c with
  | zero =>
    intro k fuel hm ms H a1 a2 a3 a4 a5 a6 a7 a8
    obtain ⟨f, rfl⟩ : ∃ f, fuel = f + 1 := ⟨fuel - 1, by omega⟩
    obtain rfl : k = m := by omega
    subst a8
    exact ⟨H, iter_stop endM, by simpa [mapL] using a6, Nat.le_refl _⟩
  | succ c ih =>
    intro k fuel hm ms H a1 a2 a3 a4 a5 a6 a7 a8
    obtain ⟨f, rfl⟩ : ∃ f, fuel = f + 1 := ⟨fuel - 1, by omega⟩
    obtain ⟨H', hr, hR', hlen⟩ := roundM hX (M := M) (n := n) (i := i) (r4 := r4) hv a6 a4 a5 (by omega : k < m) hp1 hm1 a3 a7
    obtain ⟨o, ho, hou⟩ := hR'.map_back (by simp)
    have hbR := hR'.wid.2
    have ht : tidy bm (some [0, 1, 2, 4, 5, 6, 8]) ⟨put (RM n p m r4 i R (k + 1)) 11 (bl true), H'⟩ = ⟨RM n p m r4 i R (k + 1), H'⟩ :=
      (show _ = gc bm ⟨RM n p m r4 i R (k + 1), H'⟩ from rfl).trans (gc_no2 ho (by omega) hou)
    obtain ⟨H2, h1, h2, h3⟩ := ih (k + 1) f true _ H' (by omega) (by omega) (by simp [a3]) (mem_snoc a4 rfl) (mem_snoc a5 rfl) hR' (by omega) (by simp)
    refine ⟨H2, by rw [iter_step hr, ht]; exact h1, by simpa [mapL] using h2, by omega⟩
end Mini
end Go.Proofs.YtcilepbdddgpoaaDoor
namespace Go.Proofs.YtcilepbdddgpoaaDoor
namespace Mini
open Go

def blankC : List C := recC false false (.d .nils) (.d .nils)
def os0 (g k : Nat) : V := .c (.os 0 g 0 k 8 none)
def RZ (n p m : Nat) (r4 : V) (i : Nat) : List V := [i64 n, i64 p, i64 m, .any, r4, i64 (i + 1 : Nat), .any, .any, .any, .any, .any, .any]
theorem roundZ {X : Ctx} (hX34 : X.fns 34 = some fn34) (hX35 : X.fns 35 = some fn35) {N M n p m i : Nat} {rs : List (List C)} {H : Heap} (hM : 1000 ≤ M)
    (hv : ∀ i k, (zenv X (N + 1)).vcall 26 [.c (.d (.int .i64 i)), .c (.d (.int .i64 k))] = some (.agg (polE i k))) (h33 : (zenv X (N + 1)).vcall 33 [] = some (.agg blankC)) (h40 : (zenv X (N + 1)).vcall 40 [] = some (.agg anyE))
    (hp : p < 900) (hm : m < 900) (hin : i < n) (hn : n < 900) (hH : Hp H.length H) (h0 : H[0]? = some (.cells rs.flatten i false)) (hrs : ∀ e ∈ rs, e.length = 8) (hri : rs.length = i) :
    ∃ H4 P M', exec (zenv X (N + 1)) M false fn20L2 ⟨RZ n p m (os0 i i) i, H⟩ = some (.nrm, ⟨[i64 n, i64 p, i64 m, .any, os0 (i + 1) (i + 1), i64 (i + 1 + 1 : Nat), .c (.ptr H.length 0 0), .any, i64 (m + 1 : Nat), .any, .any, bl false], (H4 ++ [.cells (recC true (decide (0 < m)) P M') 0 false]).set 0 (.cells (rs ++ [recC true (decide (0 < m)) P M']).flatten (i + 1) false)⟩) ∧
      Hp H4.length H4 ∧ H.length < H4.length ∧ (∀ j, j < H.length → H4[j]? = H[j]?) ∧ ArrAt H4 (H.length + 1) 18 P ((polA i p).map polC) ∧ ArrAt H4 (H.length + 1) 34 M' (mapL i p m 0 m) := by
  have hl0 : 0 < H.length := (List.getElem?_eq_some_iff.1 h0).1
  have hl1 : (H ++ [Ob.cells blankC 0 false]).length = H.length + 1 := by simp
  have hR1 : RecAt (H ++ [.cells blankC 0 false]) (H ++ [.cells blankC 0 false]) H.length (H.length + 1) (H.length + 1) false false [] [] :=
    ⟨by rw [hl1]; exact (hH.mono (by omega)).app (Hp.cons rfl Hp.nil), fun _ _ => rfl, ⟨by omega, by omega⟩, .d .nils, .d .nils, at0, Or.inl ⟨rfl, rfl⟩, Or.inl ⟨rfl, rfl⟩, fun _ _ _ _ _ _ _ _ _ _ e => by cases e⟩
  obtain ⟨hp', H2, hA, hR2, hl2⟩ := loopP hX34 (M := M) (n := n) (m := m) (i := i) (r4 := os0 i i) hv hp p 0 M false [] _ (by omega) (by omega) rfl (fun e he => by cases he) (fun e he => by cases he) hR1
  have hps : ∀ e ∈ (polL i 0 p).map polC, e.length = 18 := fun e he => by
    obtain ⟨x, hx, rfl⟩ := List.mem_map.1 he; exact polC_len (polL_17 i 0 p x hx)
  have hpd : ∀ e ∈ (polL i 0 p).map polC, e.all C.isD = true := fun e he => by
    obtain ⟨x, hx, rfl⟩ := List.mem_map.1 he; exact polC_dd (polL_d i 0 p x hx)
  rw [List.nil_append] at hR2
  obtain ⟨P1, M1, rec', H3, c1, c2, c3, ⟨c, c4, c4'⟩, hR3, hl3⟩ := list_step hX34 (N := N) (a := anyE) rfl rfl hR2 hps hpd (by rw [List.length_map, polL_len]; omega) (by omega)
  have hl3' : (H3.set H.length (.cells rec' 0 false)).length = H3.length := List.length_set
  have hR3' := hR3.rebm (bm' := H3.length) (by omega)
  obtain ⟨H4, hB, hR4, hl4⟩ := loopM hX35 (M := M) (n := n) (i := i) (r4 := os0 i i) hv hp hm m 0 M false [] _ (by omega) (by omega) rfl (fun e he => by cases he) (fun e he => by cases he) hR3' (by omega) (by simp)
  obtain ⟨hH4, low4, wid4, P, M', d1, d2, d3, d4⟩ := hR4
  have h04 : H4[0]? = some (.cells rs.flatten i false) := by rw [low4 0 hl0]; exact atL h0
  have hsp := splice_all (c := c) (new := rec') (by omega)
  have e0 : ((i + 1 : Nat) : Int) ≤ (n : Int) := by omega
  have e1 : IntKind.i64.wrap (((i + 1 : Nat) : Int) + 1) = ((i + 1 + 1 : Nat) : Int) := wrap_succ (by omega)
  have t1 : ∀ a b, tidy (H.length + 1) (some [0, 1, 2, 4, 5, 6, 7]) ⟨[i64 n, i64 p, i64 m, .any, os0 i i, i64 (i + 1 : Nat), .c (.ptr H.length 0 0), i64 1, a, b, .any, .any], H ++ [.cells blankC 0 false]⟩ = ⟨RP n p m (os0 i i) i H.length 0, H ++ [.cells blankC 0 false]⟩ := fun a b =>
    (show _ = gc (H.length + 1) ⟨RP n p m (os0 i i) i H.length 0, H ++ [.cells blankC 0 false]⟩ from rfl).trans (gc_le (by simp))
  have t2 : ∀ a b c, tidy H3.length (some [0, 1, 2, 4, 5, 6, 8]) ⟨[i64 n, i64 p, i64 m, .any, os0 i i, i64 (i + 1 : Nat), .c (.ptr H.length 0 0), a, i64 1, b, c, .any], H3.set H.length (.cells rec' 0 false)⟩ = ⟨RM n p m (os0 i i) i H.length 0, H3.set H.length (.cells rec' 0 false)⟩ := fun a b c =>
    (show _ = gc H3.length ⟨RM n p m (os0 i i) i H.length 0, H3.set H.length (.cells rec' 0 false)⟩ from rfl).trans (gc_le (by simp))
  have hfl : rs.flatten.length = i * 8 := by rw [flat_len rs hrs, hri]
  have htk : rs.flatten.take (i * 8) = rs.flatten := by rw [← hfl, List.take_length]
  have hap : rs.flatten ++ recC true (decide (0 < m)) P M' = (rs ++ [recC true (decide (0 < m)) P M']).flatten := by simp
  have hb : i + 1 ≤ 1073741824 := by omega
  have l8 : ∀ a : List C, a.length = 8 → lay [C.d (.bool false), .d (.bool false), .d .nils, .d (.bool false), .d .nils, .d (.int .i64 0), .d (.int .i64 0), .d (.int .i64 0)] [(0, 8, .agg a)] = some a := fun a ha => by
    simp [lay, V.cells, splice, ha]
  have hat : ∀ t, (H4 ++ t)[0]? = some (Ob.cells rs.flatten i false) := fun t => atL h04
  have h17 : anyE.length = 17 := rfl
  have hafl : anyE.all C.flat = true := rfl
  have hbfl : blankC.all C.flat = true := rfl
  have hbl8 : blankC.length = 8 := rfl
  refine ⟨H4, P, M', ?_, hH4, by omega, fun j hj => by rw [low4 j hj, List.getElem?_append_left hj], ?_, ?_⟩
  · simp only [RP, RM, os0, i64, bl, put, Nat.zero_add, Int.ofNat_one] at hA hB t1 t2
    simp only [fn20L2, RZ, os0, e0, e1, h33, h40, byValue, mapO, V.flat, V.flat1, hafl, hbfl, hbl8, t1, hA, c1, rec_take, rec_len, zenv_call, c2, c3, c4, c4', hsp, hl3', t2, hB, d1, rep, List.map_cons, List.map_nil, l8 _ rec_len, elems, at0, hat, hfl, htk, hap, hb, List.append_assoc, List.cons_append, List.nil_append, List.length_append, List.drop_zero, Nat.le_refl, exec, runOps, wants, Mini.step, stepP, stepE, O.eff, Mini.look, nth, put, exports, bin, binInt, i64, bl, ob_eq, setOb_eq, ofCells, V.cells, List.length_cons, List.length_nil, Option.map_some, if_true, if_false, decide_true, List.append_nil, List.all_nil, cond_true, Nat.zero_add, Nat.one_mul, and_self, reduceCtorEq, Bool.false_eq_true, and_true]
  · simpa [polA] using d2
  · have : ArrAt H4 H3.length 34 M' (mapL i p m 0 m) := by simpa using d3
    rcases this with h | ⟨id, g, h1, h2, h3⟩
    · exact Or.inl h
    · exact Or.inr ⟨id, g, h1, by omega, h3⟩
end Mini
end Go.Proofs.YtcilepbdddgpoaaDoor
namespace Go.Proofs.YtcilepbdddgpoaaDoor
namespace Mini
open Go

structure InvZ (p m : Nat) (f g : Nat → List (List C)) (H : Heap) (i : Nat) (rs : List (List C)) : Prop where
  hp : Hp H.length H
  arr : H[0]? = some (.cells rs.flatten i false)
  len : rs.length = i
  eig : ∀ e ∈ rs, e.length = 8
  each : ∀ k, k < i → ∃ P M, rs[k]? = some (recC true (decide (0 < m)) P M) ∧ ArrAt H 1 18 P (f k) ∧ ArrAt H 1 34 M (g k)
theorem arr_low {H : Heap} {b b' sz : Nat} {P : C} {es : List (List C)} (h : ArrAt H b sz P es) (hb : b' ≤ b) : ArrAt H b' sz P es := by
  rcases h with h | ⟨id, g, h1, h2, h3⟩
  · exact Or.inl h
  · exact Or.inr ⟨id, g, h1, by omega, h3⟩
theorem inv_next {p m : Nat} {f g : Nat → List (List C)} {H H4 : Heap} {i : Nat} {rs : List (List C)} {P M : C} (h : InvZ p m f g H i rs) (hp : Hp H4.length H4) (hl : H.length < H4.length) (hlow : ∀ j, j < H.length → H4[j]? = H[j]?) (a1 : ArrAt H4 (H.length + 1) 18 P (f i)) (a2 : ArrAt H4 (H.length + 1) 34 M (g i)) :
    InvZ p m f g ((H4 ++ [Ob.cells (recC true (decide (0 < m)) P M) 0 false]).set 0 (.cells (rs ++ [recC true (decide (0 < m)) P M]).flatten (i + 1) false)) (i + 1) (rs ++ [recC true (decide (0 < m)) P M]) := by
  have h0 : 0 < H.length := (List.getElem?_eq_some_iff.1 h.arr).1
  have hu : (recC true (decide (0 < m)) P M).all (uC (H4.length + 1)) = true := recC_u (arr_u a1 (by omega)) (arr_u a2 (by omega))
  have hlen : ((H4 ++ [Ob.cells (recC true (decide (0 < m)) P M) 0 false]).set 0 (.cells (rs ++ [recC true (decide (0 < m)) P M]).flatten (i + 1) false)).length = H4.length + 1 := by simp
  have hk : ∀ j, j ≠ 0 → j < H4.length → ((H4 ++ [Ob.cells (recC true (decide (0 < m)) P M) 0 false]).set 0 (.cells (rs ++ [recC true (decide (0 < m)) P M]).flatten (i + 1) false))[j]? = H4[j]? := fun j h1 h2 => by
    rw [List.getElem?_set_ne (by omega), List.getElem?_append_left h2]
  have hold : ∀ e ∈ rs, e.all (uC (H4.length + 1)) = true := fun e he => by
    obtain ⟨k, hk⟩ := List.mem_iff_getElem?.1 he
    have hlt : k < i := by rw [← h.len]; exact (List.getElem?_eq_some_iff.1 hk).1
    obtain ⟨P', M', e1, e2, e3⟩ := h.each k hlt
    rw [hk, Option.some.injEq] at e1
    subst e1
    exact recC_u (arr_u e2 (by omega)) (arr_u e3 (by omega))
  refine ⟨?_, List.getElem?_set_self (by rw [List.length_append]; omega), by simp [h.len], mem_snoc h.eig rec_len, ?_⟩
  · rw [hlen]
    exact ((hp.mono (by omega)).app (Hp.cells hu Hp.nil)).setc (flat_u (mem_snoc hold hu))
  · intro k hki
    by_cases he : k = i
    · subst he
      refine ⟨P, M, ?_, arr_keep (arr_low a1 (by omega)) fun j g e => ?_, arr_keep (arr_low a2 (by omega)) fun j g e => ?_⟩
      · rw [List.getElem?_append_right (by rw [h.len]; exact Nat.le_refl _), h.len]; simp
      · rcases a1 with ⟨_, h1⟩ | ⟨id, g', h1, h2, h3, _⟩
        · rw [h1] at e; cases e
        · rw [h1] at e; cases e; exact hk _ (by omega) (List.getElem?_eq_some_iff.1 h3).1
      · rcases a2 with ⟨_, h1⟩ | ⟨id, g', h1, h2, h3, _⟩
        · rw [h1] at e; cases e
        · rw [h1] at e; cases e; exact hk _ (by omega) (List.getElem?_eq_some_iff.1 h3).1
    · obtain ⟨P', M', e1, e2, e3⟩ := h.each k (by omega)
      refine ⟨P', M', by rw [List.getElem?_append_left (by rw [h.len]; omega)]; exact e1, arr_keep e2 fun j g e => ?_, arr_keep e3 fun j g e => ?_⟩
      · rcases e2 with ⟨_, h1⟩ | ⟨id, g', h1, h2, h3, _⟩
        · rw [h1] at e; cases e
        · rw [h1] at e; cases e
          have := (List.getElem?_eq_some_iff.1 h3).1
          exact (hk _ (by omega) (Nat.lt_trans this hl)).trans (hlow _ this)
      · rcases e3 with ⟨_, h1⟩ | ⟨id, g', h1, h2, h3, _⟩
        · rw [h1] at e; cases e
        · rw [h1] at e; cases e
          have := (List.getElem?_eq_some_iff.1 h3).1
          exact (hk _ (by omega) (Nat.lt_trans this hl)).trans (hlow _ this)
theorem inv_back {p m : Nat} {f g : Nat → List (List C)} {H : Heap} {i : Nat} {rs : List (List C)} (h : InvZ p m f g H i rs) (hi : 0 < i) (hf : f 0 ≠ []) : ∃ o, H[0]? = some o ∧ o.under 1 = false := by
  obtain ⟨P, M, e1, e2, _⟩ := h.each 0 hi
  rcases e2 with ⟨h1, _⟩ | ⟨id, g', rfl, h2, h3, _⟩
  · exact absurd h1 hf
  · exact ⟨_, h.arr, undersC_false (c := .os id g' 0 (f 0).length 18 none) (decide_eq_false (by omega)) (List.mem_flatten.2 ⟨_, List.mem_of_getElem? e1, by simp [recC]⟩)⟩
theorem endZ {E : Env} {M n p m : Nat} {r4 : V} {H : Heap} : exec E M false fn20L2 ⟨RZ n p m r4 n, H⟩ = some (.exit 0, ⟨put (RZ n p m r4 n) 9 (bl false), H⟩) := by
  have e0 : ¬ ((n + 1 : Nat) : Int) ≤ (n : Int) := by omega
  simp only [fn20L2, RZ, e0, exec, runOps, wants, Mini.step, stepP, stepE, O.eff, Mini.look, nth, put, exports, bin, binInt, i64, bl, Option.map_some, if_true, if_false, decide_false, List.append_nil, List.all_nil, cond_false, Bool.false_eq_true]
theorem loopZ {X : Ctx} (hX34 : X.fns 34 = some fn34) (hX35 : X.fns 35 = some fn35) {N M n p m : Nat} (hM : 1000 ≤ M)
    (hv : ∀ i k, (zenv X (N + 1)).vcall 26 [.c (.d (.int .i64 i)), .c (.d (.int .i64 k))] = some (.agg (polE i k))) (h33 : (zenv X (N + 1)).vcall 33 [] = some (.agg blankC)) (h40 : (zenv X (N + 1)).vcall 40 [] = some (.agg anyE))
    (hp : p < 900) (hm : m < 900) (hn : n < 900) : ∀ (c i fuel : Nat) (H : Heap) (rs : List (List C)), i + c = n → c < fuel → InvZ p m (fun k => (polA k p).map polC) (fun k => mapL k p m 0 m) H i rs →
    ∃ H' rs', iter (some [0, 1, 2, 4, 5]) 1 (exec (zenv X (N + 1)) M false fn20L2) fuel ⟨RZ n p m (os0 i i) i, H⟩ = some (.exit 0, ⟨put (RZ n p m (os0 n n) n) 9 (bl false), H'⟩) ∧ InvZ p m (fun k => (polA k p).map polC) (fun k => mapL k p m 0 m) H' n rs' := by
  intro c
  induction c with
  | zero =>
    intro i fuel H rs a1 a2 a3
    obtain ⟨f, rfl⟩ : ∃ f, fuel = f + 1 := ⟨fuel - 1, by omega⟩
    obtain rfl : i = n := by omega
    exact ⟨H, rs, iter_stop endZ, a3⟩
  | succ c ih =>
    intro i fuel H rs a1 a2 a3
    obtain ⟨f, rfl⟩ : ∃ f, fuel = f + 1 := ⟨fuel - 1, by omega⟩
    obtain ⟨H4, P, M', hr, h1, h2, h3, h4, h5⟩ := roundZ hX34 hX35 (M := M) hM hv h33 h40 hp hm (by omega : i < n) hn a3.hp a3.arr a3.eig a3.len
    have inv := inv_next a3 h1 h2 h3 h4 h5
    obtain ⟨o, ho, hou⟩ := inv_back inv (by omega) (by simp [polA])
    have ht : ∀ a b c, tidy 1 (some [0, 1, 2, 4, 5]) ⟨[i64 n, i64 p, i64 m, .any, os0 (i + 1) (i + 1), i64 (i + 1 + 1 : Nat), a, .any, b, .any, .any, c], (H4 ++ [Ob.cells (recC true (decide (0 < m)) P M') 0 false]).set 0 (.cells (rs ++ [recC true (decide (0 < m)) P M']).flatten (i + 1) false)⟩ = ⟨RZ n p m (os0 (i + 1) (i + 1)) (i + 1), (H4 ++ [Ob.cells (recC true (decide (0 < m)) P M') 0 false]).set 0 (.cells (rs ++ [recC true (decide (0 < m)) P M']).flatten (i + 1) false)⟩ := fun a b c =>
      (show _ = gc 1 ⟨RZ n p m (os0 (i + 1) (i + 1)) (i + 1), _⟩ from rfl).trans (gc_no2 ho (by omega) hou)
    rw [iter_step hr, ht]
    exact ih (i + 1) f _ _ (by omega) (by omega) inv

/-! ### Read out -/
def recR (pd md : List D) (a m : Nat) : List D := [.bool false, .bool true, .sl pd a, .bool (decide (0 < m)), (if m = 0 then .nils else .sl md m), .int .i64 (-1), .int .i64 (-1), .int .i64 (-1)]
def recsR (F : Nat → List D) : Nat → List D
  | 0 => []
  | i + 1 => recsR F i ++ F i
theorem deep_arr {H : Heap} {b sz k : Nat} {P : C} {es : List (List C)} (h : ArrAt H b sz P es) (h1 : ∀ e ∈ es, e.length = sz) (h3 : ∀ e ∈ es, e.all C.isD = true) : deepC H (k + 1) P = some (if es.length = 0 then .nils else .sl (es.flatten.map unD) es.length) := by
  rcases h with ⟨rfl, rfl⟩ | ⟨id, g, rfl, _, h4, h5⟩
  · rfl
  · rw [if_neg (by simpa using h5)]
    exact deep_os h4 h1 rfl h3
theorem deep_recR {H : Heap} {k : Nat} {P M : C} {ps ms : List (List C)} {m : Nat} (a1 : ArrAt H 1 18 P ps) (a2 : ArrAt H 1 34 M ms) (p1 : ∀ e ∈ ps, e.length = 18) (p2 : ∀ e ∈ ps, e.all C.isD = true) (m1' : ∀ e ∈ ms, e.length = 34) (m2 : ∀ e ∈ ms, e.all C.isD = true) (hne : ps.length ≠ 0) (hm : ms.length = m) :
    mapO (deepC H (k + 1)) (recC true (decide (0 < m)) P M) = some (recR (ps.flatten.map unD) (ms.flatten.map unD) ps.length m) := by
  have a := deep_arr (k := k) a1 p1 p2
  have b := deep_arr (k := k) a2 m1' m2
  rw [if_neg hne] at a
  rw [hm] at b
  simp only [recC, m1, mapO, deepC_dd, a, b]
  rfl
theorem deep_recsR {p m k : Nat} {f g : Nat → List (List C)} {F : Nat → List D} {H : Heap} {i : Nat} {rs : List (List C)} (h : InvZ p m f g H i rs) (hF : ∀ j P M, ArrAt H 1 18 P (f j) → ArrAt H 1 34 M (g j) → mapO (deepC H (k + 1)) (recC true (decide (0 < m)) P M) = some (F j)) :
    ∀ j, j ≤ i → mapO (deepC H (k + 1)) (rs.take j).flatten = some (recsR F j)
  | 0, _ => rfl
  | j + 1, hj => by
    obtain ⟨P, M, e1, e2, e3⟩ := h.each j (by omega)
    have : rs.take (j + 1) = rs.take j ++ [recC true (decide (0 < m)) P M] := by
      obtain ⟨hlt, he⟩ := List.getElem?_eq_some_iff.1 e1
      rw [List.take_succ_eq_append_getElem hlt, he]
    rw [this, List.flatten_append, List.flatten_singleton, recsR]
    exact mapO_app _ (deep_recsR h hF j (by omega)) (hF j P M e2 e3)
theorem deep_refs {p m : Nat} {f g : Nat → List (List C)} {F : Nat → List D} {H : Heap} {n : Nat} {rs : List (List C)} (h : InvZ p m f g H n rs) (hF : ∀ j P M, ArrAt H 1 18 P (f j) → ArrAt H 1 34 M (g j) → mapO (deepC H 7) (recC true (decide (0 < m)) P M) = some (F j)) :
    deepV H (os0 n n) = some (.c (.d (.sl (recsR F n) n))) := by
  have hl : rs.flatten.length = n * 8 := by rw [flat_len rs h.eig, h.len]
  have hr := deep_recsR (k := 6) h hF n (Nat.le_refl _)
  rw [List.take_of_length_le (by rw [h.len]; exact Nat.le_refl _)] at hr
  simp only [deepV, deepV1, deepMax, os0, deepC, ob_eq, h.arr, if_true, Nat.zero_add, hl, Nat.le_refl, List.drop_zero]
  rw [← hl, List.take_length, hr]
  rfl
def recRL (p m i : Nat) : List D := recR (polsD i p) (mapsD i p m) (p + 1) m
theorem fn20_ok {X : Ctx} (hX : X.fns 20 = some fn20) (hX34 : X.fns 34 = some fn34) (hX35 : X.fns 35 = some fn35) {N n p m : Nat} (hN : 1000 ≤ N)
    (hv : ∀ i k, (zenv X (N + 1)).vcall 26 [.c (.d (.int .i64 i)), .c (.d (.int .i64 k))] = some (.agg (polE i k))) (h33 : (zenv X (N + 1)).vcall 33 [] = some (.agg blankC)) (h40 : (zenv X (N + 1)).vcall 40 [] = some (.agg anyE))
    (hp : p < 900) (hm : m < 900) (hn : n < 900) : vcallN X (N + 2) 20 [i64 n, i64 p, i64 m] = some (.c (.d (.sl (recsR (recRL p m) n) n))) := by
  have inv0 : InvZ p m (fun k => (polA k p).map polC) (fun k => mapL k p m 0 m) [.cells [] 0 false] 0 [] :=
    ⟨Hp.cons rfl Hp.nil, rfl, rfl, (fun e he => by cases he), (fun k hk => by omega)⟩
  obtain ⟨H', rs, hl, inv⟩ := loopZ hX34 hX35 (M := N + 1) (by omega) hv h33 h40 hp hm hn n 0 (N + 1) _ _ (by omega) (by omega) inv0
  have hd := deep_refs inv (F := recRL p m) fun j P M a1 a2 => deep_recR a1 a2 (polC_18 j p) (polC_d j p) (mapL_34 j p m 0 m) (mapL_d j p m 0 m) (by simp [polA]) (mapL_len j p m 0 m) |>.trans (by simp [recRL, polsD, mapsD, polA, polL_len])
  have t1 : tidy 1 (some [0, 1, 2, 4, 5]) ⟨[i64 n, i64 p, i64 m, .c (.d .nils), os0 0 0, i64 1, .any, .any, .any, .any, .any, .any], [.cells [] 0 false]⟩ = ⟨RZ n p m (os0 0 0) 0, [.cells [] 0 false]⟩ := rfl
  refine vcall_of (r := os0 n n) (H := H') ?_ hd
  rw [fn20_is] at hX
  rw [callN_fn hX]
  simp only [RZ, os0, i64, put, bl] at hl t1
  simp only [fn20', runFn, pad, List.replicate, Nat.reduceSub, List.cons_append, List.nil_append, freshen, t1, hl, os0, results, result, mapO, exec, runOps, wants, Mini.step, stepP, stepE, O.eff, Mini.look, nth, put, exports, i64, List.length_cons, List.length_nil, Option.map_some, if_true, if_false, List.append_nil, List.all_nil, Nat.zero_add, Bool.false_eq_true, Nat.reduceAdd]
end Mini
end Go.Proofs.YtcilepbdddgpoaaDoor
namespace Go.Proofs.YtcilepbdddgpoaaDoor
namespace Mini
open Go

theorem gflat {β : Type} {sz : Nat} : ∀ {es : List (List β)} {i : Nat} {e : List β}, (∀ e ∈ es, e.length = sz) → es[i]? = some e → ∃ rest, es.flatten.drop (i * sz) = e ++ rest
  | x :: es, 0, e, _, hi => by
    simp only [List.getElem?_cons_zero, Option.some.injEq] at hi
    subst hi
    exact ⟨es.flatten, by simp⟩
  | x :: es, i + 1, e, h, hi => by
    simp only [List.getElem?_cons_succ] at hi
    obtain ⟨rest, hr⟩ := gflat (fun y hy => h y (List.mem_cons_of_mem _ hy)) hi
    refine ⟨rest, ?_⟩
    rw [List.flatten_cons, Nat.succ_mul, Nat.add_comm, ← List.drop_drop, ← h x List.mem_cons_self, List.drop_left]
    rw [h x List.mem_cons_self]
    exact hr
theorem gflat_len {β : Type} {sz : Nat} {es : List (List β)} {i : Nat} {e rest : List β} (hr : es.flatten.drop (i * sz) = e ++ rest) (he : 0 < e.length) : i * sz < es.flatten.length := by
  have := congrArg List.length hr
  rw [List.length_drop, List.length_append] at this
  omega
def isInt : D → Bool
  | .int _ _ => true
  | _ => false
theorem eqInts_self : ∀ xs : List D, xs.all isInt = true → eqInts (xs.map C.d) (xs.map C.d) = some true
  | [], _ => rfl
  | x :: xs, h => by
    rw [List.all_cons, Bool.and_eq_true] at h
    cases x with
    | int k n => simp [eqInts, eqInts_self xs h.2]
    | _ => cases h.1
/-- Registers. -/
def Q1 (a b : V) (i k : Nat) : List V := [a, b, .any, i64 i, .c (.ptr 0 0 0), .c (.ptr 1 0 0), i64 k, .any, .any, .any, .any, .any, .any, .any, .any]
def Q0 (a b : V) (i k : Nat) : List V := [a, b, .any, i64 i, .c (.ptr 0 0 0), .c (.ptr 1 0 0), .any, i64 k, .any, .any, .any, .any, .any, .any, .any]
def recX (P : D) (hm : Bool) (M : D) : List D := [.bool false, .bool true, P, .bool hm, M, .int .i64 (-1), .int .i64 (-1), .int .i64 (-1)]
def recXC (P : D) (hm : Bool) (M : D) : List C := [.d (.bool false), .d (.bool true), .d P, .d (.bool hm), .d M, .d (.int .i64 (-1)), .d (.int .i64 (-1)), .d (.int .i64 (-1))]
def qblk (o : List D) : List D := o ++ [.nils]
theorem roundQ1 {E : Env} {N i k : Nat} {a b : V} {os : List (List D)} {o : List D} {hm : Bool} {M M' : D} (hos : ∀ o ∈ os, o.length = 17 ∧ o.all isInt = true) (ho : os[k]? = some o) (hl : os.length < 1000) :
    exec E N false fn14L1 ⟨Q1 a b i k, [.cells (recXC (.sl (os.map qblk).flatten os.length) hm M) 0 false, .cells (recXC (.sl (os.map qblk).flatten os.length) hm M') 0 false]⟩ = some (.nrm, ⟨put (put (Q1 a b i (k + 1)) 11 (bl true)) 12 (bl false), [.cells (recXC (.sl (os.map qblk).flatten os.length) hm M) 0 false, .cells (recXC (.sl (os.map qblk).flatten os.length) hm M') 0 false]⟩) := by
  have hlt : k < os.length := (List.getElem?_eq_some_iff.1 ho).1
  have hlt' : (k : Int) < (os.length : Int) := by exact_mod_cast hlt
  have hoo := hos o (List.mem_of_getElem? ho)
  have h18 : ∀ e ∈ os.map qblk, e.length = 18 := fun e he => by
    obtain ⟨x, hx, rfl⟩ := List.mem_map.1 he
    simp [qblk, (hos x hx).1]
  obtain ⟨rest, hr⟩ := gflat h18 (i := k) (e := qblk o) (by simp [ho])
  have hkl := gflat_len hr (by simp [qblk])
  have ht : (qblk o ++ rest).take 17 = o := by
    rw [qblk, List.append_assoc, ← hoo.1, List.take_left]
  have hd : (qblk o ++ rest).drop 17 = .nils :: rest := by
    rw [qblk, List.append_assoc, ← hoo.1, List.drop_left]; rfl
  have hp0 : 0 < (qblk o ++ rest).length := by simp [qblk]; omega
  have hp17 : 17 < (qblk o ++ rest).length := by simp [qblk, hoo.1]
  have he := eqInts_self o hoo.2
  have hl17 : (o.map C.d).length = 17 := by rw [List.length_map]; exact hoo.1
  have e7 : IntKind.i64.wrap ((k : Int) + 1) = ((k + 1 : Nat) : Int) := wrap_succ (by omega)
  have ew : IntKind.i64.wrap (0 + 0) = 0 := rfl
  simp only [fn14L1, Q1, recXC, hlt', hlt, hr, hkl, ht, hd, hp0, hp17, he, hl17, e7, ew, ob?, List.take_zero, List.take_succ_cons, List.drop_zero, List.drop_succ_cons, List.map_cons, List.map_nil, Bool.true_xor, Bool.not_true, beq_self_eq_true, gt_iff_lt, Int.lt_irrefl, exec, runOps, wants, Mini.step, stepP, stepE, O.eff, Mini.look, nth, put, exports, bin, binInt, i64, bl, asNat_nat, ofCells, List.length_cons, List.length_nil, Option.map_some, if_true, if_false, decide_true, decide_false, List.append_nil, List.all_nil, cond_true, cond_false, Nat.zero_add, and_self, Int.ofNat_eq_natCast, Bool.false_eq_true]
theorem loopQ1 {E : Env} {N i : Nat} {a b : V} {os : List (List D)} {hm : Bool} {M M' : D} (hos : ∀ o ∈ os, o.length = 17 ∧ o.all isInt = true) (hl : os.length < 1000) : ∀ (c k fuel : Nat), k + c = os.length → c < fuel →
    iter (some [0, 1, 3, 4, 5, 6]) 2 (exec E N false fn14L1) fuel ⟨Q1 a b i k, [.cells (recXC (.sl (os.map qblk).flatten os.length) hm M) 0 false, .cells (recXC (.sl (os.map qblk).flatten os.length) hm M') 0 false]⟩ = some (.exit 2, ⟨put (Q1 a b i os.length) 11 (bl false), [.cells (recXC (.sl (os.map qblk).flatten os.length) hm M) 0 false, .cells (recXC (.sl (os.map qblk).flatten os.length) hm M') 0 false]⟩) := by
  intro c
  induction c with
  | zero =>
    intro k fuel a1 a2
    obtain ⟨f, rfl⟩ : ∃ f, fuel = f + 1 := ⟨fuel - 1, by omega⟩
    obtain rfl : k = os.length := by omega
    refine iter_stop ?_
    simp only [fn14L1, Q1, recXC, ob?, List.take_zero, List.take_succ_cons, List.drop_zero, List.drop_succ_cons, Int.lt_irrefl, exec, runOps, wants, Mini.step, stepP, stepE, O.eff, Mini.look, nth, put, exports, bin, binInt, i64, bl, ofCells, List.length_cons, List.length_nil, Option.map_some, if_true, if_false, decide_false, List.append_nil, List.all_nil, cond_false, Nat.zero_add, Int.ofNat_eq_natCast, Bool.false_eq_true]
  | succ c ih =>
    intro k fuel a1 a2
    obtain ⟨f, rfl⟩ : ∃ f, fuel = f + 1 := ⟨fuel - 1, by omega⟩
    rw [iter_step (roundQ1 hos (List.getElem?_eq_getElem (show k < os.length by omega)) hl)]
    have ht : tidy 2 (some [0, 1, 3, 4, 5, 6]) ⟨put (put (Q1 a b i (k + 1)) 11 (bl true)) 12 (bl false), [.cells (recXC (.sl (os.map qblk).flatten os.length) hm M) 0 false, .cells (recXC (.sl (os.map qblk).flatten os.length) hm M') 0 false]⟩ = ⟨Q1 a b i (k + 1), [.cells (recXC (.sl (os.map qblk).flatten os.length) hm M) 0 false, .cells (recXC (.sl (os.map qblk).flatten os.length) hm M') 0 false]⟩ :=
      (show _ = gc 2 ⟨Q1 a b i (k + 1), _⟩ from rfl).trans (gc_le (Nat.le_refl _))
    rw [ht]
    exact ih (k + 1) f (by omega) (by omega)
/-- A list of pairs, or none. -/
def Maps (M : D) (ms : List (List D)) : Prop := M = .sl ms.flatten ms.length ∨ (ms = [] ∧ M = .nils)
theorem roundQ0 {E : Env} {N i k : Nat} {a b : V} {ms : List (List D)} {o : List D} {hm : Bool} {P M M' : D} (hms : ∀ o ∈ ms, o.length = 34 ∧ o.all isInt = true) (ho : ms[k]? = some o) (hl : ms.length < 1000) (hM : Maps M ms) (hM' : Maps M' ms) :
    exec E N false fn14L0 ⟨Q0 a b i k, [.cells (recXC P hm M) 0 false, .cells (recXC P hm M') 0 false]⟩ = some (.nrm, ⟨put (put (Q0 a b i (k + 1)) 13 (bl true)) 14 (bl false), [.cells (recXC P hm M) 0 false, .cells (recXC P hm M') 0 false]⟩) := by
  have hlt : k < ms.length := (List.getElem?_eq_some_iff.1 ho).1
  have hne : ms ≠ [] := fun h => by rw [h] at hlt; cases hlt
  obtain rfl : M = .sl ms.flatten ms.length := hM.resolve_right fun h => hne h.1
  obtain rfl : M' = .sl ms.flatten ms.length := hM'.resolve_right fun h => hne h.1
  have hlt' : (k : Int) < (ms.length : Int) := by exact_mod_cast hlt
  have hoo := hms o (List.mem_of_getElem? ho)
  obtain ⟨rest, hr⟩ := gflat (fun e he => (hms e he).1) ho
  have hkl := gflat_len hr (by omega)
  have ht : (o ++ rest).take 34 = o := by rw [← hoo.1, List.take_left]
  have he := eqInts_self o hoo.2
  have hl17 : (o.map C.d).length = 34 := by rw [List.length_map]; exact hoo.1
  have e7 : IntKind.i64.wrap ((k : Int) + 1) = ((k + 1 : Nat) : Int) := wrap_succ (by omega)
  simp only [fn14L0, Q0, recXC, hlt', hlt, hr, hkl, ht, he, hl17, e7, ob?, List.take_zero, List.take_succ_cons, List.drop_zero, List.drop_succ_cons, Bool.true_xor, Bool.not_true, exec, runOps, wants, Mini.step, stepP, stepE, O.eff, Mini.look, nth, put, exports, bin, binInt, i64, bl, asNat_nat, ofCells, List.length_cons, List.length_nil, Option.map_some, if_true, if_false, decide_true, List.append_nil, List.all_nil, cond_true, cond_false, Nat.zero_add, and_self, Int.ofNat_eq_natCast, Bool.false_eq_true]
theorem loopQ0 {E : Env} {N i : Nat} {a b : V} {ms : List (List D)} {hm : Bool} {P M M' : D} (hms : ∀ o ∈ ms, o.length = 34 ∧ o.all isInt = true) (hl : ms.length < 1000) (hM : Maps M ms) (hM' : Maps M' ms) : ∀ (c k fuel : Nat), k + c = ms.length → c < fuel →
    iter (some [0, 1, 3, 4, 5, 7]) 2 (exec E N false fn14L0) fuel ⟨Q0 a b i k, [.cells (recXC P hm M) 0 false, .cells (recXC P hm M') 0 false]⟩ = some (.exit 4, ⟨put (Q0 a b i ms.length) 13 (bl false), [.cells (recXC P hm M) 0 false, .cells (recXC P hm M') 0 false]⟩) := by
  intro c
  induction c with
  | zero =>
    intro k fuel a1 a2
    obtain ⟨f, rfl⟩ : ∃ f, fuel = f + 1 := ⟨fuel - 1, by omega⟩
    obtain rfl : k = ms.length := by omega
    refine iter_stop ?_
    rcases hM with rfl | ⟨rfl, rfl⟩
    · simp only [fn14L0, Q0, recXC, ob?, List.take_zero, List.take_succ_cons, List.drop_zero, List.drop_succ_cons, Int.lt_irrefl, exec, runOps, wants, Mini.step, stepP, stepE, O.eff, Mini.look, nth, put, exports, bin, binInt, i64, bl, ofCells, List.length_cons, List.length_nil, Option.map_some, if_true, if_false, decide_false, List.append_nil, List.all_nil, cond_false, Nat.zero_add, Int.ofNat_eq_natCast, Bool.false_eq_true]
    · simp only [fn14L0, Q0, recXC, ob?, List.take_zero, List.take_succ_cons, List.drop_zero, List.drop_succ_cons, Int.ofNat_zero, Int.lt_irrefl, exec, runOps, wants, Mini.step, stepP, stepE, O.eff, Mini.look, nth, put, exports, bin, binInt, i64, bl, ofCells, List.length_cons, List.length_nil, Option.map_some, if_true, if_false, decide_false, List.append_nil, List.all_nil, cond_false, Nat.zero_add, Bool.false_eq_true]
  | succ c ih =>
    intro k fuel a1 a2
    obtain ⟨f, rfl⟩ : ∃ f, fuel = f + 1 := ⟨fuel - 1, by omega⟩
    rw [iter_step (roundQ0 hms (List.getElem?_eq_getElem (show k < ms.length by omega)) hl hM hM')]
    have ht : tidy 2 (some [0, 1, 3, 4, 5, 7]) ⟨put (put (Q0 a b i (k + 1)) 13 (bl true)) 14 (bl false), [.cells (recXC P hm M) 0 false, .cells (recXC P hm M') 0 false]⟩ = ⟨Q0 a b i (k + 1), [.cells (recXC P hm M) 0 false, .cells (recXC P hm M') 0 false]⟩ :=
      (show _ = gc 2 ⟨Q0 a b i (k + 1), _⟩ from rfl).trans (gc_le (Nat.le_refl _))
    rw [ht]
    exact ih (k + 1) f (by omega) (by omega)
def Q2 (a b : V) (i : Nat) : List V := [a, b, .any, i64 i, .any, .any, .any, .any, .any, .any, .any, .any, .any, .any, .any]
def slV (F : Nat → List D) (n : Nat) : V := .c (.d (.sl (recsR F n) n))
/-- Two records match. -/
structure Match (x y : List D) (os ms : List (List D)) (hm : Bool) (M M' : D) : Prop where
  ex : x = recX (.sl (os.map qblk).flatten os.length) hm M
  ey : y = recX (.sl (os.map qblk).flatten os.length) hm M'
  ho : ∀ o ∈ os, o.length = 17 ∧ o.all isInt = true
  hms : ∀ o ∈ ms, o.length = 34 ∧ o.all isInt = true
  lo : os.length < 1000
  lm : ms.length < 1000
  hM : Maps M ms
  hM' : Maps M' ms
theorem recsR_len {F : Nat → List D} (h : ∀ j, (F j).length = 8) : ∀ n, (recsR F n).length = n * 8
  | 0 => by simp [recsR]
  | n + 1 => by rw [recsR, List.length_append, recsR_len h n, h]; omega
theorem recsR_at {F : Nat → List D} (h : ∀ j, (F j).length = 8) : ∀ n i, i < n → ∃ rest, (recsR F n).drop (i * 8) = F i ++ rest
  | n + 1, i, hi => by
    rw [recsR]
    by_cases he : i = n
    · subst he
      rw [← recsR_len h i, List.drop_left]
      exact ⟨[], by simp⟩
    · obtain ⟨rest, hr⟩ := recsR_at h n i (by omega)
      refine ⟨rest ++ F n, ?_⟩
      rw [List.drop_append_of_le_length (by rw [recsR_len h n]; omega), hr, List.append_assoc]
theorem maps_len {M : D} {ms : List (List D)} (h : Maps M ms) {γ : Type} (f : Nat → γ) (g z : γ) (hz : f 0 = z) : (match M with | .nils => z | .sl _ n => f n | _ => g) = f ms.length := by
  rcases h with rfl | ⟨rfl, rfl⟩
  · rfl
  · exact hz.symm
theorem roundQ2 {E : Env} {N i n : Nat} {F G : Nat → List D} {os ms : List (List D)} {hm : Bool} {M M' : D} (hN : 1000 ≤ N) (hF : ∀ j, (F j).length = 8) (hG : ∀ j, (G j).length = 8) (hi : i < n) (hn : n < 1000) (h : Match (F i) (G i) os ms hm M M') :
    ∃ r H, exec E N false fn14L2 ⟨Q2 (slV F n) (slV G n) i, []⟩ = some (.nrm, ⟨r, H⟩) ∧ keepOnly [0, 1, 3] 0 r = Q2 (slV F n) (slV G n) (i + 1) := by
  obtain ⟨rf, hrf⟩ := recsR_at hF n i hi
  obtain ⟨rg, hrg⟩ := recsR_at hG n i hi
  have lF : i * 8 < (recsR F n).length := by rw [recsR_len hF]; omega
  have lG : i * 8 < (recsR G n).length := by rw [recsR_len hG]; omega
  obtain ⟨ex, ey, ho, hms, lo, lm, hM, hM'⟩ := h
  have hA := loopQ1 (E := E) (N := N) (i := i) (a := slV F n) (b := slV G n) (hm := hm) (M := M) (M' := M') ho lo os.length 0 N (by omega) (by omega)
  have hB := loopQ0 (E := E) (N := N) (i := i) (a := slV F n) (b := slV G n) (hm := hm) (P := .sl (os.map qblk).flatten os.length) hms lm hM hM' ms.length 0 N (by omega) (by omega)
  have hlt : (i : Int) < (n : Int) := by exact_mod_cast hi
  have e7 : IntKind.i64.wrap ((i : Int) + 1) = ((i + 1 : Nat) : Int) := wrap_succ (by omega)
  have t1 : ∀ a b c d e f g j k l, tidy 2 (some [0, 1, 3, 4, 5, 6]) ⟨[slV F n, slV G n, a, i64 i, .c (.ptr 0 0 0), .c (.ptr 1 0 0), i64 (0 : Nat), b, c, d, e, f, g, j, k], l⟩ = gc 2 ⟨Q1 (slV F n) (slV G n) i 0, l⟩ := fun _ _ _ _ _ _ _ _ _ _ => rfl
  have t2 : ∀ a b c d e f g j k l, tidy 2 (some [0, 1, 3, 4, 5, 7]) ⟨[slV F n, slV G n, a, i64 i, .c (.ptr 0 0 0), .c (.ptr 1 0 0), b, i64 (0 : Nat), c, d, e, f, g, j, k], l⟩ = gc 2 ⟨Q0 (slV F n) (slV G n) i 0, l⟩ := fun _ _ _ _ _ _ _ _ _ _ => rfl
  have g1 : ∀ r (a b : Ob), gc 2 ⟨r, [a, b]⟩ = ⟨r, [a, b]⟩ := fun r a b => gc_le (Nat.le_refl _)
  refine ⟨[slV F n, slV G n, .any, i64 (i + 1 : Nat), .c (.ptr 0 0 0), .c (.ptr 1 0 0), .any, i64 ms.length, .any, .any, .any, .any, .any, bl false, .any], [.cells (recXC (.sl (os.map qblk).flatten os.length) hm M) 0 false, .cells (recXC (.sl (os.map qblk).flatten os.length) hm M') 0 false], ?_, rfl⟩
  simp only [Q1, Q0, slV, recXC, i64, bl, put, Int.ofNat_zero] at hA hB t1 t2
  rcases hM with rfl | ⟨rfl, rfl⟩
  · rcases hM' with rfl | ⟨h1, rfl⟩
    · simp only [fn14L2, Q2, slV, hlt, hi, lF, lG, hrf, hrg, ex, ey, recX, recXC, e7, ob?, t1, t2, g1, hA, hB, List.take_zero, List.take_succ_cons, List.drop_zero, List.drop_succ_cons, List.map_cons, List.map_nil, List.cons_append, List.nil_append, beq_self_eq_true, bne_self_eq_false, exec, runOps, wants, Mini.step, stepP, stepE, O.eff, Mini.look, nth, put, exports, bin, binInt, i64, bl, asNat_nat, ofCells, V.cells, List.length_cons, List.length_nil, Option.map_some, if_true, if_false, decide_true, List.all_nil, cond_true, cond_false, Nat.zero_add, Nat.add_zero, and_self, Int.ofNat_eq_natCast, Bool.false_eq_true, Nat.reduceAdd]
    · subst h1
      simp only [List.flatten_nil, List.length_nil, Int.ofNat_zero] at hA hB ex ey
      simp only [List.flatten_nil, List.length_nil, fn14L2, Q2, slV, hlt, hi, lF, lG, hrf, hrg, ex, ey, recX, recXC, e7, ob?, t1, t2, g1, hA, hB, List.take_zero, List.take_succ_cons, List.drop_zero, List.drop_succ_cons, List.map_cons, List.map_nil, List.cons_append, List.nil_append, beq_self_eq_true, bne_self_eq_false, Int.ofNat_zero, exec, runOps, wants, Mini.step, stepP, stepE, O.eff, Mini.look, nth, put, exports, bin, binInt, i64, bl, asNat_nat, ofCells, V.cells, List.length_cons, List.length_nil, Option.map_some, if_true, if_false, decide_true, List.all_nil, cond_true, cond_false, Nat.zero_add, Nat.add_zero, and_self, Int.ofNat_eq_natCast, Bool.false_eq_true, Nat.reduceAdd]
  · rcases hM' with rfl | ⟨h1, rfl⟩
    · simp only [List.flatten_nil, List.length_nil, Int.ofNat_zero] at hA hB ex ey
      simp only [List.flatten_nil, List.length_nil, fn14L2, Q2, slV, hlt, hi, lF, lG, hrf, hrg, ex, ey, recX, recXC, e7, ob?, t1, t2, g1, hA, hB, List.take_zero, List.take_succ_cons, List.drop_zero, List.drop_succ_cons, List.map_cons, List.map_nil, List.cons_append, List.nil_append, beq_self_eq_true, bne_self_eq_false, Int.ofNat_zero, exec, runOps, wants, Mini.step, stepP, stepE, O.eff, Mini.look, nth, put, exports, bin, binInt, i64, bl, asNat_nat, ofCells, V.cells, List.length_cons, List.length_nil, Option.map_some, if_true, if_false, decide_true, List.all_nil, cond_true, cond_false, Nat.zero_add, Nat.add_zero, and_self, Int.ofNat_eq_natCast, Bool.false_eq_true, Nat.reduceAdd]
    · simp only [List.length_nil, Int.ofNat_zero] at hA hB ex ey
      simp only [List.length_nil, fn14L2, Q2, slV, hlt, hi, lF, lG, hrf, hrg, ex, ey, recX, recXC, e7, ob?, t1, t2, g1, hA, hB, List.take_zero, List.take_succ_cons, List.drop_zero, List.drop_succ_cons, List.map_cons, List.map_nil, List.cons_append, List.nil_append, beq_self_eq_true, bne_self_eq_false, Int.ofNat_zero, exec, runOps, wants, Mini.step, stepP, stepE, O.eff, Mini.look, nth, put, exports, bin, binInt, i64, bl, asNat_nat, ofCells, V.cells, List.length_cons, List.length_nil, Option.map_some, if_true, if_false, decide_true, List.all_nil, cond_true, cond_false, Nat.zero_add, Nat.add_zero, and_self, Int.ofNat_eq_natCast, Bool.false_eq_true, Nat.reduceAdd]
theorem loopQ2 {E : Env} {N n : Nat} {F G : Nat → List D} (hN : 1000 ≤ N) (hF : ∀ j, (F j).length = 8) (hG : ∀ j, (G j).length = 8) (hn : n < 1000) (h : ∀ j, j < n → ∃ os ms hm M M', Match (F j) (G j) os ms hm M M') : ∀ (c i fuel : Nat), i + c = n → c < fuel →
    iter (some [0, 1, 3]) 0 (exec E N false fn14L2) fuel ⟨Q2 (slV F n) (slV G n) i, []⟩ = some (.exit 0, ⟨put (Q2 (slV F n) (slV G n) n) 9 (bl false), []⟩) := by
  intro c
  induction c with
  | zero =>
    intro i fuel a1 a2
    obtain ⟨f, rfl⟩ : ∃ f, fuel = f + 1 := ⟨fuel - 1, by omega⟩
    obtain rfl : i = n := by omega
    refine iter_stop ?_
    simp only [fn14L2, Q2, slV, Int.lt_irrefl, exec, runOps, wants, Mini.step, stepP, stepE, O.eff, Mini.look, nth, put, exports, bin, binInt, i64, bl, Option.map_some, if_true, if_false, decide_false, List.append_nil, List.all_nil, cond_false, Int.ofNat_eq_natCast, Bool.false_eq_true]
  | succ c ih =>
    intro i fuel a1 a2
    obtain ⟨f, rfl⟩ : ∃ f, fuel = f + 1 := ⟨fuel - 1, by omega⟩
    obtain ⟨os, ms, hm, M, M', hmt⟩ := h i (by omega)
    obtain ⟨r, H, hr, hk⟩ := roundQ2 (E := E) hN hF hG (by omega : i < n) hn hmt
    have ht : tidy 0 (some [0, 1, 3]) ⟨r, H⟩ = ⟨Q2 (slV F n) (slV G n) (i + 1), []⟩ := by
      have : tidy 0 (some [0, 1, 3]) ⟨r, H⟩ = gc 0 ⟨Q2 (slV F n) (slV G n) (i + 1), H⟩ := by rw [← hk]; rfl
      rw [this]
      exact gc_back (H := []) (t := H) 0 rfl rfl Hp.nil
    rw [iter_step hr, ht]
    exact ih (i + 1) f (by omega) (by omega)
theorem fn14_ok {X : Ctx} (hX : X.fns 14 = some fn14) {N n : Nat} {F G : Nat → List D} (hN : 1000 ≤ N) (hF : ∀ j, (F j).length = 8) (hG : ∀ j, (G j).length = 8) (hn : n < 1000) (h : ∀ j, j < n → ∃ os ms hm M M', Match (F j) (G j) os ms hm M M') : vcallN X (N + 1) 14 [slV F n, slV G n] = some (i64 1) := by
  have hl := loopQ2 (E := zenv X N) hN hF hG hn h n 0 N (by omega) (by omega)
  have t1 : ∀ a, tidy 0 (some [0, 1, 3]) ⟨[slV F n, slV G n, i64 0, i64 0, .any, .any, .any, .any, a, .any, .any, .any, .any, .any, .any], []⟩ = ⟨Q2 (slV F n) (slV G n) 0, []⟩ := fun _ => rfl
  refine vcall_of (r := i64 1) (H := []) ?_ rfl
  rw [fn14_is] at hX
  rw [callN_fn hX]
  simp only [Q2, slV, i64, put, bl, Int.ofNat_zero] at hl t1
  simp only [fn14', runFn, pad, List.replicate, Nat.reduceSub, List.cons_append, List.nil_append, slV, t1, hl, bne_self_eq_false, results, result, mapO, exec, runOps, wants, Mini.step, stepP, stepE, O.eff, Mini.look, nth, put, exports, bin, binInt, i64, List.length_cons, List.length_nil, Option.map_some, if_true, if_false, List.all_nil, cond_false, Nat.zero_add, Int.ofNat_eq_natCast, Bool.false_eq_true, Nat.reduceAdd]

/-! ### The long paths match -/
theorem recsR_ext {F G : Nat → List D} (h : ∀ j, F j = G j) : ∀ n, recsR F n = recsR G n
  | 0 => rfl
  | n + 1 => by rw [recsR, recsR, recsR_ext h n, h]
theorem recsD_R (p m : Nat) : ∀ n, recsD p m n = recsR (fun j => recD j p m) n
  | 0 => rfl
  | n + 1 => by rw [recsD, recsR, recsD_R p m n]
theorem unD_polC {a : List C} : (polC a).map unD = qblk (a.map unD) := by simp [polC, qblk, unD]
theorem map_flat_unD (es : List (List C)) : es.flatten.map unD = (es.map (·.map unD)).flatten := by rw [List.map_flatten]
theorem polsD_eq (i p : Nat) : polsD i p = (((polA i p).map (·.map unD)).map qblk).flatten := by
  rw [polsD, map_flat_unD, List.map_map, List.map_map]
  congr 1
  apply List.map_congr_left
  intro a _
  exact unD_polC
def dInt (c : C) : Bool := match c with
  | .d x => isInt x
  | _ => false
theorem un_int : ∀ cs : List C, cs.all dInt = true → (cs.map unD).all isInt = true
  | [], _ => rfl
  | c :: cs, h => by
    rw [List.all_cons, Bool.and_eq_true] at h
    rw [List.map_cons, List.all_cons, un_int cs h.2, Bool.and_true]
    cases c with
    | d x => exact h.1
    | _ => cases h.1
theorem polL_int (i : Nat) : ∀ k c, ∀ e ∈ polL i k c, e.all dInt = true
  | _, 0, _, h => by cases h
  | k, c + 1, e, h => by
    rcases List.mem_cons.1 h with rfl | h
    · rfl
    · exact polL_int i (k + 1) c e h
theorem polA_int (i p : Nat) : ∀ e ∈ polA i p, e.all dInt = true := fun e he => by
  rcases List.mem_append.1 he with h | h
  · exact polL_int i 0 p e h
  · rw [List.mem_singleton.1 h]; rfl
theorem mapL_int (i p m : Nat) : ∀ k c, ∀ e ∈ mapL i p m k c, e.all dInt = true
  | _, 0, _, h => by cases h
  | k, c + 1, e, h => by
    rcases List.mem_cons.1 h with rfl | h
    · rfl
    · exact mapL_int i p m (k + 1) c e h
theorem blk_un {es : List (List C)} {sz : Nat} (h1 : ∀ e ∈ es, e.length = sz) (h2 : ∀ e ∈ es, e.all dInt = true) : ∀ o ∈ es.map (·.map unD), o.length = sz ∧ o.all isInt = true := fun o ho => by
  obtain ⟨x, hx, rfl⟩ := List.mem_map.1 ho
  exact ⟨by rw [List.length_map]; exact h1 x hx, un_int x (h2 x hx)⟩
theorem match_long (p m j : Nat) (hp : p < 900) (hm : m < 900) : ∃ os ms hm' M M', Match (recD j p m) (recRL p m j) os ms hm' M M' := by
  have hlen : ((polA j p).map (·.map unD)).length = p + 1 := by simp [polA, polL_len]
  have hml : ((mapL j p m 0 m).map (·.map unD)).length = m := by rw [List.length_map, mapL_len]
  have hmm : decide ((m : Int) > 0) = decide (0 < m) := decide_eq_decide.2 (by omega)
  refine ⟨(polA j p).map (·.map unD), (mapL j p m 0 m).map (·.map unD), decide (0 < m), .sl (mapsD j p m) m, if m = 0 then .nils else .sl (mapsD j p m) m, ⟨?_, ?_, blk_un (polA_17 j p) (polA_int j p), blk_un (mapL_34 j p m 0 m) (mapL_int j p m 0 m), by omega, by omega, ?_, ?_⟩⟩
  · rw [recD, recX, polsD_eq, hlen, hmm]
  · rw [recRL, recR, recX, polsD_eq, hlen]
  · exact Or.inl (by rw [mapsD, map_flat_unD, hml])
  · split
    · rename_i h0
      subst h0
      exact Or.inr ⟨rfl, rfl⟩
    · exact Or.inl (by rw [mapsD, map_flat_unD, hml])
end Mini
end Go.Proofs.YtcilepbdddgpoaaDoor
namespace Go.Proofs.YtcilepbdddgpoaaDoor
namespace Mini
open Go

/-- Is a number from one to another one? -/
def w (v lo hi : Int) : Bool := decide (v ≥ lo) && decide (v ≤ hi)
theorem p27 (v lo hi : Int) : X3.prim 27 [.c (.d (.int .i64 v)), .c (.d (.int .i64 lo)), .c (.d (.int .i64 hi))] = some (.c (.d (.bool (w v lo hi)))) := rfl
theorem r38 : vcallN X3 100 38 [] = some (.agg anyE) := by kernel_rfl
theorem r40 : vcallN X3 100 40 [] = some (.agg anyE) := by kernel_rfl
theorem r30 : vcallN X3 100 30 [] = some (.agg inpsC) := by kernel_rfl
theorem r22 : vcallN X3 100 22 [] = some (.agg inpsC) := by kernel_rfl
def inLw (n p m : Int) : Bool := (w n 1 64 && w p 0 63) && w m 0 64
theorem r37 (N : Nat) (n p m : Int) : vcallN X3 (N + 1) 37 [i64 n, i64 p, i64 m] = some (bl (inLw n p m)) := by
  have hX : X3.fns 37 = some fn37' := rfl
  have hv := fun v lo hi => zenv_prim (n := N) (p27 v lo hi)
  refine vcall_of (H := []) (r := bl (inLw n p m)) ?_ rfl
  rw [callN_fn hX]
  unfold inLw
  cases h1 : w n 1 64 <;> cases h2 : w p 0 63 <;> cases h3 : w m 0 64 <;>
  simp only [fn37', runFn, pad, List.replicate, Nat.reduceSub, List.cons_append, List.nil_append, byValue, mapO, deepV1, deepC, hv, h1, h2, h3, V.flat, V.flat1, C.flat, D.flat, results, result, Bool.and_self, Bool.and_true, Bool.and_false, Bool.false_beq, Bool.not_true, beq_self_eq_true, exec, runOps, wants, Mini.step, stepP, stepE, O.eff, Mini.look, nth, put, exports, i64, bl, List.length_cons, List.length_nil, Option.map_some, if_true, if_false, List.all_nil, Nat.zero_add, Bool.false_eq_true, Nat.reduceAdd]
/-- WideGraph. -/
def graphW (n k : Int) : V := .tup [i64 (IntKind.i64.wrap (IntKind.i64.wrap (n * k) + 1)), i64 (IntKind.i64.wrap (k + IntKind.i64.wrap (IntKind.i64.wrap (IntKind.i64.wrap (n - 1) * k) * k))), i64 0]
theorem r11_in (N : Nat) (n k : Int) (h : (w n 1 64 && w k 1 8) = true) : vcallN X3 (N + 1) 11 [i64 n, i64 k] = some (graphW n k) := by
  have hX : X3.fns 11 = some fn11' := rfl
  have hv := fun v lo hi => zenv_prim (n := N) (p27 v lo hi)
  rw [Bool.and_eq_true] at h
  obtain ⟨h1, h2⟩ := h
  refine vcall_of (H := []) (r := graphW n k) ?_ rfl
  rw [callN_fn hX, graphW]
  simp only [fn11', runFn, pad, List.replicate, Nat.reduceSub, List.cons_append, List.nil_append, byValue, mapO, deepV1, deepC, hv, h1, h2, V.flat, V.flat1, C.flat, D.flat, results, result, Bool.not_true, beq_self_eq_true, exec, runOps, wants, Mini.step, stepP, stepE, O.eff, Mini.look, nth, put, exports, bin, binInt, un, i64, List.length_cons, List.length_nil, Option.map_some, if_true, if_false, List.all_nil, cond_false, Nat.zero_add, Bool.false_eq_true, Nat.reduceAdd]
theorem r11_out (N : Nat) (n k : Int) (h : (w n 1 64 && w k 1 8) = false) : vcallN X3 (N + 1) 11 [i64 n, i64 k] = some (.tup [i64 0, i64 0, i64 1]) := by
  have hX : X3.fns 11 = some fn11' := rfl
  have hv := fun v lo hi => zenv_prim (n := N) (p27 v lo hi)
  refine vcall_of (H := []) (r := .tup [i64 0, i64 0, i64 1]) ?_ rfl
  rw [callN_fn hX]
  cases h1 : w n 1 64 <;> cases h2 : w k 1 8 <;> first
    | (rw [h1, h2] at h; cases h; done)
    | simp only [fn11', runFn, pad, List.replicate, Nat.reduceSub, List.cons_append, List.nil_append, byValue, mapO, deepV1, deepC, hv, h1, h2, V.flat, V.flat1, C.flat, D.flat, results, result, Bool.true_beq, Bool.not_true, Bool.not_false, beq_self_eq_true, exec, runOps, wants, Mini.step, stepP, stepE, O.eff, Mini.look, nth, put, exports, un, i64, List.length_cons, List.length_nil, Option.map_some, if_true, if_false, List.all_nil, cond_true, Nat.zero_add, Bool.false_eq_true, Nat.reduceAdd]
theorem r9_out {X : Ctx} (hX : X.fns 9 = some fn9) {N : Nat} (h27 : ∀ v lo hi, (zenv X N).vcall 27 [.c (.d (.int .i64 v)), .c (.d (.int .i64 lo)), .c (.d (.int .i64 hi))] = some (.c (.d (.bool (w v lo hi))))) (n k : Int) (h : (w n 1 64 && w k 1 8) = false) (H0 : Heap) : callN X (N + 1) (.d (.fn 9 [] [])) [i64 n, i64 k] H0 = some (.tup [.c (.d .nils), .agg inp0, i64 1], H0 ++ [.cells inp0 0 false]) := by
  rw [fn9_is] at hX
  rw [callN_fn hX]
  cases h1 : w n 1 64 <;> cases h2 : w k 1 8 <;> first
    | (rw [h1, h2] at h; cases h; done)
    | simp only [fn9', inp0, runFn, pad, List.replicate, Nat.reduceSub, List.cons_append, List.nil_append, byValue, mapO, deepV1, deepC, h27, h1, h2, lay, splice, at0, se0, V.flat, V.flat1, C.flat, D.flat, results, result, List.map_cons, List.map_nil, List.take_zero, List.take_succ_cons, List.take_nil, List.drop_zero, List.drop_succ_cons, List.drop_nil, Nat.le_refl, Bool.true_beq, Bool.not_true, Bool.not_false, beq_self_eq_true, exec, runOps, wants, Mini.step, stepP, stepE, O.eff, Mini.look, nth, put, exports, un, i64, ob_eq, setOb_eq, ofCells, V.cells, List.length_cons, List.length_nil, Option.map_some, if_true, if_false, List.append_nil, List.all_nil, cond_true, Nat.zero_add, and_self, Bool.false_eq_true, Nat.reduceAdd]
theorem r17_out {X : Ctx} (hX : X.fns 17 = some fn17) {N : Nat} (h37 : ∀ n p m, (zenv X N).vcall 37 [.c (.d (.int .i64 n)), .c (.d (.int .i64 p)), .c (.d (.int .i64 m))] = some (.c (.d (.bool (inLw n p m))))) (n p m : Int) (h : inLw n p m = false) (H0 : Heap) : callN X (N + 1) (.d (.fn 17 [] [])) [i64 n, i64 p, i64 m] H0 = some (.tup [.c (.d .nils), .agg inp0, i64 1], H0 ++ [.cells inp0 0 false]) := by
  rw [fn17_is] at hX
  rw [callN_fn hX]
  simp only [fn17', inp0, runFn, pad, List.replicate, Nat.reduceSub, List.cons_append, List.nil_append, byValue, mapO, deepV1, deepC, h37, h, lay, splice, at0, se0, V.flat, V.flat1, C.flat, D.flat, results, result, List.map_cons, List.map_nil, List.take_zero, List.take_succ_cons, List.take_nil, List.drop_zero, List.drop_succ_cons, List.drop_nil, Nat.le_refl, Bool.not_false, exec, runOps, wants, Mini.step, stepP, stepE, O.eff, Mini.look, nth, put, exports, un, i64, ob_eq, setOb_eq, ofCells, V.cells, List.length_cons, List.length_nil, Option.map_some, if_true, if_false, List.append_nil, List.all_nil, cond_true, Nat.zero_add, and_self, Bool.false_eq_true, Nat.reduceAdd]
/-! ### The context with the small ones -/
def prim4 (f : FuncId) (vs : List V) : Option V :=
  match f, vs with
  | 37, [.c (.d (.int .i64 n)), .c (.d (.int .i64 p)), .c (.d (.int .i64 m))] => some (bl (inLw n p m))
  | 38, [] => some (.agg anyE)
  | 40, [] => some (.agg anyE)
  | 30, [] => some (.agg inpsC)
  | 22, [] => some (.agg inpsC)
  | 11, [.c (.d (.int .i64 n)), .c (.d (.int .i64 k))] => some (if (w n 1 64 && w k 1 8) = true then graphW n k else .tup [i64 0, i64 0, i64 1])
  | f, vs => prim3 f vs
def X4 : Ctx := ⟨fns, prim4, fun _ _ _ => none, fun _ => none⟩
theorem X4_ok : CtxOk Tryd.prog X4 := by
  refine ⟨fns_ok, fun f vs r h => ?_⟩
  simp only [X4, prim4] at h
  split at h
  · cases h; exact ⟨en37.1, vcallN_ok X3_ok (r37 0 _ _ _)⟩
  · cases h; exact ⟨en38.1, vcallN_ok X3_ok r38⟩
  · cases h; exact ⟨en40.1, vcallN_ok X3_ok r40⟩
  · cases h; exact ⟨en30.1, vcallN_ok X3_ok r30⟩
  · cases h; exact ⟨en22.1, vcallN_ok X3_ok r22⟩
  · rename_i n k
    cases h
    by_cases hc : (w n 1 64 && w k 1 8) = true
    · rw [if_pos hc]; exact ⟨en11.1, vcallN_ok X3_ok (r11_in 0 _ _ hc)⟩
    · rw [if_neg hc]; exact ⟨en11.1, vcallN_ok X3_ok (r11_out 0 _ _ (by simpa using hc))⟩
  · exact X3_ok.prim f vs r h
theorem w_nat {n : Int} {lo hi : Nat} (h : w n lo hi = true) : ∃ m : Nat, n = m ∧ lo ≤ m ∧ m ≤ hi := by
  simp only [w, Bool.and_eq_true, decide_eq_true_eq] at h
  exact ⟨n.toNat, by omega, by omega, by omega⟩
theorem r10_out' (N : Nat) (n k : Int) (h : (w n 1 64 && w k 1 8) = false) : vcallN X4 (N + 1) 10 [i64 n, i64 k] = some (.tup [.c (.d (.str [])), i64 1]) := by
  have hX : X4.fns 10 = some fn10' := rfl
  have hv := fun v lo hi => zenv_prim (X := X4) (n := N) (f := 27) (r := .c (.d (.bool (w v lo hi)))) (vs := [.c (.d (.int .i64 v)), .c (.d (.int .i64 lo)), .c (.d (.int .i64 hi))]) rfl
  refine vcall_of (H := []) (r := .tup [.c (.d (.str [])), i64 1]) ?_ rfl
  rw [callN_fn hX]
  cases h1 : w n 1 64 <;> cases h2 : w k 1 8 <;> first
    | (rw [h1, h2] at h; cases h; done)
    | simp only [fn10', runFn, pad, List.replicate, Nat.reduceSub, List.cons_append, List.nil_append, byValue, mapO, deepV1, deepC, hv, h1, h2, V.flat, V.flat1, C.flat, D.flat, results, result, Bool.true_beq, Bool.not_true, Bool.not_false, beq_self_eq_true, exec, runOps, wants, Mini.step, stepP, stepE, O.eff, Mini.look, nth, put, exports, un, i64, List.length_cons, List.length_nil, Option.map_some, if_true, if_false, List.all_nil, cond_true, Nat.zero_add, Bool.false_eq_true, Nat.reduceAdd]
theorem q10 (n k : Int) : vcallN X4 1002 10 [i64 n, i64 k] = some (if (w n 1 64 && w k 1 8) = true then .tup [.c (.d (.str (treeS k.toNat n.toNat))), i64 0] else .tup [.c (.d (.str [])), i64 1]) := by
  by_cases hc : (w n 1 64 && w k 1 8) = true
  · rw [if_pos hc]
    rw [Bool.and_eq_true] at hc
    obtain ⟨n, rfl, h1, h2⟩ := w_nat (lo := 1) (hi := 64) hc.1
    obtain ⟨k, rfl, h3, h4⟩ := w_nat (lo := 1) (hi := 8) hc.2
    exact fn10_in (X := X4) rfl rfl (fun _ _ _ => rfl) (N := 1000) (by omega) h1 h2 h3 h4
  · rw [if_neg hc]
    exact r10_out' 1001 n k (by simpa using hc)
def wideR (n k : Int) : V := if (w n 1 64 && w k 1 8) = true then .tup [wideV n.toNat k.toNat, .agg inpsC, i64 0] else .tup [.c (.d .nils), .agg inp0, i64 1]
theorem q9 (n k : Int) : vcallN X4 1002 9 [i64 n, i64 k] = some (wideR n k) := by
  unfold wideR
  by_cases hc : (w n 1 64 && w k 1 8) = true
  · rw [if_pos hc]
    rw [Bool.and_eq_true] at hc
    obtain ⟨n, rfl, h1, h2⟩ := w_nat (lo := 1) (hi := 64) hc.1
    obtain ⟨k, rfl, h3, h4⟩ := w_nat (lo := 1) (hi := 8) hc.2
    obtain ⟨H', a, b, _⟩ := fn9_in (X := X4) rfl rfl (N := 1000) (by omega) (fun _ _ => zenv_prim rfl) (zenv_prim rfl) (fun _ _ _ => zenv_prim rfl) h1 h2 h3 h4 [] Hp.nil
    refine vcall_of a ?_
    have b := b []
    rw [List.append_nil] at b
    have hi : deepV1 H' (.agg inpsC) = some (.agg inpsC) := rfl
    simp only [deepV, mapO, b, hi]
    rfl
  · rw [if_neg hc]
    exact vcall_of (r9_out (X := X4) rfl (N := 1001) (fun _ _ _ => zenv_prim rfl) n k (by simpa using hc) []) rfl
def longR (n p m : Int) : V := if inLw n p m = true then .tup [longV n.toNat p.toNat m.toNat, .agg inpsC, i64 0] else .tup [.c (.d .nils), .agg inp0, i64 1]
theorem inLw_nat {n p m : Int} (h : inLw n p m = true) : ∃ a b c : Nat, n = a ∧ p = b ∧ m = c ∧ 1 ≤ a ∧ a ≤ 64 ∧ b ≤ 63 ∧ c ≤ 64 := by
  simp only [inLw, Bool.and_eq_true] at h
  obtain ⟨a, rfl, h1, h2⟩ := w_nat (lo := 1) (hi := 64) h.1.1
  obtain ⟨b, rfl, _, h3⟩ := w_nat (lo := 0) (hi := 63) h.1.2
  obtain ⟨c, rfl, _, h4⟩ := w_nat (lo := 0) (hi := 64) h.2
  exact ⟨a, b, c, rfl, rfl, rfl, h1, h2, h3, h4⟩
theorem q17 (n p m : Int) : vcallN X4 1002 17 [i64 n, i64 p, i64 m] = some (longR n p m) := by
  unfold longR
  by_cases hc : inLw n p m = true
  · rw [if_pos hc]
    obtain ⟨n, p, m, rfl, rfl, rfl, h1, h2, h3, h4⟩ := inLw_nat hc
    obtain ⟨H', a, b, _⟩ := fn17_in (X := X4) rfl rfl (N := 1000) (by omega) (fun _ _ => zenv_prim rfl) (zenv_prim rfl) (zenv_prim rfl) (fun _ _ _ => zenv_prim rfl) h1 h2 h3 h4 [] Hp.nil
    refine vcall_of a ?_
    have b := b []
    rw [List.append_nil] at b
    have hi : deepV1 H' (.agg inpsC) = some (.agg inpsC) := rfl
    simp only [deepV, mapO, b, hi]
    rfl
  · rw [if_neg hc]
    exact vcall_of (r17_out (X := X4) rfl (N := 1001) (fun _ _ _ => zenv_prim rfl) n p m (by simpa using hc) []) rfl
def prim5 (f : FuncId) (vs : List V) : Option V :=
  match f, vs with
  | 10, [.c (.d (.int .i64 n)), .c (.d (.int .i64 k))] => some (if (w n 1 64 && w k 1 8) = true then .tup [.c (.d (.str (treeS k.toNat n.toNat))), i64 0] else .tup [.c (.d (.str [])), i64 1])
  | 9, [.c (.d (.int .i64 n)), .c (.d (.int .i64 k))] => some (wideR n k)
  | 17, [.c (.d (.int .i64 n)), .c (.d (.int .i64 p)), .c (.d (.int .i64 m))] => some (longR n p m)
  | f, vs => prim4 f vs
def X5 : Ctx := ⟨fns, prim5, fun _ _ _ => none, fun _ => none⟩
theorem X5_ok : CtxOk Tryd.prog X5 := by
  refine ⟨fns_ok, fun f vs r h => ?_⟩
  simp only [X5, prim5] at h
  split at h
  · cases h; exact ⟨en10.1, vcallN_ok X4_ok (q10 _ _)⟩
  · cases h; exact ⟨en9.1, vcallN_ok X4_ok (q9 _ _)⟩
  · cases h; exact ⟨en17.1, vcallN_ok X4_ok (q17 _ _ _)⟩
  · exact X4_ok.prim f vs r h
end Mini
end Go.Proofs.YtcilepbdddgpoaaDoor
namespace Go.Proofs.YtcilepbdddgpoaaDoor
namespace Mini
open Go

/-- The size of a level. -/
def levelI (n p m i : Int) : Int :=
  if i = 0 then 1 else if i = n then IntKind.i64.wrap (IntKind.i64.wrap (1 + IntKind.i64.wrap (n * p)) + IntKind.i64.wrap (IntKind.i64.wrap (n - 1) * m)) else IntKind.i64.wrap (1 + IntKind.i64.wrap (i * IntKind.i64.wrap (p + m)))
theorem r39 (N : Nat) (n p m i : Int) : vcallN X5 (N + 1) 39 [i64 n, i64 p, i64 m, i64 i] = some (i64 (levelI n p m i)) := by
  have hX : X5.fns 39 = some fn39' := rfl
  refine vcall_of (H := []) (r := i64 (levelI n p m i)) ?_ rfl
  rw [callN_fn hX, levelI]
  by_cases h0 : i = 0
  · have h0' : (i == 0) = true := by simp [h0]
    simp only [fn39', if_pos h0, h0', runFn, pad, List.replicate, Nat.reduceSub, List.cons_append, List.nil_append, results, result, mapO, exec, runOps, wants, Mini.step, stepP, stepE, O.eff, Mini.look, nth, put, exports, bin, binInt, i64, List.length_cons, List.length_nil, Option.map_some, if_true, if_false, List.all_nil, cond_true, Nat.zero_add, Bool.false_eq_true, Nat.reduceAdd]
  · have h0' : (i == 0) = false := by simp [h0]
    by_cases h1 : i = n
    · have h1' : (i == n) = true := by simp [h1]
      simp only [fn39', if_neg h0, if_pos h1, h0', h1', runFn, pad, List.replicate, Nat.reduceSub, List.cons_append, List.nil_append, results, result, mapO, exec, runOps, wants, Mini.step, stepP, stepE, O.eff, Mini.look, nth, put, exports, bin, binInt, i64, List.length_cons, List.length_nil, Option.map_some, if_true, if_false, List.all_nil, cond_true, cond_false, Nat.zero_add, Bool.false_eq_true, Nat.reduceAdd]
    · have h1' : (i == n) = false := by simp [h1]
      simp only [fn39', if_neg h0, if_neg h1, h0', h1', runFn, pad, List.replicate, Nat.reduceSub, List.cons_append, List.nil_append, results, result, mapO, exec, runOps, wants, Mini.step, stepP, stepE, O.eff, Mini.look, nth, put, exports, bin, binInt, i64, List.length_cons, List.length_nil, Option.map_some, if_true, if_false, List.all_nil, cond_false, Nat.zero_add, Bool.false_eq_true, Nat.reduceAdd]
theorem r16 : vcallN X5 200 16 [.agg inpsC] = some (i64 1) := by
  rw [← vcallF_eq]
  kernel_rfl
theorem r33 : vcallN X5 100 33 [] = some (.agg blankC) := by
  rw [← vcallF_eq]
  kernel_rfl
theorem q20 (n p m : Nat) (h2 : n ≤ 64) (h3 : p ≤ 63) (h4 : m ≤ 64) (X : Ctx) (hX : X.fns = fns) (hv : ∀ i k, X.prim 26 [.c (.d (.int .i64 i)), .c (.d (.int .i64 k))] = some (.agg (polE i k))) (h33 : X.prim 33 [] = some (.agg blankC)) (h40 : X.prim 40 [] = some (.agg anyE)) : vcallN X 1002 20 [i64 n, i64 p, i64 m] = some (slV (recRL p m) n) :=
  fn20_ok (N := 1000) (by rw [hX]; rfl) (by rw [hX]; rfl) (by rw [hX]; rfl) (by omega) (fun i k => zenv_prim (hv i k)) (zenv_prim h33) (zenv_prim h40) (by omega) (by omega) (by omega)
def prim6 (f : FuncId) (vs : List V) : Option V :=
  match f, vs with
  | 39, [.c (.d (.int .i64 n)), .c (.d (.int .i64 p)), .c (.d (.int .i64 m)), .c (.d (.int .i64 i))] => some (i64 (levelI n p m i))
  | 33, [] => some (.agg blankC)
  | f, vs => prim5 f vs
def X6 : Ctx := ⟨fns, prim6, fun _ _ _ => none, fun _ => none⟩
theorem X6_ok : CtxOk Tryd.prog X6 := by
  refine ⟨fns_ok, fun f vs r h => ?_⟩
  simp only [X6, prim6] at h
  split at h
  · cases h; exact ⟨en39.1, vcallN_ok X5_ok (r39 0 _ _ _ _)⟩
  · cases h; exact ⟨en33.1, vcallN_ok X5_ok r33⟩
  · exact X5_ok.prim f vs r h

/-- LongLevel. -/
theorem p37 (N : Nat) (n p m : Int) : (zenv X6 N).vcall 37 [.c (.d (.int .i64 n)), .c (.d (.int .i64 p)), .c (.d (.int .i64 m))] = some (.c (.d (.bool (inLw n p m)))) := zenv_prim rfl
theorem p27' (N : Nat) (v lo hi : Int) : (zenv X6 N).vcall 27 [.c (.d (.int .i64 v)), .c (.d (.int .i64 lo)), .c (.d (.int .i64 hi))] = some (.c (.d (.bool (w v lo hi)))) := zenv_prim rfl
theorem p39 (N : Nat) (n p m i : Int) : (zenv X6 N).vcall 39 [.c (.d (.int .i64 n)), .c (.d (.int .i64 p)), .c (.d (.int .i64 m)), .c (.d (.int .i64 i))] = some (.c (.d (.int .i64 (levelI n p m i)))) := zenv_prim rfl
theorem r19_in (N : Nat) (n p m i : Int) (h : inLw n p m = true) (h' : w i 0 n = true) : vcallN X6 (N + 1) 19 [i64 n, i64 p, i64 m, i64 i] = some (.tup [i64 (levelI n p m i), i64 0]) := by
  have hX : X6.fns 19 = some fn19' := rfl
  refine vcall_of (H := []) (r := .tup [i64 (levelI n p m i), i64 0]) ?_ rfl
  rw [callN_fn hX]
  simp only [fn19', runFn, pad, List.replicate, Nat.reduceSub, List.cons_append, List.nil_append, byValue, mapO, deepV1, deepC, p37, p27', p39, h, h', V.flat, V.flat1, C.flat, D.flat, results, result, Bool.not_true, beq_self_eq_true, exec, runOps, wants, Mini.step, stepP, stepE, O.eff, Mini.look, nth, put, exports, un, i64, List.length_cons, List.length_nil, Option.map_some, if_true, if_false, List.all_nil, cond_false, Nat.zero_add, Bool.false_eq_true, Nat.reduceAdd]
theorem r19_out (N : Nat) (n p m i : Int) (h : (inLw n p m && w i 0 n) = false) : vcallN X6 (N + 1) 19 [i64 n, i64 p, i64 m, i64 i] = some (.tup [i64 0, i64 1]) := by
  have hX : X6.fns 19 = some fn19' := rfl
  refine vcall_of (H := []) (r := .tup [i64 0, i64 1]) ?_ rfl
  rw [callN_fn hX]
  cases h1 : inLw n p m <;> cases h2 : w i 0 n <;> first
    | (rw [h1, h2] at h; cases h; done)
    | simp only [fn19', runFn, pad, List.replicate, Nat.reduceSub, List.cons_append, List.nil_append, byValue, mapO, deepV1, deepC, p37, p27', h1, h2, V.flat, V.flat1, C.flat, D.flat, results, result, Bool.true_beq, Bool.not_true, Bool.not_false, beq_self_eq_true, exec, runOps, wants, Mini.step, stepP, stepE, O.eff, Mini.look, nth, put, exports, un, i64, List.length_cons, List.length_nil, Option.map_some, if_true, if_false, List.all_nil, cond_true, Nat.zero_add, Bool.false_eq_true, Nat.reduceAdd]

/-- LongGraph. -/
def sumL (n p m : Int) : Nat → Int
  | 0 => 0
  | i + 1 => IntKind.i64.wrap (sumL n p m i + levelI n p m i)
def R18 (n p m : Int) (s : Int) (L i : Nat) : List V := [i64 n, i64 p, i64 m, i64 s, .any, .any, .any, .any, i64 L, i64 i, .any]
theorem loop18 {N M : Nat} (n p m : Int) (L : Nat) (hL : L < 1000) : ∀ (c i fuel : Nat), i + c = L → c < fuel →
    iter (some [0, 1, 2, 3, 8, 9]) 0 (exec (zenv X6 N) M false fn18L0) fuel ⟨R18 n p m (sumL n p m i) L i, []⟩ = some (.exit 0, ⟨put (R18 n p m (sumL n p m L) L L) 10 (bl false), []⟩) := by
  intro c
  induction c with
  | zero =>
    intro i fuel a1 a2
    obtain ⟨f, rfl⟩ : ∃ f, fuel = f + 1 := ⟨fuel - 1, by omega⟩
    obtain rfl : i = L := by omega
    refine iter_stop ?_
    simp only [fn18L0, R18, Int.lt_irrefl, exec, runOps, wants, Mini.step, stepP, stepE, O.eff, Mini.look, nth, put, exports, bin, binInt, i64, bl, Option.map_some, if_true, if_false, decide_false, List.append_nil, List.all_nil, cond_false, Bool.false_eq_true]
  | succ c ih =>
    intro i fuel a1 a2
    obtain ⟨f, rfl⟩ : ∃ f, fuel = f + 1 := ⟨fuel - 1, by omega⟩
    have hlt : (i : Int) < (L : Int) := by omega
    have e7 : IntKind.i64.wrap ((i : Int) + 1) = ((i + 1 : Nat) : Int) := wrap_succ (by omega)
    have hr : exec (zenv X6 N) M false fn18L0 ⟨R18 n p m (sumL n p m i) L i, []⟩ = some (.nrm, ⟨put (put (R18 n p m (sumL n p m (i + 1)) L (i + 1)) 6 (i64 i)) 10 (bl true), []⟩) := by
      simp only [fn18L0, R18, hlt, e7, sumL, byValue, mapO, deepV1, deepC, p39, V.flat, V.flat1, C.flat, D.flat, exec, runOps, wants, Mini.step, stepP, stepE, O.eff, Mini.look, nth, put, exports, bin, binInt, i64, bl, Option.map_some, if_true, if_false, decide_true, List.append_nil, List.all_nil, cond_true, Bool.false_eq_true]
    rw [iter_step hr, show tidy 0 (some [0, 1, 2, 3, 8, 9]) ⟨put (put (R18 n p m (sumL n p m (i + 1)) L (i + 1)) 6 (i64 i)) 10 (bl true), []⟩ = ⟨R18 n p m (sumL n p m (i + 1)) L (i + 1), []⟩ from rfl]
    exact ih (i + 1) f (by omega) (by omega)
theorem r18_in (N : Nat) (hN : 1000 ≤ N) (n : Nat) (p m : Int) (hn : n ≤ 64) (h : inLw n p m = true) : vcallN X6 (N + 1) 18 [i64 n, i64 p, i64 m] = some (.tup [i64 (sumL n p m (n + 1)), i64 (IntKind.i64.wrap (sumL n p m (n + 1) - 1)), i64 0]) := by
  have hX : X6.fns 18 = some fn18' := rfl
  have hl := loop18 (N := N) (M := N) n p m (n + 1) (by omega) (n + 1) 0 N (by omega) (by omega)
  have e1 : IntKind.i64.wrap ((n : Int) + 1) = ((n + 1 : Nat) : Int) := wrap_succ (by omega)
  have t1 : ∀ a b c d, tidy 0 (some [0, 1, 2, 3, 8, 9]) ⟨[i64 n, i64 p, i64 m, i64 0, a, b, c, d, i64 (n + 1 : Nat), i64 0, .any], []⟩ = ⟨R18 n p m 0 (n + 1) 0, []⟩ := fun _ _ _ _ => rfl
  refine vcall_of (H := []) (r := .tup [i64 (sumL n p m (n + 1)), i64 (IntKind.i64.wrap (sumL n p m (n + 1) - 1)), i64 0]) ?_ rfl
  rw [callN_fn hX]
  rw [show sumL n p m 0 = 0 from rfl] at hl
  simp only [R18, i64, put, bl, Int.ofNat_zero] at hl t1
  simp only [fn18', runFn, pad, List.replicate, Nat.reduceSub, List.cons_append, List.nil_append, byValue, mapO, deepV1, deepC, p37, h, e1, t1, hl, V.flat, V.flat1, C.flat, D.flat, results, result, Bool.not_true, exec, runOps, wants, Mini.step, stepP, stepE, O.eff, Mini.look, nth, put, exports, bin, binInt, un, i64, List.length_cons, List.length_nil, Option.map_some, if_true, if_false, List.all_nil, cond_false, Nat.zero_add, Bool.false_eq_true, Nat.reduceAdd]
theorem r18_out (N : Nat) (n p m : Int) (h : inLw n p m = false) : vcallN X6 (N + 1) 18 [i64 n, i64 p, i64 m] = some (.tup [i64 0, i64 0, i64 1]) := by
  have hX : X6.fns 18 = some fn18' := rfl
  refine vcall_of (H := []) (r := .tup [i64 0, i64 0, i64 1]) ?_ rfl
  rw [callN_fn hX]
  simp only [fn18', runFn, pad, List.replicate, Nat.reduceSub, List.cons_append, List.nil_append, byValue, mapO, deepV1, deepC, p37, h, V.flat, V.flat1, C.flat, D.flat, results, result, Bool.not_false, exec, runOps, wants, Mini.step, stepP, stepE, O.eff, Mini.look, nth, put, exports, un, i64, List.length_cons, List.length_nil, Option.map_some, if_true, if_false, List.all_nil, cond_true, Nat.zero_add, Bool.false_eq_true, Nat.reduceAdd]
end Mini
end Go.Proofs.YtcilepbdddgpoaaDoor
