/-
  Long: the loops of a round.
-/
import Derived.Test.YtcilepbdddgpoaaDoorMiniX1
namespace Go.Proofs.YtcilepbdddgpoaaDoor
namespace Mini
open Go

def polE (i k : Int) : List C := [.d (.int .u8 9), u32 1, u32 3, u32 6, u32 1, u32 4, u32 1, u32 99, u32 (IntKind.u32.wrap i), u32 (IntKind.u32.wrap k)] ++ List.replicate 7 (u32 0)
theorem polV_agg (i k : Int) : polV i k = .agg (polE i k) := rfl
theorem polE_len (i k : Int) : (polE i k).length = 17 := rfl
theorem polE_flat (i k : Int) : (polE i k).all C.flat = true := rfl
theorem polE_d (i k : Int) : (polE i k).all C.isD = true := rfl
theorem lay17 {a : List C} (h : a.length = 17) : lay [.d (.int .u8 0), .d (.int .u32 0), .d (.int .u32 0), .d (.int .u32 0), .d (.int .u32 0), .d (.int .u32 0), .d (.int .u32 0), .d (.int .u32 0), .d (.int .u32 0), .d (.int .u32 0), .d (.int .u32 0), .d (.int .u32 0), .d (.int .u32 0), .d (.int .u32 0), .d (.int .u32 0), .d (.int .u32 0), .d (.int .u32 0)] [(0, 17, .agg a)] = some a := by
  simp [lay, V.cells, splice, h]
theorem lay34 {a b : List C} (h : a.length = 17) (h' : b.length = 17) : lay [.d (.int .u8 0), .d (.int .u32 0), .d (.int .u32 0), .d (.int .u32 0), .d (.int .u32 0), .d (.int .u32 0), .d (.int .u32 0), .d (.int .u32 0), .d (.int .u32 0), .d (.int .u32 0), .d (.int .u32 0), .d (.int .u32 0), .d (.int .u32 0), .d (.int .u32 0), .d (.int .u32 0), .d (.int .u32 0), .d (.int .u32 0), .d (.int .u8 0), .d (.int .u32 0), .d (.int .u32 0), .d (.int .u32 0), .d (.int .u32 0), .d (.int .u32 0), .d (.int .u32 0), .d (.int .u32 0), .d (.int .u32 0), .d (.int .u32 0), .d (.int .u32 0), .d (.int .u32 0), .d (.int .u32 0), .d (.int .u32 0), .d (.int .u32 0), .d (.int .u32 0), .d (.int .u32 0)] [(0, 17, .agg a), (17, 17, .agg b)] = some (a ++ b) := by
  have h17 : a.take 17 = a := by rw [← h, List.take_length]
  simp [lay, V.cells, splice, h, h', List.drop_append]
/-- Registers of the first loop of a round. -/
def RA (p m : Nat) (inp arr : V) (i n : Nat) (os : V) (k : Nat) : List V := [.any, i64 p, i64 m, .any, inp, .any, arr, i64 i, os, .any, .any, .any, .any, i64 n, i64 i, .any, i64 p, i64 k, .any, .any, .any, .any]
def os17 (a g k : Nat) : V := .c (.os a g 0 k 17 none)
theorem roundA {E : Env} (hv : ∀ i k, E.vcall 28 [.c (.d (.int .i64 i)), .c (.d (.int .i64 k))] = some (.agg (polE i k))) {N p m n i k : Nat} {inp arr : V} {H : Heap} {es : List (List C)} (hes : ∀ e ∈ es, e.length = 17) (hk : es.length = k) (hkp : k < p) (hp : p < 1000) (hi : i < 1000) :
    exec E N false fn17L1 ⟨RA p m inp arr i n (os17 H.length k k) k, H ++ [.cells es.flatten k false]⟩ = some (.nrm, ⟨put (put (RA p m inp arr i n (os17 H.length (k + 1) (k + 1)) (k + 1)) 9 (i64 k)) 18 (bl true),
      H ++ [.cells (es ++ [polE (i + 1 : Nat) (k + 1 : Nat)]).flatten (k + 1) false, .cells (polE (i + 1 : Nat) (k + 1 : Nat)) 0 false]⟩) := by
  have hlt : (k : Int) < (p : Int) := by exact_mod_cast hkp
  have e1 : IntKind.i64.wrap ((i : Int) + 1) = ((i + 1 : Nat) : Int) := wrap_succ (by omega)
  have e2 : IntKind.i64.wrap ((k : Int) + 1) = ((k + 1 : Nat) : Int) := wrap_succ (by omega)
  have hl : es.flatten.length = k * 17 := by rw [flat_len es hes, hk]
  have h1 : k + 1 ≤ 1073741824 := by omega
  have h2 : (es.flatten ++ polE (i + 1 : Nat) (k + 1 : Nat)) = (es ++ [polE (i + 1 : Nat) (k + 1 : Nat)]).flatten := by simp
  have h3 : es.flatten.take (k * 17) = es.flatten := by rw [← hl, List.take_length]
  have h4 : ∀ j, (polE (i + 1 : Nat) j).take 17 = polE (i + 1 : Nat) j := fun j => by rw [← polE_len (i + 1 : Nat) j, List.take_length]
  simp only [fn17L1, RA, os17, hlt, e1, e2, byValue, mapO, deepV1, deepC, hv, V.flat, V.flat1, polE_flat, polE_len, rep, List.map_cons, List.map_nil, lay17 (polE_len _ _), elems, at0, at1, se0, hl, h1, h2, h3, h4, List.drop_zero, List.append_assoc, List.cons_append, List.nil_append, List.length_append, Nat.le_refl, exec, runOps, wants, Mini.step, stepP, stepE, O.eff, Mini.look, nth, put, exports, bin, binInt, i64, bl, ob_eq, setOb_eq, List.length_cons, List.length_nil, Option.map_some, if_true, if_false, decide_true, List.append_nil, List.all_nil, cond_true, Nat.zero_add, Nat.one_mul, and_self, reduceCtorEq, Bool.false_eq_true, and_true]
theorem endA {E : Env} {N p m n i : Nat} {inp arr os : V} {H : Heap} : exec E N false fn17L1 ⟨RA p m inp arr i n os p, H⟩ = some (.exit 2, ⟨put (RA p m inp arr i n os p) 18 (bl false), H⟩) := by
  simp only [fn17L1, RA, Int.lt_irrefl, exec, runOps, wants, Mini.step, stepP, stepE, O.eff, Mini.look, nth, put, exports, bin, binInt, i64, bl, Option.map_some, if_true, if_false, decide_false, List.append_nil, List.all_nil, cond_false, Bool.false_eq_true]
def polL (i : Nat) : Nat → Nat → List (List C)
  | _, 0 => []
  | k, c + 1 => polE (i + 1 : Nat) (k + 1 : Nat) :: polL i (k + 1) c
theorem polL_len (i : Nat) : ∀ k c, (polL i k c).length = c
  | _, 0 => rfl
  | k, c + 1 => by rw [polL, List.length_cons, polL_len i (k + 1) c]
theorem polL_17 (i : Nat) : ∀ k c, ∀ e ∈ polL i k c, e.length = 17
  | _, 0, _, h => by cases h
  | k, c + 1, e, h => by
    rcases List.mem_cons.1 h with rfl | h
    · rfl
    · exact polL_17 i (k + 1) c e h
theorem polL_d (i : Nat) : ∀ k c, ∀ e ∈ polL i k c, e.all C.isD = true
  | _, 0, _, h => by cases h
  | k, c + 1, e, h => by
    rcases List.mem_cons.1 h with rfl | h
    · rfl
    · exact polL_d i (k + 1) c e h
theorem refs_RA {p m n i k L : Nat} {inp arr : C} {a g l : Nat} (h1 : uC L inp = true) (h2 : uC L arr = true) (h3 : a < L) : (RA p m (.c inp) (.c arr) i n (os17 a g l) k).all (V.under L) = true := by
  simp only [RA, os17, i64, List.all_cons, List.all_nil, V.under, uC_under h1, uC_under h2, Bool.and_true, Bool.true_and, Bool.and_eq_true]
  exact ⟨rfl, rfl, rfl, decide_eq_true h3, rfl, rfl, rfl, rfl⟩
theorem loopA {E : Env} (hv : ∀ i k, E.vcall 28 [.c (.d (.int .i64 i)), .c (.d (.int .i64 k))] = some (.agg (polE i k))) {N p m n i : Nat} {inp arr : C} {H : Heap} (hp : p < 1000) (hi : i < 1000) (hH : Hp H.length H) (h1 : uC H.length inp = true) (h2 : uC H.length arr = true) :
    ∀ (c k : Nat) (es : List (List C)) (fuel : Nat), k + c = p → c < fuel → es.length = k → (∀ e ∈ es, e.length = 17) → (∀ e ∈ es, e.all C.isD = true) →
    iter (some [1, 2, 4, 6, 7, 8, 13, 14, 16, 17]) (H.length + 1) (exec E N false fn17L1) fuel ⟨RA p m (.c inp) (.c arr) i n (os17 H.length k k) k, H ++ [.cells es.flatten k false]⟩
      = some (.exit 2, ⟨put (RA p m (.c inp) (.c arr) i n (os17 H.length p p) p) 18 (bl false), H ++ [.cells (es ++ polL i k c).flatten p false]⟩) := by
  intro c
  induction c with
  | zero =>
    intro k es fuel a1 a2 a3 a4 a5
    obtain ⟨f, rfl⟩ : ∃ f, fuel = f + 1 := ⟨fuel - 1, by omega⟩
    obtain rfl : k = p := by omega
    rw [iter_stop endA, polL, List.append_nil]
  | succ c ih =>
    intro k es fuel a1 a2 a3 a4 a5
    obtain ⟨f, rfl⟩ : ∃ f, fuel = f + 1 := ⟨fuel - 1, by omega⟩
    have hr := roundA hv (N := N) (p := p) (m := m) (n := n) (i := i) (inp := .c inp) (arr := .c arr) (H := H) a4 a3 (by omega) hp hi
    have hl : (H ++ [Ob.cells (es ++ [polE (i + 1 : Nat) (k + 1 : Nat)]).flatten (k + 1) false]).length = H.length + 1 := by simp
    have a4' : ∀ e ∈ es ++ [polE (i + 1 : Nat) (k + 1 : Nat)], e.length = 17 := fun e he => by
      rcases List.mem_append.1 he with h | h
      · exact a4 e h
      · rw [List.mem_singleton.1 h]; rfl
    have a5' : ∀ e ∈ es ++ [polE (i + 1 : Nat) (k + 1 : Nat)], e.all C.isD = true := fun e he => by
      rcases List.mem_append.1 he with h | h
      · exact a5 e h
      · rw [List.mem_singleton.1 h]; rfl
    have ht : tidy (H.length + 1) (some [1, 2, 4, 6, 7, 8, 13, 14, 16, 17]) ⟨put (put (RA p m (.c inp) (.c arr) i n (os17 H.length (k + 1) (k + 1)) (k + 1)) 9 (i64 k)) 18 (bl true), H ++ [.cells (es ++ [polE (i + 1 : Nat) (k + 1 : Nat)]).flatten (k + 1) false, .cells (polE (i + 1 : Nat) (k + 1 : Nat)) 0 false]⟩
        = ⟨RA p m (.c inp) (.c arr) i n (os17 H.length (k + 1) (k + 1)) (k + 1), H ++ [.cells (es ++ [polE (i + 1 : Nat) (k + 1 : Nat)]).flatten (k + 1) false]⟩ := by
      rw [show H ++ [Ob.cells (es ++ [polE (i + 1 : Nat) (k + 1 : Nat)]).flatten (k + 1) false, .cells (polE (i + 1 : Nat) (k + 1 : Nat)) 0 false] = (H ++ [Ob.cells (es ++ [polE (i + 1 : Nat) (k + 1 : Nat)]).flatten (k + 1) false]) ++ [.cells (polE (i + 1 : Nat) (k + 1 : Nat)) 0 false] by simp]
      refine (show _ = gc (H.length + 1) ⟨RA p m (.c inp) (.c arr) i n (os17 H.length (k + 1) (k + 1)) (k + 1), (H ++ [Ob.cells (es ++ [polE (i + 1 : Nat) (k + 1 : Nat)]).flatten (k + 1) false]) ++ [.cells (polE (i + 1 : Nat) (k + 1 : Nat)) 0 false]⟩ from rfl).trans (gc_back _ hl.symm ?_ ?_)
      · rw [hl]; exact refs_RA (uC_mono (by omega) h1) (uC_mono (by omega) h2) (by omega)
      · rw [hl]; exact (hH.mono (by omega)).app (Hp.cons (flat_u fun e he => uC_all_d (a5' e he)) Hp.nil)
    rw [iter_step hr, ht, ih (k + 1) _ f (by omega) (by omega) (by simp [a3]) a4' a5']
    simp [polL]

/-! ### The pairs -/
def RB (p m : Nat) (inp arr : V) (i n : Nat) (os mp : V) (k : Nat) : List V := [.any, i64 p, i64 m, .any, inp, .any, arr, i64 i, os, .any, mp, .any, .any, i64 n, i64 i, .any, .any, .any, .any, i64 m, i64 k, .any]
def z34 : List C := [.d (.int .u8 0), .d (.int .u32 0), .d (.int .u32 0), .d (.int .u32 0), .d (.int .u32 0), .d (.int .u32 0), .d (.int .u32 0), .d (.int .u32 0), .d (.int .u32 0), .d (.int .u32 0), .d (.int .u32 0), .d (.int .u32 0), .d (.int .u32 0), .d (.int .u32 0), .d (.int .u32 0), .d (.int .u32 0), .d (.int .u32 0), .d (.int .u8 0), .d (.int .u32 0), .d (.int .u32 0), .d (.int .u32 0), .d (.int .u32 0), .d (.int .u32 0), .d (.int .u32 0), .d (.int .u32 0), .d (.int .u32 0), .d (.int .u32 0), .d (.int .u32 0), .d (.int .u32 0), .d (.int .u32 0), .d (.int .u32 0), .d (.int .u32 0), .d (.int .u32 0), .d (.int .u32 0)]
def os34 (b m : Nat) : V := .c (.os b 0 0 m 34 (some m))
def mapE (i p m j : Nat) : List C := polE (i + 1 : Nat) (p + j + 1 : Nat) ++ polE (i + 1 : Nat) (p + m + j + 1 : Nat)
def arrB (pre : List (List C)) (c : Nat) : List (List C) := pre ++ List.replicate c z34
theorem arrB_len {pre : List (List C)} {c : Nat} (h : ∀ e ∈ pre, e.length = 34) : ∀ e ∈ arrB pre c, e.length = 34 := fun e he => by
  rcases List.mem_append.1 he with h' | h'
  · exact h e h'
  · rw [List.eq_of_mem_replicate h']; rfl
theorem roundB {E : Env} (hv : ∀ i k, E.vcall 28 [.c (.d (.int .i64 i)), .c (.d (.int .i64 k))] = some (.agg (polE i k))) {N p m n i k c : Nat} {inp arr os : V} {A : Ob} {H : Heap} {pre : List (List C)} (hes : ∀ e ∈ pre, e.length = 34) (hk : pre.length = k) (hkm : k + (c + 1) = m) (hp : p < 1000) (hm : m < 1000) (hi : i < 1000) :
    exec E N false fn17L0 ⟨RB p m inp arr i n os (os34 (H.length + 1) m) k, H ++ [A, .cells (arrB pre (c + 1)).flatten 0 false]⟩ = some (.nrm, ⟨put (put (RB p m inp arr i n os (os34 (H.length + 1) m) (k + 1)) 11 (i64 k)) 21 (bl true),
      H ++ [A, .cells (arrB (pre ++ [mapE i p m k]) c).flatten 0 false]⟩) := by
  have hlt' : k < m := by omega
  have hlt : (k : Int) < (m : Int) := by omega
  have e1 : IntKind.i64.wrap ((i : Int) + 1) = ((i + 1 : Nat) : Int) := wrap_succ (by omega)
  have e2 : IntKind.i64.wrap ((k : Int) + 1) = ((k + 1 : Nat) : Int) := wrap_succ (by omega)
  have e3 : IntKind.i64.wrap ((p : Int) + (k : Int)) = ((p + k : Nat) : Int) := i64_id (by simp) (by omega)
  have e4 : IntKind.i64.wrap (((p + k : Nat) : Int) + 1) = ((p + k + 1 : Nat) : Int) := wrap_succ (by omega)
  have e5 : IntKind.i64.wrap ((p : Int) + (m : Int)) = ((p + m : Nat) : Int) := i64_id (by simp) (by omega)
  have e6 : IntKind.i64.wrap (((p + m : Nat) : Int) + (k : Int)) = ((p + m + k : Nat) : Int) := i64_id (by simp) (by omega)
  have e7 : IntKind.i64.wrap (((p + m + k : Nat) : Int) + 1) = ((p + m + k + 1 : Nat) : Int) := wrap_succ (by omega)
  have hz : (arrB pre (c + 1))[k]? = some z34 := by
    unfold arrB
    rw [List.getElem?_append_right (by omega)]
    simp [hk]
  have hl34 : (polE (i + 1 : Nat) (p + k + 1 : Nat) ++ polE (i + 1 : Nat) (p + m + k + 1 : Nat)).length = 34 := rfl
  have hst := flat_st (polE (i + 1 : Nat) (p + k + 1 : Nat) ++ polE (i + 1 : Nat) (p + m + k + 1 : Nat)) (arrB_len hes) hz (by rw [hl34]; omega)
  have hset : (arrB pre (c + 1)).set k ((polE (i + 1 : Nat) (p + k + 1 : Nat) ++ polE (i + 1 : Nat) (p + m + k + 1 : Nat)) ++ z34.drop (polE (i + 1 : Nat) (p + k + 1 : Nat) ++ polE (i + 1 : Nat) (p + m + k + 1 : Nat)).length) = arrB (pre ++ [mapE i p m k]) c := by
    unfold arrB
    rw [List.set_append_right _ _ (by omega), hl34, hk]
    simp [List.replicate_succ, mapE, z34]
  rw [hset] at hst
  have hbnd : k * 34 + 34 ≤ (arrB pre (c + 1)).flatten.length := flat_mem (arrB_len hes) hz
  simp only [fn17L0, RB, os34, hlt, hlt', e1, e2, e3, e4, e5, e6, e7, byValue, mapO, deepV1, deepC, hv, V.flat, V.flat1, polE_flat, List.map_cons, List.map_nil, lay34 (polE_len _ _) (polE_len _ _), at1, se1, hl34, hst, hbnd, List.append_assoc, List.cons_append, List.nil_append, exec, runOps, wants, Mini.step, stepP, stepE, O.eff, Mini.look, nth, put, exports, bin, binInt, i64, bl, asNat_nat, ob_eq, setOb_eq, V.cells, Option.map_some, if_true, if_false, decide_true, List.all_nil, cond_true, Nat.zero_add, and_self, Bool.false_eq_true]
theorem endB {E : Env} {N p m n i : Nat} {inp arr os mp : V} {H : Heap} : exec E N false fn17L0 ⟨RB p m inp arr i n os mp m, H⟩ = some (.exit 4, ⟨put (RB p m inp arr i n os mp m) 21 (bl false), H⟩) := by
  simp only [fn17L0, RB, Int.lt_irrefl, exec, runOps, wants, Mini.step, stepP, stepE, O.eff, Mini.look, nth, put, exports, bin, binInt, i64, bl, Option.map_some, if_true, if_false, decide_false, List.append_nil, List.all_nil, cond_false, Bool.false_eq_true]
def mapL (i p m : Nat) : Nat → Nat → List (List C)
  | _, 0 => []
  | k, c + 1 => mapE i p m k :: mapL i p m (k + 1) c
theorem mapL_len (i p m : Nat) : ∀ k c, (mapL i p m k c).length = c
  | _, 0 => rfl
  | k, c + 1 => by rw [mapL, List.length_cons, mapL_len i p m (k + 1) c]
theorem mapL_34 (i p m : Nat) : ∀ k c, ∀ e ∈ mapL i p m k c, e.length = 34
  | _, 0, _, h => by cases h
  | k, c + 1, e, h => by
    rcases List.mem_cons.1 h with rfl | h
    · rfl
    · exact mapL_34 i p m (k + 1) c e h
theorem mapL_d (i p m : Nat) : ∀ k c, ∀ e ∈ mapL i p m k c, e.all C.isD = true
  | _, 0, _, h => by cases h
  | k, c + 1, e, h => by
    rcases List.mem_cons.1 h with rfl | h
    · rfl
    · exact mapL_d i p m (k + 1) c e h
theorem loopB {E : Env} (hv : ∀ i k, E.vcall 28 [.c (.d (.int .i64 i)), .c (.d (.int .i64 k))] = some (.agg (polE i k))) {N p m n i : Nat} {inp arr os : V} {A : Ob} {H : Heap} (hp : p < 1000) (hm : m < 1000) (hi : i < 1000) :
    ∀ (c k : Nat) (pre : List (List C)) (fuel : Nat), k + c = m → c < fuel → pre.length = k → (∀ e ∈ pre, e.length = 34) →
    iter (some [1, 2, 4, 6, 7, 8, 10, 13, 14, 19, 20]) (H.length + 2) (exec E N false fn17L0) fuel ⟨RB p m inp arr i n os (os34 (H.length + 1) m) k, H ++ [A, .cells (arrB pre c).flatten 0 false]⟩
      = some (.exit 4, ⟨put (RB p m inp arr i n os (os34 (H.length + 1) m) m) 21 (bl false), H ++ [A, .cells (pre ++ mapL i p m k c).flatten 0 false]⟩) := by
  intro c
  induction c with
  | zero =>
    intro k pre fuel a1 a2 a3 a4
    obtain ⟨f, rfl⟩ : ∃ f, fuel = f + 1 := ⟨fuel - 1, by omega⟩
    obtain rfl : k = m := by omega
    rw [iter_stop endB, mapL, List.append_nil, arrB, List.replicate_zero, List.append_nil]
  | succ c ih =>
    intro k pre fuel a1 a2 a3 a4
    obtain ⟨f, rfl⟩ : ∃ f, fuel = f + 1 := ⟨fuel - 1, by omega⟩
    have hr := roundB hv (N := N) (p := p) (m := m) (n := n) (i := i) (inp := inp) (arr := arr) (os := os) (A := A) (H := H) a4 a3 a1 hp hm hi
    have a4' : ∀ e ∈ pre ++ [mapE i p m k], e.length = 34 := fun e he => by
      rcases List.mem_append.1 he with h | h
      · exact a4 e h
      · rw [List.mem_singleton.1 h]; rfl
    have ht : tidy (H.length + 2) (some [1, 2, 4, 6, 7, 8, 10, 13, 14, 19, 20]) ⟨put (put (RB p m inp arr i n os (os34 (H.length + 1) m) (k + 1)) 11 (i64 k)) 21 (bl true), H ++ [A, .cells (arrB (pre ++ [mapE i p m k]) c).flatten 0 false]⟩
        = ⟨RB p m inp arr i n os (os34 (H.length + 1) m) (k + 1), H ++ [A, .cells (arrB (pre ++ [mapE i p m k]) c).flatten 0 false]⟩ :=
      (show _ = gc (H.length + 2) ⟨RB p m inp arr i n os (os34 (H.length + 1) m) (k + 1), H ++ [A, .cells (arrB (pre ++ [mapE i p m k]) c).flatten 0 false]⟩ from rfl).trans (gc_le (by simp))
    rw [iter_step hr, ht, ih (k + 1) _ f (by omega) (by omega) (by simp [a3]) a4']
    simp [mapL]
/-! ### A round of the outer loop -/
def anyE : List C := [.d (.int .u8 5), u32 2, u32 5, u32 29, u32 32] ++ List.replicate 12 (u32 0)
def RC (p m : Nat) (inp arr : V) (i n : Nat) : List V := [.any, i64 p, i64 m, .any, inp, .any, arr, .any, .any, .any, .any, .any, .any, i64 n, i64 i, .any, .any, .any, .any, .any, .any, .any]
def os8 (a n : Nat) : C := .os a 0 0 n 8 (some n)
def polA (i p : Nat) : List (List C) := polL i 0 p ++ [anyE]
def recL (b p m : Nat) : List C := recC true (decide ((m : Int) > 0)) (.os (b + 5) 0 0 (p + 1) 18 (some (p + 1))) (.os (b + 1) 0 0 m 34 (some m))
theorem recL_eq (b p m : Nat) : recC true (decide ((m : Int) > 0)) (.os (b + 5) 0 0 (p + 1) 18 (some (p + 1))) (.os (b + 1) 0 0 m 34 (some m)) = recL b p m := rfl
/-- What a round lays. -/
def newL (b i p m : Nat) : Heap := [.cells (polA i p).flatten (p + 1) false, .cells (mapL i p m 0 m).flatten 0 false, .cells anyE 0 false, .cells (recL b p m) 0 false, .cells (recL b p m) 0 false, .cells ((polA i p).map polC).flatten 0 false]
theorem polA_17 (i p : Nat) : ∀ e ∈ polA i p, e.length = 17 := fun e he => by
  rcases List.mem_append.1 he with h | h
  · exact polL_17 i 0 p e h
  · rw [List.mem_singleton.1 h]; rfl
theorem polA_d (i p : Nat) : ∀ e ∈ polA i p, e.all C.isD = true := fun e he => by
  rcases List.mem_append.1 he with h | h
  · exact polL_d i 0 p e h
  · rw [List.mem_singleton.1 h]; rfl
theorem round17 {X : Ctx} (hX : X.fns 29 = some fn29) {N : Nat} (hN : 1000 ≤ N) (hv : ∀ i k, (zenv X (N + 1)).vcall 28 [.c (.d (.int .i64 i)), .c (.d (.int .i64 k))] = some (.agg (polE i k))) (h38 : (zenv X (N + 1)).vcall 38 [] = some (.agg anyE))
    {M p m n i ai : Nat} {inp : C} {H : Heap} {rs : List (List C)} (hM : 1000 ≤ M) (hp : p < 900) (hm : m < 900) (hin : i < n) (hn : n < 900) (hH : Hp H.length H) (h1 : uC H.length inp = true) (hai : H[ai]? = some (.cells rs.flatten 0 false)) (hrs : ∀ e ∈ rs, e.length = 8) (hrn : rs.length = n) :
    ∃ r, exec (zenv X (N + 1)) M false fn17L2 ⟨RC p m (.c inp) (.c (os8 ai n)) i n, H⟩ = some (.nrm, ⟨r, H.set ai (.cells (rs.set i (recL H.length p m)).flatten 0 false) ++ newL H.length i p m⟩) ∧ keepOnly [1, 2, 4, 6, 13, 14] 0 r = RC p m (.c inp) (.c (os8 ai n)) (i + 1) n := by
  have hlen : ai < H.length := (List.getElem?_eq_some_iff.1 hai).1
  have h2 : uC H.length (os8 ai n) = true := decide_eq_true hlen
  have hA := loopA hv (N := M) (p := p) (m := m) (n := n) (i := i) (inp := inp) (arr := os8 ai n) (H := H) (by omega) (by omega) hH h1 h2 p 0 [] M (by omega) (by omega) rfl (fun e he => by cases he) (fun e he => by cases he)
  have hB := loopB hv (N := M) (p := p) (m := m) (n := n) (i := i) (inp := .c inp) (arr := .c (os8 ai n)) (os := os17 H.length p p) (A := .cells (polL i 0 p).flatten p false) (H := H) (by omega) (by omega) (by omega) m 0 [] M (by omega) (by omega) rfl (fun e he => by cases he)
  have tA : ∀ a b c d e f g j k, tidy (H.length + 1) (some [1, 2, 4, 6, 7, 8, 13, 14, 16, 17]) ⟨[a, i64 p, i64 m, b, .c inp, c, .c (os8 ai n), i64 i, os17 H.length 0 0, d, e, f, g, i64 n, i64 i, j, i64 p, i64 (0 : Nat), k, .any, .any, .any], H ++ [.cells [] 0 false]⟩ = ⟨RA p m (.c inp) (.c (os8 ai n)) i n (os17 H.length 0 0) 0, H ++ [.cells [] 0 false]⟩ := fun a b c d e f g j k =>
    (show _ = gc (H.length + 1) ⟨RA p m (.c inp) (.c (os8 ai n)) i n (os17 H.length 0 0) 0, H ++ [.cells [] 0 false]⟩ from rfl).trans (gc_le (by simp))
  have tB : ∀ B b c d e f g j k l o, tidy (H.length + 2) (some [1, 2, 4, 6, 7, 8, 10, 13, 14, 19, 20]) ⟨[b, i64 p, i64 m, c, .c inp, d, .c (os8 ai n), i64 i, os17 H.length p p, e, os34 (H.length + 1) m, f, g, i64 n, i64 i, j, k, l, o, i64 m, i64 (0 : Nat), .any], H ++ [.cells (polL i 0 p).flatten p false, B]⟩ = ⟨RB p m (.c inp) (.c (os8 ai n)) i n (os17 H.length p p) (os34 (H.length + 1) m) 0, H ++ [.cells (polL i 0 p).flatten p false, B]⟩ := fun B b c d e f g j k l o =>
    (show _ = gc (H.length + 2) ⟨RB p m (.c inp) (.c (os8 ai n)) i n (os17 H.length p p) (os34 (H.length + 1) m) 0, H ++ [.cells (polL i 0 p).flatten p false, B]⟩ from rfl).trans (gc_le (by simp))
  have hK : Hp (H.length + 3) (H ++ [.cells (polA i p).flatten (p + 1) false, .cells (mapL i p m 0 m).flatten 0 false, .cells anyE 0 false]) :=
    (hH.mono (by omega)).app (Hp.cons (flat_u fun e he => uC_all_d (polA_d i p e he)) (Hp.cons (flat_u fun e he => uC_all_d (mapL_d i p m 0 m e he)) (Hp.cons rfl Hp.nil)))
  have hC := fn29_ok hX (N := N) (pid := H.length) (g := p + 1) (len := p + 1) (mid := H.length + 1) (gm := 0) (om := 0) (mm := m) (cap := none) (capm := some m) (H := H ++ [.cells (polA i p).flatten (p + 1) false, .cells (mapL i p m 0 m).flatten 0 false, .cells anyE 0 false]) (fz := false) hN at0 (polA_17 i p) (polA_d i p) (by simp [polA, polL_len]) (by omega) (by simpa using hK) (by simp)
  have hlt : (i : Int) < (n : Int) := by exact_mod_cast hin
  have e1 : IntKind.i64.wrap ((i : Int) + 1) = ((i + 1 : Nat) : Int) := wrap_succ (by omega)
  have e2 : m * 136 ≤ 1099511627776 := by omega
  have e3 : m ≤ 1099511627776 := by omega
  have e4 : p + 1 ≤ 1073741824 := by omega
  have hl : (polL i 0 p).flatten.length = p * 17 := by rw [flat_len _ (polL_17 i 0 p), polL_len]
  have hl' : (polL i 0 p).flatten.take (p * 17) = (polL i 0 p).flatten := by rw [← hl, List.take_length]
  have hap : (polL i 0 p).flatten ++ anyE = (polA i p).flatten := by simp [polA]
  have hset : ∀ t o, (H ++ t).set ai o = H.set ai o ++ t := fun t o => List.set_append_left _ _ hlen
  have hat : ∀ t, (H ++ t)[ai]? = some (Ob.cells rs.flatten 0 false) := fun t => atL hai
  have hin' : i < rs.length := by omega
  have hst := flat_st (recL H.length p m) hrs (List.getElem?_eq_getElem hin') (Nat.le_refl 8)
  have hst : splice rs.flatten (i * 8) (recL H.length p m) = (rs.set i (recL H.length p m)).flatten := by
    rw [hst, show (rs[i]).drop (recL H.length p m).length = [] from List.drop_eq_nil_of_le (by rw [hrs _ (List.getElem_mem hin')]; exact Nat.le_refl 8), List.append_nil]
  have hbnd : i * 8 + 8 ≤ rs.flatten.length := flat_mem hrs (List.getElem?_eq_getElem hin')
  have h17 : anyE.length = 17 := rfl
  have hfl : anyE.all C.flat = true := rfl
  have htk : anyE.take 17 = anyE := rfl
  have h8 : (recL H.length p m).length = 8 := rfl
  refine ⟨[.any, i64 p, i64 m, .any, .c inp, .any, .c (os8 ai n), i64 i, os17 H.length p p, .any, os34 (H.length + 1) m, .any, .any, i64 n, i64 (i + 1 : Nat), .any, .any, .any, .any, i64 m, i64 m, bl false], ?_, rfl⟩
  rw [show (H ++ [Ob.cells (polA i p).flatten (p + 1) false, .cells (mapL i p m 0 m).flatten 0 false, .cells anyE 0 false]).length + 2 = H.length + 5 by simp] at hC
  simp only [RA, RB, os17, os34, os8, i64, bl, put, z34, arrB, List.flatten_nil, List.nil_append, Int.ofNat_zero] at hA hB tA tB
  simp only [recL_eq] at hC
  simp only [fn17L2, RC, os8, os17, os34, hlt, e1, e2, e3, e4, freshen, tA, hA, tB, hB, rep_flat, byValue, mapO, h38, V.flat, V.flat1, hfl, h17, htk, rep, lay17 h17, elems, at0, at2, se0, hl, hl', hap, zenv_call, hC, hset, hat, hst, hbnd, hin, h8, newL, List.map_cons, List.map_nil, List.append_assoc, List.cons_append, List.nil_append, List.length_append, List.drop_zero, Nat.le_refl, exec, runOps, wants, Mini.step, stepP, stepE, O.eff, Mini.look, nth, put, exports, bin, binInt, i64, bl, asNat_nat, ob_eq, setOb_eq, V.cells, List.length_cons, List.length_nil, Option.map_some, if_true, if_false, decide_true, List.append_nil, List.all_nil, cond_true, Nat.zero_add, Nat.one_mul, and_self, reduceCtorEq, Bool.false_eq_true, Nat.reduceAdd, and_true]
end Mini
end Go.Proofs.YtcilepbdddgpoaaDoor
