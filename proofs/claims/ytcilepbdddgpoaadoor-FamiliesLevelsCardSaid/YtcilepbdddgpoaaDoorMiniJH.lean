/-
  Searches, the order of OIDs, tables of calls, levels as values.
-/
import Derived.Test.YtcilepbdddgpoaaDoorMiniJA
import Derived.Test.YtcilepbdddgpoaaDoorMiniT2
import Derived.Test.YtcilepbdddgpoaaDoorMiniN3
namespace Go.Proofs.YtcilepbdddgpoaaDoor
namespace Mini
open Go

def blkc (x : Option (Ex × St)) (id : Nat) : Option (Ex × St) :=
  match x with
  | some (.exit id', s') => if id' = id then some (.nrm, s') else some (.exit id', s')
  | r => r
theorem ex_block (E : Env) (N : Nat) (rd : Bool) (id : Nat) (b : I) (s : St) : exec E N rd (.block id b) s = blkc (exec E N rd b s) id := rfl
theorem bk_nrm (s : St) (id : Nat) : blkc (some (.nrm, s)) id = some (.nrm, s) := rfl
theorem bk_ret (s : St) (id : Nat) : blkc (some (.ret, s)) id = some (.ret, s) := rfl
theorem bk_exit (s : St) (id id' : Nat) : blkc (some (.exit id', s)) id = if id' = id then some (.nrm, s) else some (.exit id', s) := rfl
/-- Where an OID first stands at the head of an element; none if the cells are not so. -/
def sea (o : List C) (sz : Nat) : Nat → List D → Nat → Option (Option Nat)
  | _, _, 0 => some none
  | i, cs, n + 1 =>
    if (cs.take 17).length = 17 then
      match eqInts ((cs.take 17).map C.d) o with
      | some true => some (some i)
      | some false => sea o sz (i + 1) (cs.drop sz) n
      | none => none
    else none
theorem sea_head {o : List C} {sz i n : Nat} {cs : List D} {r : Option Nat} (h : sea o sz i cs (n + 1) = some r) : (cs.take 17).length = 17 ∧ ∃ b, eqInts ((cs.take 17).map C.d) o = some b ∧ (b = true → r = some i) ∧ (b = false → sea o sz (i + 1) (cs.drop sz) n = some r) := by
  simp only [sea] at h
  split at h
  · rename_i h1
    refine ⟨h1, ?_⟩
    split at h
    · rename_i h2; cases h; exact ⟨true, h2, (fun _ => rfl), (fun h => nomatch h)⟩
    · rename_i h2; exact ⟨false, h2, (fun h => nomatch h), (fun _ => h)⟩
    · cases h
  · cases h
def RH (l : V) (i : Nat) : List V := [l, .any, .c (.ptr 0 0 0), .any, i64 i, .any, .any]
/-- The rounds of Has. -/
theorem loop66 {E : Env} {N L : Nat} {all : List D} {o : List C} (ho : o.length = 17) (hL : L < 100000) : ∀ (n i fuel : Nat) (r : Option Nat), i + n = L → n < fuel → sea o 17 i (all.drop (i * 17)) n = some r →
    ∃ e s, iter (some [0, 2, 4]) 1 (exec E N false fn66L0) fuel ⟨RH (.c (.d (.sl all L))) i, [.cells o 0 false]⟩ = some (e, s) ∧ ((r = none ∧ e = .exit 0 ∧ ∃ x, s = ⟨put (RH (.c (.d (.sl all L))) L) 5 x, [.cells o 0 false]⟩) ∨ (r.isSome = true ∧ e = .ret ∧ ∃ a b c d f g, s = ⟨[a, b, c, bl true, d, f, g], [.cells o 0 false]⟩)) := by
  intro n
  induction n with
  | zero =>
    intro i fuel r h1 h2 h3
    obtain ⟨f, rfl⟩ : ∃ f, fuel = f + 1 := ⟨fuel - 1, by omega⟩
    obtain rfl : i = L := by omega
    cases h3
    refine ⟨_, _, iter_stop ?_, Or.inl ⟨rfl, rfl, bl false, rfl⟩⟩
    simp only [fn66L0, RH, Int.lt_irrefl, cont_some, ro_nil, ro_none, ex_seq, sq_nrm, sq_exit, ex_reg, rg_some, ex_cond, cd_f, ex_exit, Mini.step, stepP, stepE, O.eff, Mini.look, nth, put, exports, bin, binInt, i64, bl, Option.map_some, if_true, if_false, decide_false, List.append_nil, Int.ofNat_eq_natCast, Bool.false_eq_true]
  | succ n ih =>
    intro i fuel r h1 h2 h3
    obtain ⟨f, rfl⟩ : ∃ f, fuel = f + 1 := ⟨fuel - 1, by omega⟩
    obtain ⟨hl, b, hb, ht, hf⟩ := sea_head h3
    have hlt : i < L := by omega
    have hlt' : (i : Int) < (L : Int) := by omega
    have hpos : i * 17 < all.length := by
      rw [List.length_take, List.length_drop] at hl
      omega
    have hl' : ((all.drop (i * 17)).take 17 |>.map C.d).length = 17 := by rw [List.length_map]; exact hl
    have hot : o.take 17 = o := by rw [← ho, List.take_length]
    have e7 : IntKind.i64.wrap ((i : Int) + 1) = ((i + 1 : Nat) : Int) := wrap_succ (by omega)
    cases b with
    | true =>
      obtain rfl := ht rfl
      refine ⟨.ret, ⟨[.c (.d (.sl all L)), .any, .c (.ptr 0 0 0), bl true, i64 i, bl true, bl true], [.cells o 0 false]⟩, ?_, Or.inr ⟨rfl, rfl, _, _, _, _, _, _, rfl⟩⟩
      have : exec E N false fn66L0 ⟨RH (.c (.d (.sl all L))) i, [.cells o 0 false]⟩ = some (.ret, ⟨[.c (.d (.sl all L)), .any, .c (.ptr 0 0 0), bl true, i64 i, bl true, bl true], [.cells o 0 false]⟩) := by
        simp only [fn66L0, RH, ex_block, bk_ret, hlt', hlt, hpos, hl', hot, ho, hb, ob?, List.drop_zero, Bool.false_xor, cont_some, ro_nil, ro_none, ex_seq, sq_nrm, sq_ret, ex_reg, rg_some, ex_cond, cd_t, ex_skip, ex_ret, Mini.step, stepP, stepE, O.eff, Mini.look, nth, put, exports, bin, binInt, i64, bl, asNat_nat, ofCells, Option.map_some, if_true, if_false, decide_true, List.append_nil, and_self, Int.ofNat_eq_natCast, Bool.false_eq_true]
      simp only [iter, this]
    | false =>
      have hr : exec E N false fn66L0 ⟨RH (.c (.d (.sl all L))) i, [.cells o 0 false]⟩ = some (.nrm, ⟨put (put (RH (.c (.d (.sl all L))) (i + 1)) 5 (bl true)) 6 (bl false), [.cells o 0 false]⟩) := by
        simp only [fn66L0, RH, ex_block, bk_nrm, hlt', hlt, hpos, hl', hot, ho, hb, ob?, e7, List.drop_zero, Bool.false_xor, cont_some, ro_nil, ro_none, ex_seq, sq_nrm, ex_reg, rg_some, ex_cond, cd_t, cd_f, ex_skip, Mini.step, stepP, stepE, O.eff, Mini.look, nth, put, exports, bin, binInt, i64, bl, asNat_nat, ofCells, Option.map_some, if_true, if_false, decide_true, List.append_nil, and_self, Int.ofNat_eq_natCast, Bool.false_eq_true]
      rw [iter_step hr, show tidy 1 (some [0, 2, 4]) ⟨put (put (RH (.c (.d (.sl all L))) (i + 1)) 5 (bl true)) 6 (bl false), [.cells o 0 false]⟩ = ⟨RH (.c (.d (.sl all L))) (i + 1), [.cells o 0 false]⟩ from (show _ = gc 1 ⟨RH (.c (.d (.sl all L))) (i + 1), [.cells o 0 false]⟩ from rfl).trans (gc_le (Nat.le_refl _))]
      have h4 := hf rfl
      rw [List.drop_drop, show i * 17 + 17 = (i + 1) * 17 by omega] at h4
      exact ih (i + 1) f r (by omega) (by omega) h4
theorem fn66_ok {X : Ctx} (hX : X.fns 66 = some fn66) {N L : Nat} {all : List D} {o : List C} {r : Option Nat} (ho : o.length = 17) (hL : L < 100000) (hN : L < N) (h : sea o 17 0 all L = some r) : vcallN X (N + 1) 66 [.c (.d (.sl all L)), .agg o] = some (bl r.isSome) := by
  obtain ⟨e, s, hl, hc⟩ := loop66 (E := zenv X N) (N := N) ho hL L 0 N r (by omega) hN (by simpa using h)
  have t1 : tidy 1 (some [0, 2, 4]) ⟨[.c (.d (.sl all L)), .agg o, .c (.ptr 0 0 0), bl false, i64 0, .any, .any], [.cells o 0 false]⟩ = ⟨RH (.c (.d (.sl all L))) 0, [.cells o 0 false]⟩ :=
    (show _ = gc 1 ⟨RH (.c (.d (.sl all L))) 0, [.cells o 0 false]⟩ from rfl).trans (gc_le (Nat.le_refl _))
  have hlo : ∀ (s : St) (js : Option (List Nat)) (b : I) (E : Env) (M : Nat), exec E M false (.loop js b) s = iter js s.heap.length (exec E M false b) M (tidy s.heap.length js s) := fun _ _ _ _ _ => rfl
  rw [fn66_is] at hX
  refine vcall_of (r := bl r.isSome) (H := [.cells o 0 false]) ?_ rfl
  rw [callN_fn hX]
  refine (rf_fin _ _ _ _ _ _ _ _ _ (by rfl)).trans ?_
  simp only [RH, i64, bl, Int.ofNat_zero] at hl t1 hc
  rcases hc with ⟨rfl, rfl, x, rfl⟩ | ⟨hs, rfl, a, b, c, d, f, g, rfl⟩
  · simp only [pad, List.replicate, Nat.reduceSub, List.cons_append, List.nil_append, hlo, t1, hl, ex_block, bk_exit, Option.isSome_none, results, result, mapO, cont_some, ro_nil, ro_none, ex_seq, sq_nrm, ex_reg, rg_some, ex_ret, fin_ret, Mini.step, stepP, stepE, O.eff, Mini.look, nth, put, exports, bl, V.cells, List.length_cons, List.length_nil, Option.map_some, if_true, if_false, Nat.zero_add, Bool.false_eq_true, Nat.reduceAdd]
  · simp only [pad, List.replicate, Nat.reduceSub, List.cons_append, List.nil_append, hlo, t1, hl, ex_block, bk_ret, hs, results, result, mapO, cont_some, ro_nil, ro_none, ex_seq, sq_nrm, sq_ret, ex_reg, rg_some, fin_ret, Mini.step, stepP, stepE, O.eff, Mini.look, nth, put, exports, bl, V.cells, List.length_cons, List.length_nil, Option.map_some, if_false, Nat.zero_add, Bool.false_eq_true, Nat.reduceAdd]
theorem fn66_nil {X : Ctx} (hX : X.fns 66 = some fn66) {N : Nat} {o : List C} : vcallN X (N + 2) 66 [.c (.d .nils), .agg o] = some (bl false) := by
  have t1 : tidy 1 (some [0, 2, 4]) ⟨[.c (.d .nils), .agg o, .c (.ptr 0 0 0), bl false, i64 0, .any, .any], [.cells o 0 false]⟩ = ⟨RH (.c (.d .nils)) 0, [.cells o 0 false]⟩ :=
    (show _ = gc 1 ⟨RH (.c (.d .nils)) 0, [.cells o 0 false]⟩ from rfl).trans (gc_le (Nat.le_refl _))
  have hl : iter (some [0, 2, 4]) 1 (exec (zenv X (N + 1)) (N + 1) false fn66L0) (N + 1) ⟨RH (.c (.d .nils)) 0, [.cells o 0 false]⟩ = some (.exit 0, ⟨put (RH (.c (.d .nils)) 0) 5 (bl false), [.cells o 0 false]⟩) := by
    refine iter_stop ?_
    simp only [fn66L0, RH, Int.ofNat_zero, Int.lt_irrefl, cont_some, ro_nil, ro_none, ex_seq, sq_nrm, sq_exit, ex_reg, rg_some, ex_cond, cd_f, ex_exit, Mini.step, stepP, stepE, O.eff, Mini.look, nth, put, exports, bin, binInt, i64, bl, Option.map_some, if_true, if_false, decide_false, List.append_nil, Bool.false_eq_true]
  have hlo : ∀ (s : St) (js : Option (List Nat)) (b : I) (E : Env) (M : Nat), exec E M false (.loop js b) s = iter js s.heap.length (exec E M false b) M (tidy s.heap.length js s) := fun _ _ _ _ _ => rfl
  rw [fn66_is] at hX
  refine vcall_of (r := bl false) (H := [.cells o 0 false]) ?_ rfl
  rw [callN_fn hX]
  refine (rf_fin _ _ _ _ _ _ _ _ _ (by rfl)).trans ?_
  simp only [RH, i64, bl, put, Int.ofNat_zero] at hl t1
  simp only [pad, List.replicate, Nat.reduceSub, List.cons_append, List.nil_append, hlo, t1, hl, ex_block, bk_exit, results, result, mapO, cont_some, ro_nil, ro_none, ex_seq, sq_nrm, ex_reg, rg_some, ex_ret, fin_ret, Mini.step, stepP, stepE, O.eff, Mini.look, nth, put, exports, bl, V.cells, List.length_cons, List.length_nil, Option.map_some, if_true, if_false, Nat.zero_add, Bool.false_eq_true, Nat.reduceAdd]
def idxI : Option Nat → Int
  | some k => k
  | none => -1
def RF (l : V) (i : Nat) : List V := [l, .any, .c (.ptr 0 0 0), .any, i64 i, .any, .any]
/-- The rounds of Find. -/
theorem loop56 {E : Env} {N L : Nat} {all : List D} {o : List C} (ho : o.length = 17) (hL : L < 100000) : ∀ (n i fuel : Nat) (r : Option Nat), i + n = L → n < fuel → sea o 20 i (all.drop (i * 20)) n = some r →
    ∃ e s, iter (some [0, 2, 4]) 1 (exec E N false fn56L0) fuel ⟨RF (.c (.d (.sl all L))) i, [.cells o 0 false]⟩ = some (e, s) ∧ ((r = none ∧ e = .exit 0 ∧ ∃ x, s = ⟨put (RF (.c (.d (.sl all L))) L) 5 x, [.cells o 0 false]⟩) ∨ (∃ k : Nat, r = some k ∧ e = .ret ∧ ∃ a b c d f g, s = ⟨[a, b, c, i64 k, d, f, g], [.cells o 0 false]⟩)) := by
  intro n
  induction n with
  | zero =>
    intro i fuel r h1 h2 h3
    obtain ⟨f, rfl⟩ : ∃ f, fuel = f + 1 := ⟨fuel - 1, by omega⟩
    obtain rfl : i = L := by omega
    cases h3
    refine ⟨_, _, iter_stop ?_, Or.inl ⟨rfl, rfl, bl false, rfl⟩⟩
    simp only [fn56L0, RF, Int.lt_irrefl, cont_some, ro_nil, ro_none, ex_seq, sq_nrm, sq_exit, ex_reg, rg_some, ex_cond, cd_f, ex_exit, Mini.step, stepP, stepE, O.eff, Mini.look, nth, put, exports, bin, binInt, i64, bl, Option.map_some, if_true, if_false, decide_false, List.append_nil, Int.ofNat_eq_natCast, Bool.false_eq_true]
  | succ n ih =>
    intro i fuel r h1 h2 h3
    obtain ⟨f, rfl⟩ : ∃ f, fuel = f + 1 := ⟨fuel - 1, by omega⟩
    obtain ⟨hl, b, hb, ht, hf⟩ := sea_head h3
    have hlt : i < L := by omega
    have hlt' : (i : Int) < (L : Int) := by omega
    have hpos : i * 20 < all.length := by
      rw [List.length_take, List.length_drop] at hl
      omega
    have hpos0 : 0 < (all.drop (i * 20)).length := by rw [List.length_drop]; omega
    have hl' : ((all.drop (i * 20)).take 17 |>.map C.d).length = 17 := by rw [List.length_map]; exact hl
    have hot : o.take 17 = o := by rw [← ho, List.take_length]
    have e7 : IntKind.i64.wrap ((i : Int) + 1) = ((i + 1 : Nat) : Int) := wrap_succ (by omega)
    cases b with
    | true =>
      obtain rfl := ht rfl
      refine ⟨.ret, ⟨[.c (.d (.sl all L)), .any, .c (.ptr 0 0 0), i64 i, i64 i, bl true, bl true], [.cells o 0 false]⟩, ?_, Or.inr ⟨i, rfl, rfl, _, _, _, _, _, _, rfl⟩⟩
      have : exec E N false fn56L0 ⟨RF (.c (.d (.sl all L))) i, [.cells o 0 false]⟩ = some (.ret, ⟨[.c (.d (.sl all L)), .any, .c (.ptr 0 0 0), i64 i, i64 i, bl true, bl true], [.cells o 0 false]⟩) := by
        simp only [fn56L0, RF, ex_block, bk_ret, hlt', hlt, hpos, hpos0, hl', hot, ho, hb, ob?, List.drop_zero, Bool.false_xor, cont_some, ro_nil, ro_none, ex_seq, sq_nrm, sq_ret, ex_reg, rg_some, ex_cond, cd_t, ex_skip, ex_ret, Mini.step, stepP, stepE, O.eff, Mini.look, nth, put, exports, bin, binInt, i64, bl, asNat_nat, ofCells, Option.map_some, if_true, if_false, decide_true, List.append_nil, and_self, Int.ofNat_eq_natCast, Bool.false_eq_true]
      simp only [iter, this]
    | false =>
      have hr : exec E N false fn56L0 ⟨RF (.c (.d (.sl all L))) i, [.cells o 0 false]⟩ = some (.nrm, ⟨put (put (RF (.c (.d (.sl all L))) (i + 1)) 5 (bl true)) 6 (bl false), [.cells o 0 false]⟩) := by
        simp only [fn56L0, RF, ex_block, bk_nrm, hlt', hlt, hpos, hpos0, hl', hot, ho, hb, ob?, e7, List.drop_zero, Bool.false_xor, cont_some, ro_nil, ro_none, ex_seq, sq_nrm, ex_reg, rg_some, ex_cond, cd_t, cd_f, ex_skip, Mini.step, stepP, stepE, O.eff, Mini.look, nth, put, exports, bin, binInt, i64, bl, asNat_nat, ofCells, Option.map_some, if_true, if_false, decide_true, List.append_nil, and_self, Int.ofNat_eq_natCast, Bool.false_eq_true]
      rw [iter_step hr, show tidy 1 (some [0, 2, 4]) ⟨put (put (RF (.c (.d (.sl all L))) (i + 1)) 5 (bl true)) 6 (bl false), [.cells o 0 false]⟩ = ⟨RF (.c (.d (.sl all L))) (i + 1), [.cells o 0 false]⟩ from (show _ = gc 1 ⟨RF (.c (.d (.sl all L))) (i + 1), [.cells o 0 false]⟩ from rfl).trans (gc_le (Nat.le_refl _))]
      have h4 := hf rfl
      rw [List.drop_drop, show i * 20 + 20 = (i + 1) * 20 by omega] at h4
      exact ih (i + 1) f r (by omega) (by omega) h4
theorem fn56_ok {X : Ctx} (hX : X.fns 56 = some fn56) {N L : Nat} {all : List D} {o : List C} {r : Option Nat} (ho : o.length = 17) (hL : L < 100000) (hN : L < N) (h : sea o 20 0 all L = some r) : vcallN X (N + 1) 56 [.c (.d (.sl all L)), .agg o] = some (i64 (idxI r)) := by
  obtain ⟨e, s, hl, hc⟩ := loop56 (E := zenv X N) (N := N) ho hL L 0 N r (by omega) hN (by simpa using h)
  have t1 : tidy 1 (some [0, 2, 4]) ⟨[.c (.d (.sl all L)), .agg o, .c (.ptr 0 0 0), i64 0, i64 0, .any, .any], [.cells o 0 false]⟩ = ⟨RF (.c (.d (.sl all L))) 0, [.cells o 0 false]⟩ :=
    (show _ = gc 1 ⟨RF (.c (.d (.sl all L))) 0, [.cells o 0 false]⟩ from rfl).trans (gc_le (Nat.le_refl _))
  have hlo : ∀ (s : St) (js : Option (List Nat)) (b : I) (E : Env) (M : Nat), exec E M false (.loop js b) s = iter js s.heap.length (exec E M false b) M (tidy s.heap.length js s) := fun _ _ _ _ _ => rfl
  rw [fn56_is] at hX
  refine vcall_of (r := i64 (idxI r)) (H := [.cells o 0 false]) ?_ rfl
  rw [callN_fn hX]
  refine (rf_fin _ _ _ _ _ _ _ _ _ (by rfl)).trans ?_
  simp only [RF, i64, Int.ofNat_zero] at hl t1 hc
  rcases hc with ⟨rfl, rfl, x, rfl⟩ | ⟨k, rfl, rfl, a, b, c, d, f, g, rfl⟩
  · simp only [pad, List.replicate, Nat.reduceSub, List.cons_append, List.nil_append, hlo, t1, hl, ex_block, bk_exit, idxI, results, result, mapO, cont_some, ro_nil, ro_none, ex_seq, sq_nrm, ex_reg, rg_some, ex_ret, fin_ret, Mini.step, stepP, stepE, O.eff, Mini.look, nth, put, exports, i64, V.cells, List.length_cons, List.length_nil, Option.map_some, if_true, if_false, Nat.zero_add, Bool.false_eq_true, Nat.reduceAdd]
  · simp only [pad, List.replicate, Nat.reduceSub, List.cons_append, List.nil_append, hlo, t1, hl, ex_block, bk_ret, idxI, results, result, mapO, cont_some, ro_nil, ro_none, ex_seq, sq_nrm, sq_ret, ex_reg, rg_some, fin_ret, Mini.step, stepP, stepE, O.eff, Mini.look, nth, put, exports, i64, V.cells, List.length_cons, List.length_nil, Option.map_some, if_false, Nat.zero_add, Bool.false_eq_true, Nat.reduceAdd]
theorem fn56_nil {X : Ctx} (hX : X.fns 56 = some fn56) {N : Nat} {o : List C} : vcallN X (N + 2) 56 [.c (.d .nils), .agg o] = some (i64 (-1)) := by
  have t1 : tidy 1 (some [0, 2, 4]) ⟨[.c (.d .nils), .agg o, .c (.ptr 0 0 0), i64 0, i64 0, .any, .any], [.cells o 0 false]⟩ = ⟨RF (.c (.d .nils)) 0, [.cells o 0 false]⟩ :=
    (show _ = gc 1 ⟨RF (.c (.d .nils)) 0, [.cells o 0 false]⟩ from rfl).trans (gc_le (Nat.le_refl _))
  have hl : iter (some [0, 2, 4]) 1 (exec (zenv X (N + 1)) (N + 1) false fn56L0) (N + 1) ⟨RF (.c (.d .nils)) 0, [.cells o 0 false]⟩ = some (.exit 0, ⟨put (RF (.c (.d .nils)) 0) 5 (bl false), [.cells o 0 false]⟩) := by
    refine iter_stop ?_
    simp only [fn56L0, RF, Int.ofNat_zero, Int.lt_irrefl, cont_some, ro_nil, ro_none, ex_seq, sq_nrm, sq_exit, ex_reg, rg_some, ex_cond, cd_f, ex_exit, Mini.step, stepP, stepE, O.eff, Mini.look, nth, put, exports, bin, binInt, i64, bl, Option.map_some, if_true, if_false, decide_false, List.append_nil, Bool.false_eq_true]
  have hlo : ∀ (s : St) (js : Option (List Nat)) (b : I) (E : Env) (M : Nat), exec E M false (.loop js b) s = iter js s.heap.length (exec E M false b) M (tidy s.heap.length js s) := fun _ _ _ _ _ => rfl
  rw [fn56_is] at hX
  refine vcall_of (r := i64 (-1)) (H := [.cells o 0 false]) ?_ rfl
  rw [callN_fn hX]
  refine (rf_fin _ _ _ _ _ _ _ _ _ (by rfl)).trans ?_
  simp only [RF, i64, bl, put, Int.ofNat_zero] at hl t1
  simp only [pad, List.replicate, Nat.reduceSub, List.cons_append, List.nil_append, hlo, t1, hl, ex_block, bk_exit, results, result, mapO, cont_some, ro_nil, ro_none, ex_seq, sq_nrm, ex_reg, rg_some, ex_ret, fin_ret, Mini.step, stepP, stepE, O.eff, Mini.look, nth, put, exports, i64, V.cells, List.length_cons, List.length_nil, Option.map_some, if_true, if_false, Nat.zero_add, Bool.false_eq_true, Nat.reduceAdd]
def RL58 (i : Nat) : List V := [.any, .any, .c (.ptr 0 0 0), .c (.ptr 1 0 0), .any, i64 i, .any, .any]
/-- The rounds of Listed. -/
theorem loop58 {E : Env} {N L : Nat} {all : List D} {o x : List C} (hx : (x.drop 2).take 1 = [.d (.sl all L)]) (ho : o.length = 17) (hL : L < 100000) : ∀ (n i fuel : Nat) (r : Option Nat), i + n = L → n < fuel → sea o 18 i (all.drop (i * 18)) n = some r →
    ∃ e s, iter (some [2, 3, 5]) 2 (exec E N false fn58L0) fuel ⟨RL58 i, [.cells x 0 false, .cells o 0 false]⟩ = some (e, s) ∧ ((r = none ∧ e = .exit 0 ∧ ∃ y, s = ⟨put (RL58 L) 6 y, [.cells x 0 false, .cells o 0 false]⟩) ∨ (∃ k : Nat, r = some k ∧ e = .ret ∧ ∃ a b c d f g h, s = ⟨[a, b, c, d, i64 k, f, g, h], [.cells x 0 false, .cells o 0 false]⟩)) := by
  intro n
  induction n with
  | zero =>
    intro i fuel r h1 h2 h3
    obtain ⟨f, rfl⟩ : ∃ f, fuel = f + 1 := ⟨fuel - 1, by omega⟩
    obtain rfl : i = L := by omega
    cases h3
    refine ⟨_, _, iter_stop ?_, Or.inl ⟨rfl, rfl, bl false, rfl⟩⟩
    simp only [fn58L0, RL58, hx, ob?, Int.lt_irrefl, cont_some, ro_nil, ro_none, ex_seq, sq_nrm, sq_exit, ex_reg, rg_some, ex_cond, cd_f, ex_exit, Mini.step, stepP, stepE, O.eff, Mini.look, nth, put, exports, bin, binInt, i64, bl, ofCells, List.length_cons, List.length_nil, Option.map_some, if_true, if_false, decide_false, List.append_nil, Nat.zero_add, Int.ofNat_eq_natCast, Bool.false_eq_true]
  | succ n ih =>
    intro i fuel r h1 h2 h3
    obtain ⟨f, rfl⟩ : ∃ f, fuel = f + 1 := ⟨fuel - 1, by omega⟩
    obtain ⟨hl, b, hb, ht, hf⟩ := sea_head h3
    have hlt : i < L := by omega
    have hlt' : (i : Int) < (L : Int) := by omega
    have hpos : i * 18 < all.length := by
      rw [List.length_take, List.length_drop] at hl
      omega
    have hpos0 : 0 < (all.drop (i * 18)).length := by rw [List.length_drop]; omega
    have hl' : ((all.drop (i * 18)).take 17 |>.map C.d).length = 17 := by rw [List.length_map]; exact hl
    have hot : o.take 17 = o := by rw [← ho, List.take_length]
    have e7 : IntKind.i64.wrap ((i : Int) + 1) = ((i + 1 : Nat) : Int) := wrap_succ (by omega)
    cases b with
    | true =>
      obtain rfl := ht rfl
      refine ⟨.ret, ⟨[.any, .any, .c (.ptr 0 0 0), .c (.ptr 1 0 0), i64 i, i64 i, bl true, bl true], [.cells x 0 false, .cells o 0 false]⟩, ?_, Or.inr ⟨i, rfl, rfl, _, _, _, _, _, _, _, rfl⟩⟩
      have : exec E N false fn58L0 ⟨RL58 i, [.cells x 0 false, .cells o 0 false]⟩ = some (.ret, ⟨[.any, .any, .c (.ptr 0 0 0), .c (.ptr 1 0 0), i64 i, i64 i, bl true, bl true], [.cells x 0 false, .cells o 0 false]⟩) := by
        simp only [fn58L0, RL58, hx, ex_block, bk_ret, hlt', hlt, hpos, hpos0, hl', hot, ho, hb, ob?, List.drop_zero, Bool.false_xor, cont_some, ro_nil, ro_none, ex_seq, sq_nrm, sq_ret, ex_reg, rg_some, ex_cond, cd_t, ex_skip, ex_ret, Mini.step, stepP, stepE, O.eff, Mini.look, nth, put, exports, bin, binInt, i64, bl, asNat_nat, ofCells, List.length_cons, List.length_nil, Option.map_some, if_true, if_false, decide_true, List.append_nil, Nat.zero_add, and_self, Int.ofNat_eq_natCast, Bool.false_eq_true]
      simp only [iter, this]
    | false =>
      have hr : exec E N false fn58L0 ⟨RL58 i, [.cells x 0 false, .cells o 0 false]⟩ = some (.nrm, ⟨put (put (RL58 (i + 1)) 6 (bl true)) 7 (bl false), [.cells x 0 false, .cells o 0 false]⟩) := by
        simp only [fn58L0, RL58, hx, ex_block, bk_nrm, hlt', hlt, hpos, hpos0, hl', hot, ho, hb, ob?, e7, List.drop_zero, Bool.false_xor, cont_some, ro_nil, ro_none, ex_seq, sq_nrm, ex_reg, rg_some, ex_cond, cd_t, cd_f, ex_skip, Mini.step, stepP, stepE, O.eff, Mini.look, nth, put, exports, bin, binInt, i64, bl, asNat_nat, ofCells, List.length_cons, List.length_nil, Option.map_some, if_true, if_false, decide_true, List.append_nil, Nat.zero_add, and_self, Int.ofNat_eq_natCast, Bool.false_eq_true]
      rw [iter_step hr, show tidy 2 (some [2, 3, 5]) ⟨put (put (RL58 (i + 1)) 6 (bl true)) 7 (bl false), [.cells x 0 false, .cells o 0 false]⟩ = ⟨RL58 (i + 1), [.cells x 0 false, .cells o 0 false]⟩ from (show _ = gc 2 ⟨RL58 (i + 1), [.cells x 0 false, .cells o 0 false]⟩ from rfl).trans (gc_le (Nat.le_refl _))]
      have h4 := hf rfl
      rw [List.drop_drop, show i * 18 + 18 = (i + 1) * 18 by omega] at h4
      exact ih (i + 1) f r (by omega) (by omega) h4
theorem fn58_ok {X : Ctx} (hX : X.fns 58 = some fn58) {N L : Nat} {all : List D} {o x : List C} {r : Option Nat} (hx : (x.drop 2).take 1 = [.d (.sl all L)]) (ho : o.length = 17) (hL : L < 100000) (hN : L < N) (h : sea o 18 0 all L = some r) : vcallN X (N + 1) 58 [.agg x, .agg o] = some (i64 (idxI r)) := by
  obtain ⟨e, s, hl, hc⟩ := loop58 (E := zenv X N) (N := N) hx ho hL L 0 N r (by omega) hN (by simpa using h)
  have t1 : tidy 2 (some [2, 3, 5]) ⟨[.agg x, .agg o, .c (.ptr 0 0 0), .c (.ptr 1 0 0), i64 0, i64 0, .any, .any], [.cells x 0 false, .cells o 0 false]⟩ = ⟨RL58 0, [.cells x 0 false, .cells o 0 false]⟩ :=
    (show _ = gc 2 ⟨RL58 0, [.cells x 0 false, .cells o 0 false]⟩ from rfl).trans (gc_le (Nat.le_refl _))
  have hlo : ∀ (s : St) (js : Option (List Nat)) (b : I) (E : Env) (M : Nat), exec E M false (.loop js b) s = iter js s.heap.length (exec E M false b) M (tidy s.heap.length js s) := fun _ _ _ _ _ => rfl
  rw [fn58_is] at hX
  refine vcall_of (r := i64 (idxI r)) (H := [.cells x 0 false, .cells o 0 false]) ?_ rfl
  rw [callN_fn hX]
  refine (rf_fin _ _ _ _ _ _ _ _ _ (by rfl)).trans ?_
  simp only [RL58, i64, Int.ofNat_zero] at hl t1 hc
  rcases hc with ⟨rfl, rfl, y, rfl⟩ | ⟨k, rfl, rfl, a, b, c, d, f, g, h, rfl⟩
  · simp only [pad, List.replicate, Nat.reduceSub, List.cons_append, List.nil_append, hlo, t1, hl, ex_block, bk_exit, idxI, results, result, mapO, cont_some, ro_nil, ro_none, ex_seq, sq_nrm, ex_reg, rg_some, ex_ret, fin_ret, Mini.step, stepP, stepE, O.eff, Mini.look, nth, put, exports, i64, V.cells, List.length_cons, List.length_nil, Option.map_some, if_true, if_false, Nat.zero_add, Bool.false_eq_true, Nat.reduceAdd]
  · simp only [pad, List.replicate, Nat.reduceSub, List.cons_append, List.nil_append, hlo, t1, hl, ex_block, bk_ret, idxI, results, result, mapO, cont_some, ro_nil, ro_none, ex_seq, sq_nrm, sq_ret, ex_reg, rg_some, fin_ret, Mini.step, stepP, stepE, O.eff, Mini.look, nth, put, exports, i64, V.cells, List.length_cons, List.length_nil, Option.map_some, if_false, Nat.zero_add, Bool.false_eq_true, Nat.reduceAdd]
end Mini
end Go.Proofs.YtcilepbdddgpoaaDoor
namespace Go.Proofs.YtcilepbdddgpoaaDoor
namespace Mini
open Go

theorem iter_ret {js : Option (List Nat)} {hl : Nat} {body : St → Option (Ex × St)} {n : Nat} {s s' : St} (h : body s = some (.ret, s')) : iter js hl body (n + 1) s = some (.ret, s') := by simp only [iter, h]
def tailP (p q : Int) : Int := if p < q then -1 else if p > q then 1 else 0
/-- The order of two OIDs, from place i on; none if the cells are not so. -/
def cmpP (p q : Int) : Nat → List C → List C → Nat → Option Int
  | _, _, _, 0 => some (tailP p q)
  | i, .d (.int .u32 x) :: us, .d (.int .u32 y) :: ws, n + 1 =>
    if (i : Int) ≥ IntKind.i64.wrap p ∨ (i : Int) ≥ IntKind.i64.wrap q then some (tailP p q)
    else if x < y then some (-1) else if x > y then some 1 else cmpP p q (i + 1) us ws n
  | _, _, _, _ => none
def RK (i : Nat) : List V := [.any, .any, .c (.ptr 0 0 0), .c (.ptr 1 0 0), .any, i64 i, .any, .any, .any, .any, .any, .any]
theorem loop67 {E : Env} {N : Nat} {A B : List C} {p q : Int} : ∀ (n i fuel : Nat) (us ws : List C) (r : Int), i + n = 16 → n < fuel → A.drop (i + 1) = us → B.drop (i + 1) = ws → cmpP p q i us ws n = some r →
    ∃ e s, iter (some [2, 3, 5]) 2 (exec E N false fn67L0) fuel ⟨RK i, [.cells (.d (.int .u8 p) :: A.tail) 0 false, .cells (.d (.int .u8 q) :: B.tail) 0 false]⟩ = some (e, s) ∧
      ((e = .exit 0 ∧ r = tailP p q ∧ ∃ a b c d f, s = ⟨[.any, .any, .c (.ptr 0 0 0), .c (.ptr 1 0 0), .any, a, b, c, d, f, .any, .any], [.cells (.d (.int .u8 p) :: A.tail) 0 false, .cells (.d (.int .u8 q) :: B.tail) 0 false]⟩) ∨
       (e = .ret ∧ ∃ a b c d f, s = ⟨[.any, .any, .c (.ptr 0 0 0), .c (.ptr 1 0 0), i64 r, a, b, c, d, f, .any, .any], [.cells (.d (.int .u8 p) :: A.tail) 0 false, .cells (.d (.int .u8 q) :: B.tail) 0 false]⟩)) := by
  intro n
  induction n with
  | zero =>
    intro i fuel us ws r h1 h2 h3 h4 h5
    obtain ⟨f, rfl⟩ : ∃ f, fuel = f + 1 := ⟨fuel - 1, by omega⟩
    obtain rfl : i = 16 := by omega
    cases h5
    refine ⟨_, _, iter_stop (b := 0) (s' := ⟨put (RK 16) 6 (bl false), _⟩) ?_, Or.inl ⟨rfl, rfl, _, _, _, _, _, rfl⟩⟩
    have e : ¬ ((16 : Nat) : Int) < 16 := by omega
    simp only [fn67L0, RK, e, cont_some, ro_nil, ro_none, ex_seq, sq_nrm, sq_exit, ex_reg, rg_some, ex_cond, cd_f, ex_exit, Mini.step, stepP, stepE, O.eff, Mini.look, nth, put, exports, bin, binInt, i64, bl, Option.map_some, if_true, if_false, decide_false, List.append_nil, Bool.false_eq_true]
  | succ n ih =>
    intro i fuel us ws r h1 h2 h3 h4 h5
    obtain ⟨f, rfl⟩ : ∃ f, fuel = f + 1 := ⟨fuel - 1, by omega⟩
    match us, ws, h3, h4, h5 with
    | .d (.int .u32 x) :: us, .d (.int .u32 y) :: ws, h3, h4, h5 =>
      simp only [cmpP] at h5
      have hi : i < 16 := by omega
      have hlt : (i : Int) < 16 := by omega
      have ha : (A.tail.drop i).take 1 = [.d (.int .u32 x)] := by
        rw [List.drop_tail, h3]; rfl
      have hb : (B.tail.drop i).take 1 = [.d (.int .u32 y)] := by
        rw [List.drop_tail, h4]; rfl
      have h1i : ∀ k : Nat, 1 + k = k + 1 := fun k => Nat.add_comm 1 k
      have e7 : IntKind.i64.wrap ((i : Int) + 1) = ((i + 1 : Nat) : Int) := wrap_succ (by omega)
      by_cases hp : (i : Int) ≥ IntKind.i64.wrap p
      · rw [if_pos (Or.inl hp)] at h5
        cases h5
        have hr : exec E N false fn67L0 ⟨RK i, [.cells (.d (.int .u8 p) :: A.tail) 0 false, .cells (.d (.int .u8 q) :: B.tail) 0 false]⟩ = some (.exit 0, ⟨put (put (RK i) 6 (bl true)) 7 (bl true), [.cells (.d (.int .u8 p) :: A.tail) 0 false, .cells (.d (.int .u8 q) :: B.tail) 0 false]⟩) := by
          simp only [fn67L0, RK, hlt, hp, ob?, ex_block, bk_exit, List.drop_zero, List.take_succ_cons, List.take_zero, cont_some, ro_nil, ro_none, ro_some, gc_tf, ex_seq, sq_nrm, sq_exit, ex_reg, rg_some, ex_cond, cd_t, ex_skip, ex_exit, Mini.step, stepP, stepE, O.eff, Mini.look, nth, put, exports, bin, binInt, i64, bl, ofCells, List.length_cons, List.length_nil, Option.map_some, if_true, if_false, decide_true, List.append_nil, Nat.zero_add, Nat.add_zero, reduceCtorEq, Bool.false_eq_true]
        exact ⟨_, _, iter_stop hr, Or.inl ⟨rfl, rfl, _, _, _, _, _, rfl⟩⟩
      · by_cases hq : (i : Int) ≥ IntKind.i64.wrap q
        · rw [if_pos (Or.inr hq)] at h5
          cases h5
          have hr : exec E N false fn67L0 ⟨RK i, [.cells (.d (.int .u8 p) :: A.tail) 0 false, .cells (.d (.int .u8 q) :: B.tail) 0 false]⟩ = some (.exit 0, ⟨put (put (RK i) 6 (bl true)) 7 (bl true), [.cells (.d (.int .u8 p) :: A.tail) 0 false, .cells (.d (.int .u8 q) :: B.tail) 0 false]⟩) := by
            simp only [fn67L0, RK, hlt, hp, hq, ob?, ex_block, bk_exit, List.drop_zero, List.take_succ_cons, List.take_zero, cont_some, ro_nil, ro_none, ro_some, gc_ff, ex_seq, sq_nrm, sq_exit, ex_reg, rg_some, ex_cond, cd_t, ex_skip, ex_exit, Mini.step, stepP, stepE, O.eff, Mini.look, nth, put, exports, bin, binInt, i64, bl, ofCells, List.length_cons, List.length_nil, Option.map_some, if_true, if_false, decide_true, decide_false, List.append_nil, Nat.zero_add, Nat.add_zero, reduceCtorEq, Bool.false_eq_true]
          exact ⟨_, _, iter_stop hr, Or.inl ⟨rfl, rfl, _, _, _, _, _, rfl⟩⟩
        · rw [if_neg (fun h => h.elim hp hq)] at h5
          by_cases hx : x < y
          · rw [if_pos hx] at h5
            cases h5
            have hr : exec E N false fn67L0 ⟨RK i, [.cells (.d (.int .u8 p) :: A.tail) 0 false, .cells (.d (.int .u8 q) :: B.tail) 0 false]⟩ = some (.ret, ⟨[.any, .any, .c (.ptr 0 0 0), .c (.ptr 1 0 0), i64 (-1), i64 i, bl true, bl false, bl true, .any, .any, .any], [.cells (.d (.int .u8 p) :: A.tail) 0 false, .cells (.d (.int .u8 q) :: B.tail) 0 false]⟩) := by
              simp only [fn67L0, RK, hlt, hi, hp, hq, hx, ha, hb, h1i, ob?, ex_block, bk_ret, List.drop_zero, List.drop_succ_cons, List.take_succ_cons, List.take_zero, cont_some, ro_nil, ro_none, ro_some, gc_ff, ex_seq, sq_nrm, sq_ret, ex_reg, rg_some, ex_cond, cd_t, cd_f, ex_skip, ex_ret, Mini.step, stepP, stepE, O.eff, Mini.look, nth, put, exports, bin, binInt, i64, bl, asNat_nat, ofCells, List.length_cons, List.length_nil, Option.map_some, if_true, if_false, decide_true, decide_false, List.append_nil, Nat.zero_add, Nat.add_zero, Nat.mul_one, Bool.false_eq_true]
            exact ⟨_, _, iter_ret hr, Or.inr ⟨rfl, _, _, _, _, _, rfl⟩⟩
          · rw [if_neg hx] at h5
            by_cases hy : x > y
            · rw [if_pos hy] at h5
              cases h5
              have hr : exec E N false fn67L0 ⟨RK i, [.cells (.d (.int .u8 p) :: A.tail) 0 false, .cells (.d (.int .u8 q) :: B.tail) 0 false]⟩ = some (.ret, ⟨[.any, .any, .c (.ptr 0 0 0), .c (.ptr 1 0 0), i64 1, i64 i, bl true, bl false, bl false, bl true, .any, .any], [.cells (.d (.int .u8 p) :: A.tail) 0 false, .cells (.d (.int .u8 q) :: B.tail) 0 false]⟩) := by
                simp only [fn67L0, RK, hlt, hi, hp, hq, hx, hy, ha, hb, h1i, ob?, ex_block, bk_ret, List.drop_zero, List.drop_succ_cons, List.take_succ_cons, List.take_zero, cont_some, ro_nil, ro_none, ro_some, gc_ff, ex_seq, sq_nrm, sq_ret, ex_reg, rg_some, ex_cond, cd_t, cd_f, ex_skip, ex_ret, Mini.step, stepP, stepE, O.eff, Mini.look, nth, put, exports, bin, binInt, i64, bl, asNat_nat, ofCells, List.length_cons, List.length_nil, Option.map_some, if_true, if_false, decide_true, decide_false, List.append_nil, Nat.zero_add, Nat.add_zero, Nat.mul_one, Bool.false_eq_true]
              exact ⟨_, _, iter_ret hr, Or.inr ⟨rfl, _, _, _, _, _, rfl⟩⟩
            · rw [if_neg hy] at h5
              have hr : exec E N false fn67L0 ⟨RK i, [.cells (.d (.int .u8 p) :: A.tail) 0 false, .cells (.d (.int .u8 q) :: B.tail) 0 false]⟩ = some (.nrm, ⟨[.any, .any, .c (.ptr 0 0 0), .c (.ptr 1 0 0), .any, i64 (i + 1 : Nat), bl true, bl false, bl false, bl false, .any, .any], [.cells (.d (.int .u8 p) :: A.tail) 0 false, .cells (.d (.int .u8 q) :: B.tail) 0 false]⟩) := by
                simp only [fn67L0, RK, hlt, hi, hp, hq, hx, hy, ha, hb, e7, h1i, ob?, ex_block, bk_nrm, List.drop_zero, List.drop_succ_cons, List.take_succ_cons, List.take_zero, cont_some, ro_nil, ro_none, ro_some, gc_ff, ex_seq, sq_nrm, ex_reg, rg_some, ex_cond, cd_t, cd_f, ex_skip, Mini.step, stepP, stepE, O.eff, Mini.look, nth, put, exports, bin, binInt, i64, bl, asNat_nat, ofCells, List.length_cons, List.length_nil, Option.map_some, if_true, if_false, decide_true, decide_false, List.append_nil, Nat.zero_add, Nat.add_zero, Nat.mul_one, Bool.false_eq_true]
              have ht : tidy 2 (some [2, 3, 5]) ⟨[.any, .any, .c (.ptr 0 0 0), .c (.ptr 1 0 0), .any, i64 (i + 1 : Nat), bl true, bl false, bl false, bl false, .any, .any], [.cells (.d (.int .u8 p) :: A.tail) 0 false, .cells (.d (.int .u8 q) :: B.tail) 0 false]⟩ = ⟨RK (i + 1), [.cells (.d (.int .u8 p) :: A.tail) 0 false, .cells (.d (.int .u8 q) :: B.tail) 0 false]⟩ :=
                (show _ = gc 2 ⟨RK (i + 1), _⟩ from rfl).trans (gc_le (Nat.le_refl _))
              rw [iter_step hr, ht]
              have h3' : A.drop (i + 1 + 1) = us := by rw [← List.drop_drop, h3]; rfl
              have h4' : B.drop (i + 1 + 1) = ws := by rw [← List.drop_drop, h4]; rfl
              exact ih (i + 1) f us ws r (by omega) (by omega) h3' h4' h5
theorem fn67_ok {X : Ctx} (hX : X.fns 67 = some fn67) {N : Nat} {p q r : Int} {us ws : List C} (hN : 16 < N) (h : cmpP p q 0 us ws 16 = some r) : vcallN X (N + 1) 67 [.agg (.d (.int .u8 p) :: us), .agg (.d (.int .u8 q) :: ws)] = some (i64 r) := by
  obtain ⟨e, s, hl, hc⟩ := loop67 (E := zenv X N) (N := N) (A := .d (.int .u8 p) :: us) (B := .d (.int .u8 q) :: ws) (p := p) (q := q) 16 0 N us ws r (by omega) hN rfl rfl h
  have t1 : ∀ a b c, tidy 2 (some [2, 3, 5]) ⟨[a, b, .c (.ptr 0 0 0), .c (.ptr 1 0 0), c, i64 0, .any, .any, .any, .any, .any, .any], [.cells (.d (.int .u8 p) :: us) 0 false, .cells (.d (.int .u8 q) :: ws) 0 false]⟩ = ⟨RK 0, [.cells (.d (.int .u8 p) :: us) 0 false, .cells (.d (.int .u8 q) :: ws) 0 false]⟩ := fun a b c =>
    (show _ = gc 2 ⟨RK 0, _⟩ from rfl).trans (gc_le (Nat.le_refl _))
  have hlo : ∀ (s : St) (js : Option (List Nat)) (b : I) (E : Env) (M : Nat), exec E M false (.loop js b) s = iter js s.heap.length (exec E M false b) M (tidy s.heap.length js s) := fun _ _ _ _ _ => rfl
  rw [fn67_is] at hX
  refine vcall_of (r := i64 r) (H := [.cells (.d (.int .u8 p) :: us) 0 false, .cells (.d (.int .u8 q) :: ws) 0 false]) ?_ rfl
  rw [callN_fn hX]
  refine (rf_fin _ _ _ _ _ _ _ _ _ (by rfl)).trans ?_
  simp only [RK, i64, Int.ofNat_zero, List.tail_cons] at hl t1 hc
  rcases hc with ⟨rfl, hr, a, b, c, d, f, rfl⟩ | ⟨rfl, a, b, c, d, f, rfl⟩
  · subst hr
    unfold tailP
    by_cases h1 : p < q
    · rw [if_pos h1]
      simp only [pad, List.replicate, Nat.reduceSub, List.cons_append, List.nil_append, hlo, t1, hl, ex_block, bk_exit, h1, ob?, List.drop_zero, List.take_succ_cons, List.take_zero, results, result, mapO, cont_some, ro_nil, ro_none, ex_seq, sq_nrm, sq_ret, ex_reg, rg_some, ex_cond, cd_t, ex_ret, fin_ret, Mini.step, stepP, stepE, O.eff, Mini.look, nth, put, exports, bin, binInt, i64, ofCells, V.cells, List.length_cons, List.length_nil, Option.map_some, if_true, if_false, decide_true, Nat.zero_add, Nat.add_zero, Bool.false_eq_true, Nat.reduceAdd]
    · rw [if_neg h1]
      by_cases h2 : p > q
      · rw [if_pos h2]
        simp only [pad, List.replicate, Nat.reduceSub, List.cons_append, List.nil_append, hlo, t1, hl, ex_block, bk_exit, h1, h2, ob?, List.drop_zero, List.take_succ_cons, List.take_zero, results, result, mapO, cont_some, ro_nil, ro_none, ex_seq, sq_nrm, sq_ret, ex_reg, rg_some, ex_cond, cd_t, cd_f, ex_skip, ex_ret, fin_ret, Mini.step, stepP, stepE, O.eff, Mini.look, nth, put, exports, bin, binInt, i64, ofCells, V.cells, List.length_cons, List.length_nil, Option.map_some, if_true, if_false, decide_true, decide_false, Nat.zero_add, Nat.add_zero, Bool.false_eq_true, Nat.reduceAdd]
      · rw [if_neg h2]
        simp only [pad, List.replicate, Nat.reduceSub, List.cons_append, List.nil_append, hlo, t1, hl, ex_block, bk_exit, h1, h2, ob?, List.drop_zero, List.take_succ_cons, List.take_zero, results, result, mapO, cont_some, ro_nil, ro_none, ex_seq, sq_nrm, ex_reg, rg_some, ex_cond, cd_f, ex_skip, ex_ret, fin_ret, Mini.step, stepP, stepE, O.eff, Mini.look, nth, put, exports, bin, binInt, i64, ofCells, V.cells, List.length_cons, List.length_nil, Option.map_some, if_true, if_false, decide_false, Nat.zero_add, Nat.add_zero, Bool.false_eq_true, Nat.reduceAdd]
  · simp only [pad, List.replicate, Nat.reduceSub, List.cons_append, List.nil_append, hlo, t1, hl, ex_block, bk_ret, results, result, mapO, cont_some, ro_nil, ro_none, ex_seq, sq_nrm, sq_ret, ex_reg, rg_some, fin_ret, Mini.step, stepP, stepE, O.eff, Mini.look, nth, put, exports, i64, V.cells, List.length_cons, List.length_nil, Option.map_some, if_false, Nat.zero_add, Bool.false_eq_true, Nat.reduceAdd]
/-! ### The context with the order and the searches -/
def prim7 (f : FuncId) (vs : List V) : Option V :=
  match f, vs with
  | 66, [.c (.d (.sl all L)), .agg o] => if o.length = 17 ∧ L < 190 then (sea o 17 0 all L).map fun r => bl r.isSome else none
  | 66, [.c (.d .nils), .agg _] => some (bl false)
  | 56, [.c (.d (.sl all L)), .agg o] => if o.length = 17 ∧ L < 190 then (sea o 20 0 all L).map fun r => i64 (idxI r) else none
  | 56, [.c (.d .nils), .agg _] => some (i64 (-1))
  | 58, [.agg [_a, _b, .d (.sl all L), _c, _d, _e, _g, _h], .agg o] => if o.length = 17 ∧ L < 190 then (sea o 18 0 all L).map fun r => i64 (idxI r) else none
  | 67, [.agg (.d (.int .u8 p) :: us), .agg (.d (.int .u8 q) :: ws)] => (cmpP p q 0 us ws 16).map i64
  | f, vs => prim6 f vs
def X7 : Ctx := ⟨fns, prim7, fun _ _ _ => none, fun _ => none⟩
theorem X7_ok : CtxOk Tryd.prog X7 := by
  refine ⟨fns_ok, fun f vs r h => ?_⟩
  simp only [X7, prim7] at h
  split at h
  · split at h
    · rename_i hc
      obtain ⟨x, hx, rfl⟩ := Option.map_eq_some_iff.1 h
      exact ⟨en66.1, vcallN_ok X6_ok (fn66_ok (X := X6) rfl (N := 199) hc.1 (by omega) (by omega) hx)⟩
    · cases h
  · cases h; exact ⟨en66.1, vcallN_ok X6_ok (fn66_nil (X := X6) rfl (N := 198))⟩
  · split at h
    · rename_i hc
      obtain ⟨x, hx, rfl⟩ := Option.map_eq_some_iff.1 h
      exact ⟨en56.1, vcallN_ok X6_ok (fn56_ok (X := X6) rfl (N := 199) hc.1 (by omega) (by omega) hx)⟩
    · cases h
  · cases h; exact ⟨en56.1, vcallN_ok X6_ok (fn56_nil (X := X6) rfl (N := 198))⟩
  · split at h
    · rename_i hc
      obtain ⟨x, hx, rfl⟩ := Option.map_eq_some_iff.1 h
      exact ⟨en58.1, vcallN_ok X6_ok (fn58_ok (X := X6) rfl (N := 199) rfl hc.1 (by omega) (by omega) hx)⟩
    · cases h
  · obtain ⟨x, hx, rfl⟩ := Option.map_eq_some_iff.1 h
    exact ⟨en67.1, vcallN_ok X6_ok (fn67_ok (X := X6) rfl (N := 199) (by omega) hx)⟩
  · exact X6_ok.prim f vs r h
end Mini
end Go.Proofs.YtcilepbdddgpoaaDoor
namespace Go.Proofs.YtcilepbdddgpoaaDoor
namespace Mini
open Go

mutual
noncomputable def eqD : D → D → Bool
  | .bool a, .bool b => a == b
  | .int k a, .int k' b => ifB (kindF k k') (intEqF a b) false
  | .str a, .str b => a == b
  | .nilp, .nilp => true
  | .nils, .nils => true
  | .nilf, .nilf => true
  | .nili, .nili => true
  | .sl a n, .sl b m => ifB (Nat.beq n m) (eqDs a b) false
  | _, _ => false
noncomputable def eqDs : List D → List D → Bool
  | [], [] => true
  | a :: x, b :: y => ifB (eqD a b) (eqDs x y) false
  | _, _ => false
end
theorem ifB_true {a b : Bool} (h : ifB a b false = true) : a = true ∧ b = true := by
  cases a with
  | true => exact ⟨rfl, h⟩
  | false => cases h
mutual
theorem eqD_sound : ∀ {a b : D}, eqD a b = true → a = b
  | .bool a, .bool b, h => by simp only [eqD, beq_iff_eq] at h; rw [h]
  | .int k a, .int k' b, h => by
    simp only [eqD] at h
    obtain ⟨h1, h2⟩ := ifB_true h
    rw [kindF_eq] at h1
    rw [intEqF_eq, beq_iff_eq] at h2
    rw [of_decide_eq_true h1, h2]
  | .str a, .str b, h => by simp only [eqD, beq_iff_eq] at h; rw [h]
  | .nilp, .nilp, _ => rfl
  | .nils, .nils, _ => rfl
  | .nilf, .nilf, _ => rfl
  | .nili, .nili, _ => rfl
  | .sl a n, .sl b m, h => by
    simp only [eqD] at h
    obtain ⟨h1, h2⟩ := ifB_true h
    rw [Nat.eq_of_beq_eq_true h1, eqDs_sound h2]
theorem eqDs_sound : ∀ {a b : List D}, eqDs a b = true → a = b
  | [], [], _ => rfl
  | a :: x, b :: y, h => by
    simp only [eqDs] at h
    obtain ⟨h1, h2⟩ := ifB_true h
    rw [eqD_sound h1, eqDs_sound h2]
end
noncomputable def eqC : C → C → Bool
  | .d a, .d b => eqD a b
  | _, _ => false
theorem eqC_sound {a b : C} (h : eqC a b = true) : a = b := by
  cases a <;> cases b <;> first | (exact congrArg C.d (eqD_sound h)) | cases h
noncomputable def eqCs : List C → List C → Bool
  | [], [] => true
  | a :: x, b :: y => ifB (eqC a b) (eqCs x y) false
  | _, _ => false
theorem eqCs_sound : ∀ {a b : List C}, eqCs a b = true → a = b
  | [], [], _ => rfl
  | a :: x, b :: y, h => by
    simp only [eqCs] at h
    obtain ⟨h1, h2⟩ := ifB_true h
    rw [eqC_sound h1, eqCs_sound h2]
noncomputable def eqV : V → V → Bool
  | .c a, .c b => eqC a b
  | .agg a, .agg b => eqCs a b
  | _, _ => false
theorem eqV_sound {a b : V} (h : eqV a b = true) : a = b := by
  cases a <;> cases b <;> first | exact congrArg V.c (eqC_sound h) | exact congrArg V.agg (eqCs_sound h) | cases h
noncomputable def eqVs : List V → List V → Bool
  | [], [] => true
  | a :: x, b :: y => ifB (eqV a b) (eqVs x y) false
  | _, _ => false
theorem eqVs_sound : ∀ {a b : List V}, eqVs a b = true → a = b
  | [], [], _ => rfl
  | a :: x, b :: y, h => by
    simp only [eqVs] at h
    obtain ⟨h1, h2⟩ := ifB_true h
    rw [eqV_sound h1, eqVs_sound h2]
/-- A table of calls that were run. -/
abbrev Tab := List (Nat × List V × V)
noncomputable def find (f : FuncId) (vs : List V) : Tab → Option V
  | [] => none
  | (g, us, r) :: t => ifB (Nat.beq f g) (ifB (eqVs vs us) (some r) (find f vs t)) (find f vs t)
theorem find_sound {f : FuncId} {vs : List V} {r : V} : ∀ {t : Tab}, find f vs t = some r → (f, vs, r) ∈ t
  | (g, us, r') :: t, h => by
    simp only [find] at h
    cases hg : Nat.beq f g with
    | false =>
      rw [hg] at h
      exact List.mem_cons_of_mem _ (find_sound h)
    | true =>
      rw [hg] at h
      have h : ifB (eqVs vs us) (some r') (find f vs t) = some r := h
      cases hv : eqVs vs us with
      | false =>
        rw [hv] at h
        exact List.mem_cons_of_mem _ (find_sound h)
      | true =>
        rw [hv] at h
        cases h
        rw [Nat.eq_of_beq_eq_true hg, eqVs_sound hv]
        exact List.mem_cons_self
/-- The context with a table. -/
noncomputable def ctxT (X : Ctx) (t : Tab) : Ctx := ⟨X.fns, fun f vs => match find f vs t with
  | some r => some r
  | none => X.prim f vs, X.bprim, X.glob⟩
end Mini
end Go.Proofs.YtcilepbdddgpoaaDoor
namespace Go.Proofs.YtcilepbdddgpoaaDoor
namespace Mini
open Go
def aO : List D := anyE.map unD
def o (i k : Int) : List D := (polE i k).map unD
def nd (p : List D) (ps es : List (List D)) : List D := p ++ [.sl ps.flatten ps.length, .sl es.flatten es.length, .nils]
/-- The root has no parents. -/
def ndR (p : List D) (es : List (List D)) : List D := p ++ [.nils, .sl es.flatten es.length, .nils]
def lvl (l : List (List D)) : V := .c (.d (.sl l.flatten l.length))
def recV (p m i : Nat) : V := .agg ((recRL p m i).map .d)
end Mini
end Go.Proofs.YtcilepbdddgpoaaDoor
namespace Go.Proofs.YtcilepbdddgpoaaDoor
namespace Mini
open Go

def prim8 (f : FuncId) (vs : List V) : Option V :=
  match f, vs with
  | 20, [.c (.d (.int .i64 n)), .c (.d (.int .i64 p)), .c (.d (.int .i64 m))] => if inLw n p m = true then some (slV (recRL p.toNat m.toNat) n.toNat) else none
  | f, vs => prim7 f vs
def X8 : Ctx := ⟨fns, prim8, fun _ _ _ => none, fun _ => none⟩
theorem X8_ok : CtxOk Tryd.prog X8 := by
  refine ⟨fns_ok, fun f vs r h => ?_⟩
  simp only [X8, prim8] at h
  split at h
  · split at h
    · rename_i hc
      cases h
      obtain ⟨n, p, m, rfl, rfl, rfl, k1, k2, k3, k4⟩ := inLw_nat hc
      exact ⟨en20.1, vcallN_ok X7_ok (q20 n p m k2 k3 k4 X7 rfl (fun _ _ => rfl) rfl rfl)⟩
    · cases h
  · exact X7_ok.prim f vs r h
theorem ctxT_ok {t : Tab} (h : ∀ x ∈ t, (x.1 = 48 ∨ x.1 = 49) ∧ vcallN X7 200 x.1 x.2.1 = some x.2.2) : CtxOk Tryd.prog (ctxT X8 t) := by
  refine ⟨fns_ok, fun f vs r hr => ?_⟩
  simp only [ctxT] at hr
  cases hf : find f vs t with
  | none => rw [hf] at hr; exact X8_ok.prim f vs r hr
  | some r' =>
    rw [hf] at hr
    cases hr
    obtain ⟨h1, h2⟩ := h _ (find_sound hf)
    simp only at h1 h2
    rcases h1 with rfl | rfl
    · exact ⟨en48.1, vcallN_ok X7_ok h2⟩
    · exact ⟨en49.1, vcallN_ok X7_ok h2⟩
def rest5 : I := match fn5'.body with
  | .seq _ (.seq _ r) => r
  | i => i
/-- What is left of the law, with the three numbers in their registers. -/
noncomputable def run5 (t : Tab) (a b c : V) (n p m : Int) : Option (V × Heap) :=
  match forceL [a, b, c, .c (.d (.bool false)), .c (.d (.int .i64 n)), .c (.d (.int .i64 p)), .c (.d (.int .i64 m)), .any, .any, .any, .any, .any, .any, .any, .any, .any, .any, .any] fun regs => execF rest5 (envF (ctxT X8 t) (callF (ctxT X8 t) 199)) 199 false ⟨regs, []⟩ with
  | some (.exit _, _) => none
  | some (_, s) => (results s.regs s.heap [.r 3]).map fun v => (v, s.heap)
  | none => none
end Mini
end Go.Proofs.YtcilepbdddgpoaaDoor
