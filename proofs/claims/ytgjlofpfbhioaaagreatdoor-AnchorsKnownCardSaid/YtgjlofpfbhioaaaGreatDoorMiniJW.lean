/-
  OIDs, sets, names, anchors and inputs: walked.
-/
import Derived.Test.YtgjlofpfbhioaaaGreatDoorMiniJT
import Derived.KernelRfl
namespace Go.Proofs.YtgjlofpfbhioaaaGreatDoor
namespace Mini
open Go

def i64 (n : Int) : V := .c (.d (.int .i64 n))
def bl (b : Bool) : V := .c (.d (.bool b))
theorem an0 : asNat (.c (.d (.int .i64 0))) = some 0 := rfl
theorem an1 : asNat (.c (.d (.int .i64 1))) = some 1 := rfl
theorem an2 : asNat (.c (.d (.int .i64 2))) = some 2 := rfl
/-! ### Lengths and places, by the value -/
def lenc : V → Option (V × List Ob)
  | .c (.d .nils) => some (.c (.d (.int .i64 0)), [])
  | .c (.d (.sl _ n)) => some (.c (.d (.int .i64 (Int.ofNat n))), [])
  | .c (.os _ _ _ n _ _) => some (.c (.d (.int .i64 (Int.ofNat n))), [])
  | _ => none
def ixac (sz k : Nat) : V → Option (V × List Ob)
  | .c (.d (.sl cs len)) => if k < len ∧ k * sz < cs.length then some (.c (.d (.ip (cs.drop (k * sz)))), []) else none
  | .c (.os id gen off len sz' _) => if sz' = sz ∧ k < len then some (.c (.ptr id gen (off + k * sz)), []) else none
  | _ => none
theorem lenc_nil : lenc (.c (.d .nils)) = some (.c (.d (.int .i64 0)), []) := rfl
theorem lenc_sl (cs : List D) (n : Nat) : lenc (.c (.d (.sl cs n))) = some (.c (.d (.int .i64 (Int.ofNat n))), []) := rfl
theorem lenc_os (id gen off n sz : Nat) (cap : Option Nat) : lenc (.c (.os id gen off n sz cap)) = some (.c (.d (.int .i64 (Int.ofNat n))), []) := rfl
theorem ixac_sl (sz k : Nat) (cs : List D) (len : Nat) : ixac sz k (.c (.d (.sl cs len))) = if k < len ∧ k * sz < cs.length then some (.c (.d (.ip (cs.drop (k * sz)))), []) else none := rfl
theorem ixac_os (sz k id gen off len sz' : Nat) (cap : Option Nat) : ixac sz k (.c (.os id gen off len sz' cap)) = if sz' = sz ∧ k < len then some (.c (.ptr id gen (off + k * sz)), []) else none := rfl
def optC (x : Option Nat) (f : Nat → Option (V × List Ob)) : Option (V × List Ob) :=
  match x with
  | some k => f k
  | none => none
theorem optC_some (k : Nat) (f : Nat → Option (V × List Ob)) : optC (some k) f = f k := rfl
theorem sp_len (lk : A → V) (H : Heap) (a : A) : stepP lk H (.len a) = lenc (lk a) := by
  simp only [stepP]
  unfold lenc
  rfl
theorem sp_ixa (lk : A → V) (H : Heap) (sz : Nat) (a i : A) : stepP lk H (.ixa sz a i) = optC (asNat (lk i)) fun k => ixac sz k (lk a) := by
  simp only [stepP]
  unfold optC ixac
  rfl
/-! ### Blocks and loops -/
def blkc (x : Option (Ex × St)) (id : Nat) : Option (Ex × St) :=
  match x with
  | some (.exit id', s') => if id' = id then some (.nrm, s') else some (.exit id', s')
  | r => r
theorem ex_block (E : Env) (N : Nat) (rd : Bool) (id : Nat) (b : I) (s : St) : exec E N rd (.block id b) s = blkc (exec E N rd b s) id := rfl
theorem bk_nrm (s : St) (id : Nat) : blkc (some (.nrm, s)) id = some (.nrm, s) := rfl
theorem bk_ret (s : St) (id : Nat) : blkc (some (.ret, s)) id = some (.ret, s) := rfl
theorem bk_exit (s : St) (id id' : Nat) : blkc (some (.exit id', s)) id = if id' = id then some (.nrm, s) else some (.exit id', s) := rfl
theorem ex_loop (E : Env) (N : Nat) (rd : Bool) (js : Option (List Nat)) (b : I) (s : St) : exec E N rd (.loop js b) s = iter js s.heap.length (exec E N rd b) N (tidy s.heap.length js s) := rfl
theorem ex_loopk (E : Env) (N : Nat) (rd : Bool) (js : List Nat) (b : I) (regs : List V) (H : Heap) : exec E N rd (.loop (some js) b) ⟨regs, H⟩ = iter (some js) H.length (exec E N rd b) N ⟨keepOnly js 0 regs, H⟩ := by
  rw [ex_loop]
  show iter (some js) H.length (exec E N rd b) N (gc H.length ⟨keepOnly js 0 regs, H⟩) = _
  rw [gc_le (s := ⟨keepOnly js 0 regs, H⟩) (Nat.le_refl _)]
/-- Rounds up to the one that leaves. -/
theorem iter_to {js : Option (List Nat)} {hl : Nat} {body : St → Option (Ex × St)} (R : Nat → St) {e : Ex} {s : St} (he : e ≠ .nrm) : ∀ (k i fuel : Nat), (∀ j, i ≤ j → j < i + k → ∃ s', body (R j) = some (.nrm, s') ∧ tidy hl js s' = R (j + 1)) → body (R (i + k)) = some (e, s) → k < fuel → iter js hl body fuel (R i) = some (e, s)
  | 0, i, fuel + 1, _, h, _ => by
    simp only [Nat.add_zero] at h
    simp only [iter, h]
    cases e with
    | nrm => exact absurd rfl he
    | _ => rfl
  | k + 1, i, fuel + 1, hr, h, hk => by
    obtain ⟨s', h1, h2⟩ := hr i (Nat.le_refl _) (by omega)
    simp only [iter, h1, h2]
    exact iter_to R he k (i + 1) fuel (fun j h3 h4 => hr j (by omega) (by omega)) (by rw [show i + 1 + k = i + (k + 1) by omega]; exact h) (by omega)
/-- The first of a list with a property; or none has it. -/
theorem first_or {α : Type} (p : α → Prop) [DecidablePred p] : ∀ l : List α, (∀ x ∈ l, ¬ p x) ∨ ∃ (k : Nat) (x : α), l[k]? = some x ∧ p x ∧ ∀ (j : Nat) (y : α), j < k → l[j]? = some y → ¬ p y
  | [] => .inl (by simp)
  | x :: l => by
    by_cases h : p x
    · exact .inr ⟨0, x, rfl, h, fun j y hj => absurd hj (Nat.not_lt_zero j)⟩
    · rcases first_or p l with h2 | ⟨k, y, h1, h2, h3⟩
      · left
        intro z hz
        rcases List.mem_cons.1 hz with rfl | hz
        · exact h
        · exact h2 z hz
      · refine .inr ⟨k + 1, y, h1, h2, fun j z hj hz => ?_⟩
        cases j with
        | zero => simp only [List.getElem?_cons_zero, Option.some.injEq] at hz; rw [← hz]; exact h
        | succ j => exact h3 j z (by omega) hz

/-! ### OIDs -/
abbrev Oid := Nat × List Nat
def u32D (x : Nat) : D := .int .u32 (x : Int)
def oD (o : Oid) : List D := .int .u8 (o.1 : Int) :: o.2.map u32D
def oC (o : Oid) : List C := (oD o).map .d
def wfO (o : Oid) : Prop := o.1 < 256 ∧ o.2.length = 16 ∧ ∀ x ∈ o.2, x < 4294967296
theorem oD_len {o : Oid} (h : wfO o) : (oD o).length = 17 := by simp [oD, h.2.1]
theorem oC_len {o : Oid} (h : wfO o) : (oC o).length = 17 := by simp [oC, oD_len h]
/-- An arc's cell. -/
theorem oC_arc {o : Oid} {i x : Nat} (hx : o.2[i]? = some x) : (((oC o).drop (1 + i)).take 1) = [.d (u32D x)] := by
  have h : (oC o)[1 + i]? = some (.d (u32D x)) := by
    rw [Nat.add_comm]
    simp [oC, oD, hx]
  obtain ⟨hlt, he⟩ := List.getElem?_eq_some_iff.1 h
  rw [List.drop_eq_getElem_cons hlt, he]
  rfl
/-- The check of an OID. -/
def chkO (o : Oid) : Nat :=
  if o.1 < 2 ∨ 16 < o.1 ∨ 2 < o.2.getD 0 0 then 1
  else if (o.2.getD 0 0 < 2 ∧ 39 < o.2.getD 1 0) ∨ 4294967215 < o.2.getD 1 0 then 1
  else if (o.2.drop o.1).all (· == 0) then 0 else 1

theorem oC_n {o : Oid} : (((oC o).drop 0).take 1) = [.d (.int .u8 (o.1 : Int))] := rfl
theorem oC_a {o : Oid} (h : wfO o) (i : Nat) (hi : i < 16) : (((oC o).drop (1 + i)).take 1) = [.d (u32D (o.2.getD i 0))] := by
  have hlt : i < o.2.length := by rw [h.2.1]; exact hi
  refine oC_arc ?_
  rw [List.getElem?_eq_getElem hlt, List.getD_eq_getElem?_getD, List.getElem?_eq_getElem hlt]
  rfl

abbrev R53 (n i : Nat) : List V := [.any, .any, .any, .any, .any, .any, .c (.os 0 0 (1 + n) (16 - n) 1 (some (16 - n))), i64 ((16 - n : Nat) : Int), i64 i, .any, .any]
abbrev S53 (n i : Nat) (x : Nat) (b : Bool) : List V := if b then [.any, .any, .any, .c (.d (u32D x)), .any, .any, .c (.os 0 0 (1 + n) (16 - n) 1 (some (16 - n))), i64 ((16 - n : Nat) : Int), i64 ((i + 1 : Nat) : Int), bl true, bl false] else [.any, .any, i64 1, .c (.d (u32D x)), .any, .any, .c (.os 0 0 (1 + n) (16 - n) 1 (some (16 - n))), i64 ((16 - n : Nat) : Int), i64 i, bl true, bl true]
theorem r53 {E : Env} {N : Nat} {o : Oid} {n j x : Nat} (hn : n ≤ 16) (hl : o.2.length = 16) (hx : (o.2.drop n)[j]? = some x) : exec E N false fn53L0 ⟨R53 n j, [.cells (oC o) 0 false]⟩ = some (if x = 0 then .nrm else .ret, ⟨S53 n j x (decide (x = 0)), [.cells (oC o) 0 false]⟩) := by
  have hj : j < 16 - n := by
    obtain ⟨h, _⟩ := List.getElem?_eq_some_iff.1 hx
    rw [List.length_drop, hl] at h; exact h
  have h1 : ((oC o).drop (1 + n + j)).take 1 = [.d (.int .u32 (x : Int))] := by
    rw [Nat.add_assoc]
    exact oC_arc (by rw [← hx, List.getElem?_drop])
  have h2 : ((j : Nat) : Int) < ((16 - n : Nat) : Int) := by omega
  have h3 := wrap_succ (k := j) (by omega)
  by_cases hz : x = 0
  · subst hz
    simp only [fn53L0, R53, S53, u32D, ob?, h1, h2, h3, hj, bne_self_eq_false, Int.ofNat_zero, cont_some, ro_nil, ro_none, ex_seq, sq_nrm, ex_reg, rg_some, ex_cond, cd_t, cd_f, ex_skip, Mini.step, stepP, stepE, O.eff, Mini.look, nth, put, exports, bin, binInt, i64, bl, asNat_nat, ofCells, List.length_cons, List.length_nil, Option.map_some, if_true, if_false, decide_true, Nat.zero_add, Nat.mul_one, and_self, Bool.false_eq_true, ex_block, bk_nrm, List.cons_append, List.nil_append]
  · have h5 : ((x : Int) != 0) = true := by simpa using hz
    simp only [fn53L0, R53, S53, u32D, ob?, h1, h2, h5, hz, hj, cont_some, ro_nil, ro_none, ex_seq, sq_nrm, sq_ret, ex_reg, rg_some, ex_cond, cd_t, ex_skip, ex_ret, Mini.step, stepP, stepE, O.eff, Mini.look, nth, put, exports, bin, binInt, i64, bl, asNat_nat, ofCells, List.length_cons, List.length_nil, Option.map_some, if_true, if_false, decide_true, decide_false, Nat.zero_add, Nat.mul_one, and_self, Bool.false_eq_true, ex_block, bk_ret, List.cons_append, List.nil_append]
theorem chkO_ok {X : Ctx} (hX : X.fns 53 = some fn53) {o : Oid} (h : wfO o) {N : Nat} (hN : 20 ≤ N) : vcallN X N 53 [.agg (oC o)] = some (i64 (chkO o)) := by
  obtain ⟨N, rfl⟩ : ∃ M, N = M + 1 := ⟨N - 1, by omega⟩
  rw [fn53_is] at hX
  have h0 := oC_n (o := o)
  have h1 : (((oC o).drop 1).take 1) = [.d (u32D (o.2.getD 0 0))] := oC_a h 0 (by decide)
  have h2 : (((oC o).drop 2).take 1) = [.d (u32D (o.2.getD 1 0))] := oC_a h 1 (by decide)
  have hl := oC_len h
  simp only [u32D] at h1 h2
  generalize hn : o.1 = n at *
  generalize ha : o.2.getD 0 0 = a at *
  generalize hb : o.2.getD 1 0 = b at *
  by_cases c1 : (n : Int) < 2
  · refine vcall_of (r := i64 1) (H := [.cells (oC o) 0 false]) ?_ ?_
    · rw [callN_fn hX]
      refine (rf_fin _ _ _ _ _ _ _ _ _ (by rfl)).trans ?_
      simp only [ob?, h0, c1, cont_some, ro_nil, ro_none, ro_some, gc_tf, ex_seq, sq_nrm, sq_ret, ex_reg, rg_some, ex_cond, cd_t, ex_ret, fin_ret, Mini.step, stepP, stepE, O.eff, Mini.look, nth, put, exports, bin, binInt, i64, ofCells, V.cells, List.length_cons, List.length_nil, Option.map_some, if_true, if_false, decide_true, Nat.zero_add, Nat.add_zero, Bool.false_eq_true, pad, List.replicate, Nat.reduceSub, List.cons_append, List.nil_append, results, result, mapO]
    · have : chkO o = 1 := by
        unfold chkO; rw [if_pos (by omega)]
      rw [this]; rfl
  by_cases c2 : (n : Int) > 16
  · refine vcall_of (r := i64 1) (H := [.cells (oC o) 0 false]) ?_ ?_
    · rw [callN_fn hX]
      refine (rf_fin _ _ _ _ _ _ _ _ _ (by rfl)).trans ?_
      simp only [ob?, h0, c1, c2, cont_some, ro_nil, ro_none, ro_some, gc_ff, gc_tf, ex_seq, sq_nrm, sq_ret, ex_reg, rg_some, ex_cond, cd_t, ex_ret, fin_ret, Mini.step, stepP, stepE, O.eff, Mini.look, nth, put, exports, bin, binInt, i64, ofCells, V.cells, List.length_cons, List.length_nil, Option.map_some, if_true, if_false, decide_true, decide_false, Nat.zero_add, Nat.add_zero, Bool.false_eq_true, pad, List.replicate, Nat.reduceSub, List.cons_append, List.nil_append, results, result, mapO]
    · have : chkO o = 1 := by
        unfold chkO; rw [if_pos (by omega)]
      rw [this]; rfl
  by_cases c3 : (a : Int) > 2
  · refine vcall_of (r := i64 1) (H := [.cells (oC o) 0 false]) ?_ ?_
    · rw [callN_fn hX]
      refine (rf_fin _ _ _ _ _ _ _ _ _ (by rfl)).trans ?_
      simp only [ob?, h0, h1, c1, c2, c3, cont_some, ro_nil, ro_none, ro_some, gc_ff, ex_seq, sq_nrm, sq_ret, ex_reg, rg_some, ex_cond, cd_t, ex_ret, fin_ret, Mini.step, stepP, stepE, O.eff, Mini.look, nth, put, exports, bin, binInt, i64, ofCells, V.cells, List.length_cons, List.length_nil, Option.map_some, if_true, if_false, decide_true, decide_false, Nat.zero_add, Nat.add_zero, Nat.mul_one, Bool.false_eq_true, Nat.reduceLT, an0, pad, List.replicate, Nat.reduceSub, List.cons_append, List.nil_append, results, result, mapO]
    · have : chkO o = 1 := by
        unfold chkO; rw [if_pos (by omega)]
      rw [this]; rfl
  by_cases c6 : (b : Int) > 4294967215
  · refine vcall_of (r := i64 1) (H := [.cells (oC o) 0 false]) ?_ ?_
    · rw [callN_fn hX]
      refine (rf_fin _ _ _ _ _ _ _ _ _ (by rfl)).trans ?_
      by_cases c4 : (a : Int) < 2
      · have c5 : (b : Int) > 39 := by omega
        simp only [ob?, h0, h1, h2, c1, c2, c3, c4, c5, cont_some, ro_nil, ro_none, ro_some, gc_tt, gc_ff, gc_tf, ex_seq, sq_nrm, sq_ret, ex_reg, rg_some, ex_cond, cd_t, cd_f, ex_skip, ex_ret, fin_ret, Mini.step, stepP, stepE, O.eff, Mini.look, nth, put, exports, bin, binInt, i64, ofCells, V.cells, List.length_cons, List.length_nil, Option.map_some, if_true, if_false, decide_true, decide_false, Nat.zero_add, Nat.add_zero, Nat.mul_one, Bool.false_eq_true, Nat.reduceAdd, Nat.reduceLT, an0, an1, pad, List.replicate, Nat.reduceSub, List.cons_append, List.nil_append, results, result, mapO]
      · simp only [ob?, h0, h1, h2, c1, c2, c3, c4, c6, cont_some, ro_nil, ro_none, ro_some, gc_ff, gc_ft, ex_seq, sq_nrm, sq_ret, ex_reg, rg_some, ex_cond, cd_t, cd_f, ex_skip, ex_ret, fin_ret, Mini.step, stepP, stepE, O.eff, Mini.look, nth, put, exports, bin, binInt, i64, ofCells, V.cells, List.length_cons, List.length_nil, Option.map_some, if_true, if_false, decide_true, decide_false, Nat.zero_add, Nat.add_zero, Nat.mul_one, Bool.false_eq_true, Nat.reduceAdd, Nat.reduceLT, an0, an1, pad, List.replicate, Nat.reduceSub, List.cons_append, List.nil_append, results, result, mapO]
    · have : chkO o = 1 := by
        unfold chkO; rw [if_neg (by omega), if_pos (by omega)]
      rw [this]; rfl
  by_cases c5 : (a : Int) < 2 ∧ (b : Int) > 39
  · refine vcall_of (r := i64 1) (H := [.cells (oC o) 0 false]) ?_ ?_
    · rw [callN_fn hX]
      refine (rf_fin _ _ _ _ _ _ _ _ _ (by rfl)).trans ?_
      simp only [ob?, h0, h1, h2, c1, c2, c3, c5.1, c5.2, cont_some, ro_nil, ro_none, ro_some, gc_tt, gc_ff, gc_tf, ex_seq, sq_nrm, sq_ret, ex_reg, rg_some, ex_cond, cd_t, cd_f, ex_skip, ex_ret, fin_ret, Mini.step, stepP, stepE, O.eff, Mini.look, nth, put, exports, bin, binInt, i64, ofCells, V.cells, List.length_cons, List.length_nil, Option.map_some, if_true, if_false, decide_true, decide_false, Nat.zero_add, Nat.add_zero, Nat.mul_one, Bool.false_eq_true, Nat.reduceAdd, Nat.reduceLT, an0, an1, pad, List.replicate, Nat.reduceSub, List.cons_append, List.nil_append, results, result, mapO]
    · have : chkO o = 1 := by
        unfold chkO; rw [if_neg (by omega), if_pos (by omega)]
      rw [this]; rfl
  have hn2 : 2 ≤ n := by omega
  have hn16 : n ≤ 16 := by omega
  have hs : (o.2.drop n).length = 16 - n := by rw [List.length_drop, h.2.1]
  have hlp : ∃ r, iter (some [6, 7, 8]) 1 (exec (zenv X N) N false fn53L0) N ⟨R53 n 0, [.cells (oC o) 0 false]⟩ = some (if (o.2.drop n).all (· == 0) then .exit 0 else .ret, ⟨r, [.cells (oC o) 0 false]⟩) ∧ r.length = 11 ∧ ((o.2.drop n).all (· == 0) = false → nth r 2 = i64 1) := by
    have hround : ∀ j x, (o.2.drop n)[j]? = some x → ¬ x ≠ 0 → ∃ s', exec (zenv X N) N false fn53L0 ⟨R53 n j, [.cells (oC o) 0 false]⟩ = some (.nrm, s') ∧ tidy 1 (some [6, 7, 8]) s' = ⟨R53 n (j + 1), [.cells (oC o) 0 false]⟩ := by
      intro j x hj hx
      have hx0 : x = 0 := Decidable.not_not.1 hx
      subst hx0
      exact ⟨_, r53 hn16 h.2.1 hj, gc_le (Nat.le_refl 1)⟩
    rcases first_or (fun x => x ≠ 0) (o.2.drop n) with hall | ⟨k, x, hk, hx, hlt⟩
    · refine ⟨[.any, .any, .any, .any, .any, .any, .c (.os 0 0 (1 + n) (16 - n) 1 (some (16 - n))), i64 ((16 - n : Nat) : Int), i64 ((16 - n : Nat) : Int), bl false, .any], ?_, rfl, ?_⟩
      · have ha2 : (o.2.drop n).all (· == 0) = true := by
          rw [List.all_eq_true]
          intro x hx
          have := hall x hx
          simpa using this
        rw [if_pos ha2]
        have hexit : exec (zenv X N) N false fn53L0 ⟨R53 n (0 + (16 - n)), [.cells (oC o) 0 false]⟩ = some (.exit 0, ⟨[.any, .any, .any, .any, .any, .any, .c (.os 0 0 (1 + n) (16 - n) 1 (some (16 - n))), i64 ((16 - n : Nat) : Int), i64 ((16 - n : Nat) : Int), bl false, .any], [.cells (oC o) 0 false]⟩) := by
          simp only [fn53L0, R53, Int.lt_irrefl, cont_some, ro_nil, ro_none, ex_seq, sq_nrm, sq_exit, ex_reg, rg_some, ex_cond, cd_f, ex_exit, Mini.step, stepP, stepE, O.eff, Mini.look, nth, put, exports, bin, binInt, i64, bl, Option.map_some, if_true, if_false, decide_false, Nat.zero_add, Bool.false_eq_true, List.cons_append, List.nil_append]
        refine iter_to (fun i => ⟨R53 n i, [.cells (oC o) 0 false]⟩) (by simp) (16 - n) 0 N (fun j _ hj => ?_) hexit (by omega)
        have hjl : j < (o.2.drop n).length := by rw [hs]; omega
        exact hround j _ (List.getElem?_eq_getElem hjl) (hall _ (List.getElem_mem hjl))
      · intro h9
        have : (o.2.drop n).all (· == 0) = true := by
          rw [List.all_eq_true]
          intro x hx
          have := hall x hx
          simpa using this
        rw [this] at h9; cases h9
    · refine ⟨S53 n k x false, ?_, rfl, fun _ => rfl⟩
      have ha2 : (o.2.drop n).all (· == 0) = false := by
        rw [List.all_eq_false]
        exact ⟨x, List.mem_of_getElem? hk, by simpa using hx⟩
      rw [if_neg (by rw [ha2]; simp)]
      have hkl : k < 16 - n := by rw [← hs]; exact (List.getElem?_eq_some_iff.1 hk).1
      refine iter_to (fun i => ⟨R53 n i, [.cells (oC o) 0 false]⟩) (by simp) k 0 N (fun j _ hj => ?_) ?_ (by omega)
      · have hjl : j < (o.2.drop n).length := by rw [hs]; omega
        exact hround j _ (List.getElem?_eq_getElem hjl) (hlt j _ (by omega) (List.getElem?_eq_getElem hjl))
      · have := r53 (E := zenv X N) (N := N) hn16 h.2.1 hk
        rw [if_neg hx, decide_eq_false hx] at this
        rw [Nat.zero_add]; exact this
  obtain ⟨r, hlp, hr1, hr2⟩ := hlp
  refine vcall_of (r := i64 (chkO o)) (H := [.cells (oC o) 0 false]) ?_ rfl
  rw [callN_fn hX]
  have hck : chkO o = if (o.2.drop n).all (· == 0) then 0 else 1 := by
    unfold chkO
    rw [if_neg (by omega), if_neg (by omega), hn]
  rw [hck]
  refine (rf_fin _ _ _ _ _ _ _ _ _ (by rfl)).trans ?_
  match r, hr1 with
  | [r0, r1, r2, r3, r4, r5, r6, r7, r8, r9, r10], _ =>
  have hr3 := hr2
  simp only [nth] at hr3
  simp only [R53, i64, Int.natCast_zero] at hlp
  have hfin : ∀ (c : Bool) , (o.2.drop n).all (· == 0) = c → iter (some [6, 7, 8]) 1 (exec (zenv X N) N false fn53L0) N ⟨[.any, .any, .any, .any, .any, .any, .c (.os 0 0 (1 + n) (16 - n) 1 (some (16 - n))), .c (.d (.int .i64 ((16 - n : Nat) : Int))), .c (.d (.int .i64 0)), .any, .any], [.cells (oC o) 0 false]⟩ = some (if c = true then .exit 0 else .ret, ⟨[r0, r1, r2, r3, r4, r5, r6, r7, r8, r9, r10], [.cells (oC o) 0 false]⟩) := by
    intro c hc
    rw [← hc]; exact hlp
  by_cases c4 : (a : Int) < 2
  · have c8 : ¬ (b : Int) > 39 := fun h9 => c5 ⟨c4, h9⟩
    cases hall : (o.2.drop n).all (· == 0)
    · have hq := hfin _ hall
      have hw := hr3 hall
      subst hw
      simp only [ob?, h0, h1, h2, c1, c2, c3, c4, c6, c8, hl, optNat, hn16, Option.map_none, hq, Int.natCast_one, cont_some, ro_nil, ro_none, ro_some, gc_tt, gc_ff, ex_seq, sq_nrm, sq_ret, ex_reg, rg_some, ex_cond, cd_f, ex_skip, fin_ret, Mini.step, stepP, stepE, O.eff, Mini.look, nth, put, exports, bin, binInt, i64, asNat_nat, ofCells, V.cells, List.length_cons, List.length_nil, Option.map_some, if_true, if_false, decide_true, decide_false, Nat.zero_add, Nat.add_zero, Nat.mul_one, and_self, Int.ofNat_eq_natCast, Bool.false_eq_true, Nat.reduceAdd, Nat.reduceLeDiff, Nat.reduceLT, an0, an1, ex_block, ex_loopk, keepOnly, List.contains_cons, List.contains_nil, Nat.reduceBEq, Bool.or_false, Bool.or_true, bk_ret, pad, List.replicate, Nat.reduceSub, List.cons_append, List.nil_append, results, result, mapO]
    · have hq := hfin _ hall
      simp only [ob?, h0, h1, h2, c1, c2, c3, c4, c6, c8, hl, optNat, hn16, Option.map_none, hq, Int.natCast_zero, cont_some, ro_nil, ro_none, ro_some, gc_tt, gc_ff, ex_seq, sq_nrm, ex_reg, rg_some, ex_cond, cd_f, ex_skip, ex_ret, fin_ret, Mini.step, stepP, stepE, O.eff, Mini.look, nth, put, exports, bin, binInt, i64, asNat_nat, ofCells, V.cells, List.length_cons, List.length_nil, Option.map_some, if_true, if_false, decide_true, decide_false, Nat.zero_add, Nat.add_zero, Nat.mul_one, and_self, Int.ofNat_eq_natCast, Bool.false_eq_true, Nat.reduceAdd, Nat.reduceLeDiff, Nat.reduceLT, an0, an1, ex_block, ex_loopk, keepOnly, List.contains_cons, List.contains_nil, Nat.reduceBEq, Bool.or_false, Bool.or_true, bk_exit, pad, List.replicate, Nat.reduceSub, List.cons_append, List.nil_append, results, result, mapO]
  · cases hall : (o.2.drop n).all (· == 0)
    · have hq := hfin _ hall
      have hw := hr3 hall
      subst hw
      simp only [ob?, h0, h1, h2, c1, c2, c3, c4, c6, hl, optNat, hn16, Option.map_none, hq, Int.natCast_one, cont_some, ro_nil, ro_none, ro_some, gc_ff, gc_ft, ex_seq, sq_nrm, sq_ret, ex_reg, rg_some, ex_cond, cd_f, ex_skip, fin_ret, Mini.step, stepP, stepE, O.eff, Mini.look, nth, put, exports, bin, binInt, i64, asNat_nat, ofCells, V.cells, List.length_cons, List.length_nil, Option.map_some, if_true, if_false, decide_false, Nat.zero_add, Nat.add_zero, Nat.mul_one, and_self, Int.ofNat_eq_natCast, Bool.false_eq_true, Nat.reduceAdd, Nat.reduceLeDiff, Nat.reduceLT, an0, an1, ex_block, ex_loopk, keepOnly, List.contains_cons, List.contains_nil, Nat.reduceBEq, Bool.or_false, Bool.or_true, bk_ret, pad, List.replicate, Nat.reduceSub, List.cons_append, List.nil_append, results, result, mapO]
    · have hq := hfin _ hall
      simp only [ob?, h0, h1, h2, c1, c2, c3, c4, c6, hl, optNat, hn16, Option.map_none, hq, Int.natCast_zero, cont_some, ro_nil, ro_none, ro_some, gc_ff, gc_ft, ex_seq, sq_nrm, ex_reg, rg_some, ex_cond, cd_f, ex_skip, ex_ret, fin_ret, Mini.step, stepP, stepE, O.eff, Mini.look, nth, put, exports, bin, binInt, i64, asNat_nat, ofCells, V.cells, List.length_cons, List.length_nil, Option.map_some, if_true, if_false, decide_false, Nat.zero_add, Nat.add_zero, Nat.mul_one, and_self, Int.ofNat_eq_natCast, Bool.false_eq_true, Nat.reduceAdd, Nat.reduceLeDiff, Nat.reduceLT, an0, an1, ex_block, ex_loopk, keepOnly, List.contains_cons, List.contains_nil, Nat.reduceBEq, Bool.or_false, Bool.or_true, bk_exit, pad, List.replicate, Nat.reduceSub, List.cons_append, List.nil_append, results, result, mapO]
end Mini
end Go.Proofs.YtgjlofpfbhioaaaGreatDoor
namespace Go.Proofs.YtgjlofpfbhioaaaGreatDoor
namespace Mini
open Go
theorem evs : type_of% (And.intro (And.intro (And.intro (And.intro (And.intro (And.intro (And.intro (@lenc_nil) (And.intro (@lenc_sl) (@lenc_os))) (And.intro (@ixac_sl) (And.intro (@ixac_os) (@optC_some)))) (And.intro (And.intro (@cont_some) (And.intro (@ro_nil) (@ro_none))) (And.intro (@ro_some) (And.intro (@gc_tt) (@gc_ff))))) (And.intro (And.intro (And.intro (@gc_tf) (And.intro (@gc_ft) (@gc_t))) (And.intro (@ex_seq) (And.intro (@sq_nrm) (@sq_ret)))) (And.intro (And.intro (@sq_exit) (And.intro (@ex_reg) (@rg_some))) (And.intro (And.intro (@ex_cond) (@cd_t)) (And.intro (@cd_f) (@ex_skip)))))) (And.intro (And.intro (And.intro (And.intro (@ex_ret) (And.intro (@ex_exit) (@fin_ret))) (And.intro (@fin_nrm) (And.intro (@Mini.step.eq_1) (@Mini.step.eq_2)))) (And.intro (And.intro (@Mini.step.eq_3) (And.intro (@Mini.stepP.eq_1) (@Mini.stepP.eq_2))) (And.intro (And.intro (@Mini.stepP.eq_3) (@Mini.stepP.eq_4)) (And.intro (@Mini.stepP.eq_5) (@Mini.stepP.eq_6))))) (And.intro (And.intro (And.intro (@Mini.stepP.eq_7) (And.intro (@Mini.stepP.eq_8) (@Mini.stepP.eq_9))) (And.intro (@Mini.stepP.eq_10) (And.intro (@Mini.stepP.eq_11) (@Mini.stepP.eq_12)))) (And.intro (And.intro (@Mini.stepP.eq_13) (And.intro (@Mini.stepP.eq_14) (@Mini.stepP.eq_15))) (And.intro (And.intro (@Mini.stepP.eq_16) (@Mini.stepP.eq_17)) (And.intro (@Mini.stepP.eq_18) (@Mini.stepP.eq_19))))))) (And.intro (And.intro (And.intro (And.intro (And.intro (@Mini.stepP.eq_20) (And.intro (@Mini.stepP.eq_21) (@Mini.stepP.eq_22))) (And.intro (@Mini.stepP.eq_23) (And.intro (@Mini.stepP.eq_24) (@Mini.stepP.eq_25)))) (And.intro (And.intro (@Mini.stepP.eq_26) (And.intro (@Mini.stepP.eq_27) (@Mini.stepP.eq_28))) (And.intro (And.intro (@Mini.stepP.eq_29) (@Mini.stepP.eq_30)) (And.intro (@Mini.stepP.eq_31) (@Mini.stepP.eq_32))))) (And.intro (And.intro (And.intro (@Mini.stepP.eq_33) (And.intro (@Mini.stepP.eq_34) (@Mini.stepP.eq_35))) (And.intro (@Mini.stepP.eq_36) (And.intro (@Mini.stepP.eq_37) (@Mini.stepP.eq_38)))) (And.intro (And.intro (@Mini.stepP.eq_39) (And.intro (@Mini.stepE.eq_1) (@Mini.stepE.eq_2))) (And.intro (And.intro (@Mini.stepE.eq_3) (@Mini.stepE.eq_4)) (And.intro (@Mini.stepE.eq_5) (@Mini.stepE.eq_6)))))) (And.intro (And.intro (And.intro (And.intro (@Mini.stepE.eq_7) (And.intro (@Mini.O.eff.eq_1) (@Mini.O.eff.eq_2))) (And.intro (@Mini.O.eff.eq_3) (And.intro (@Mini.O.eff.eq_4) (@Mini.O.eff.eq_5)))) (And.intro (And.intro (@Mini.O.eff.eq_6) (And.intro (@Mini.O.eff.eq_7) (@Mini.O.eff.eq_8))) (And.intro (And.intro (@Mini.look.eq_1) (@Mini.look.eq_2)) (And.intro (@Mini.look.eq_3) (@Mini.look.eq_4))))) (And.intro (And.intro (And.intro (@Mini.nth.eq_1) (And.intro (@Mini.nth.eq_2) (@Mini.nth.eq_3))) (And.intro (@Mini.put.eq_1) (And.intro (@Mini.put.eq_2) (@Mini.put.eq_3)))) (And.intro (And.intro (@Mini.exports.eq_1) (And.intro (@Mini.exports.eq_2) (@Mini.bin.eq_1))) (And.intro (And.intro (@Mini.bin.eq_2) (@Mini.bin.eq_3)) (And.intro (@Mini.bin.eq_4) (@Mini.bin.eq_5)))))))) (And.intro (And.intro (And.intro (And.intro (And.intro (And.intro (@Mini.binInt.eq_1) (And.intro (@Mini.binInt.eq_2) (@Mini.binInt.eq_3))) (And.intro (@Mini.binInt.eq_4) (And.intro (@Mini.binInt.eq_5) (@Mini.binInt.eq_6)))) (And.intro (And.intro (@Mini.binInt.eq_7) (And.intro (@Mini.binInt.eq_8) (@Mini.binInt.eq_9))) (And.intro (And.intro (@Mini.binInt.eq_10) (@Mini.binInt.eq_11)) (And.intro (@Mini.binInt.eq_12) (@Mini.binInt.eq_13))))) (And.intro (And.intro (And.intro (@Mini.binInt.eq_14) (And.intro (@Mini.binInt.eq_15) (@Mini.binInt.eq_16))) (And.intro (@Mini.un.eq_1) (And.intro (@Mini.un.eq_2) (@Mini.un.eq_3)))) (And.intro (And.intro (@Mini.un.eq_4) (And.intro (@Mini.i64.eq_1) (@Mini.bl.eq_1))) (And.intro (And.intro (@asNat_nat) (@ob_eq)) (And.intro (@setOb_eq) (@Mini.ofCells.eq_def)))))) (And.intro (And.intro (And.intro (And.intro (@Mini.V.cells.eq_1) (And.intro (@Mini.V.cells.eq_2) (@Mini.V.cells.eq_3))) (And.intro (@List.length_cons.{0}) (And.intro (@List.length_nil.{0}) (@Option.map_some.{0, 0})))) (And.intro (And.intro (@if_true.{1}) (And.intro (@if_false.{1}) (@decide_true))) (And.intro (And.intro (@decide_false) (@List.append_nil.{0})) (And.intro (@List.all_nil.{0}) (@cond_true.{1}))))) (And.intro (And.intro (And.intro (@cond_false.{1}) (And.intro (@Nat.zero_add) (@Nat.add_zero))) (And.intro (@Nat.mul_one) (And.intro (@Nat.one_mul) (@and_self)))) (And.intro (And.intro (@Int.ofNat_eq_natCast) (And.intro (@Bool.false_eq_true) (@decide_eq_true_eq))) (And.intro (And.intro (@true_and) (@and_true)) (And.intro (@false_and) (@and_false))))))) (And.intro (And.intro (And.intro (And.intro (And.intro (@an0) (And.intro (@an1) (@an2))) (And.intro (@ex_block) (And.intro (@ex_loopk) (@Mini.keepOnly.eq_1)))) (And.intro (And.intro (@Mini.keepOnly.eq_2) (And.intro (@List.contains_cons.{0}) (@List.contains_nil.{0}))) (And.intro (And.intro (@Bool.or_false) (@Bool.or_true)) (And.intro (@Bool.false_or) (@Bool.true_or))))) (And.intro (And.intro (And.intro (@bk_nrm) (And.intro (@bk_ret) (@bk_exit))) (And.intro (@Mini.pad.eq_1) (And.intro (@List.replicate.eq_1.{0}) (@List.replicate.eq_2.{0})))) (And.intro (And.intro (@List.cons_append.{0}) (And.intro (@List.nil_append.{0}) (@Mini.results.eq_1))) (And.intro (And.intro (@Mini.result.eq_1) (@Mini.result.eq_2)) (And.intro (@Mini.mapO.eq_1) (@Mini.mapO.eq_2)))))) (And.intro (And.intro (And.intro (And.intro (@Mini.byValue.eq_1) (And.intro (@Mini.deepV1.eq_1) (@Mini.deepV1.eq_2))) (And.intro (@Mini.deepV1.eq_3) (And.intro (@Mini.deepC.eq_1) (@Mini.deepC.eq_2)))) (And.intro (And.intro (@Mini.deepC.eq_3) (And.intro (@Mini.deepC.eq_4) (@Mini.deepC.eq_5))) (And.intro (And.intro (@Mini.V.flat.eq_1) (@Mini.V.flat.eq_2)) (And.intro (@Mini.V.flat1.eq_1) (@Mini.V.flat1.eq_2))))) (And.intro (And.intro (And.intro (@Mini.V.flat1.eq_3) (And.intro (@Mini.C.flat.eq_1) (@Mini.C.flat.eq_2))) (And.intro (@Mini.D.flat.eq_1) (And.intro (@Mini.D.flat.eq_2) (@Mini.D.flat.eq_3)))) (And.intro (And.intro (@Mini.D.flat.eq_4) (And.intro (@bne_self_eq_false.{0}) (@Int.lt_irrefl))) (And.intro (And.intro (@zenv_call) (@beq_self_eq_true.{0})) (And.intro (@List.getElem?_cons_zero.{0}) (@List.getElem?_cons_succ.{0}))))))))) :=
  And.intro (And.intro (And.intro (And.intro (And.intro (And.intro (And.intro (@lenc_nil) (And.intro (@lenc_sl) (@lenc_os))) (And.intro (@ixac_sl) (And.intro (@ixac_os) (@optC_some)))) (And.intro (And.intro (@cont_some) (And.intro (@ro_nil) (@ro_none))) (And.intro (@ro_some) (And.intro (@gc_tt) (@gc_ff))))) (And.intro (And.intro (And.intro (@gc_tf) (And.intro (@gc_ft) (@gc_t))) (And.intro (@ex_seq) (And.intro (@sq_nrm) (@sq_ret)))) (And.intro (And.intro (@sq_exit) (And.intro (@ex_reg) (@rg_some))) (And.intro (And.intro (@ex_cond) (@cd_t)) (And.intro (@cd_f) (@ex_skip)))))) (And.intro (And.intro (And.intro (And.intro (@ex_ret) (And.intro (@ex_exit) (@fin_ret))) (And.intro (@fin_nrm) (And.intro (@Mini.step.eq_1) (@Mini.step.eq_2)))) (And.intro (And.intro (@Mini.step.eq_3) (And.intro (@Mini.stepP.eq_1) (@Mini.stepP.eq_2))) (And.intro (And.intro (@Mini.stepP.eq_3) (@Mini.stepP.eq_4)) (And.intro (@Mini.stepP.eq_5) (@Mini.stepP.eq_6))))) (And.intro (And.intro (And.intro (@Mini.stepP.eq_7) (And.intro (@Mini.stepP.eq_8) (@Mini.stepP.eq_9))) (And.intro (@Mini.stepP.eq_10) (And.intro (@Mini.stepP.eq_11) (@Mini.stepP.eq_12)))) (And.intro (And.intro (@Mini.stepP.eq_13) (And.intro (@Mini.stepP.eq_14) (@Mini.stepP.eq_15))) (And.intro (And.intro (@Mini.stepP.eq_16) (@Mini.stepP.eq_17)) (And.intro (@Mini.stepP.eq_18) (@Mini.stepP.eq_19))))))) (And.intro (And.intro (And.intro (And.intro (And.intro (@Mini.stepP.eq_20) (And.intro (@Mini.stepP.eq_21) (@Mini.stepP.eq_22))) (And.intro (@Mini.stepP.eq_23) (And.intro (@Mini.stepP.eq_24) (@Mini.stepP.eq_25)))) (And.intro (And.intro (@Mini.stepP.eq_26) (And.intro (@Mini.stepP.eq_27) (@Mini.stepP.eq_28))) (And.intro (And.intro (@Mini.stepP.eq_29) (@Mini.stepP.eq_30)) (And.intro (@Mini.stepP.eq_31) (@Mini.stepP.eq_32))))) (And.intro (And.intro (And.intro (@Mini.stepP.eq_33) (And.intro (@Mini.stepP.eq_34) (@Mini.stepP.eq_35))) (And.intro (@Mini.stepP.eq_36) (And.intro (@Mini.stepP.eq_37) (@Mini.stepP.eq_38)))) (And.intro (And.intro (@Mini.stepP.eq_39) (And.intro (@Mini.stepE.eq_1) (@Mini.stepE.eq_2))) (And.intro (And.intro (@Mini.stepE.eq_3) (@Mini.stepE.eq_4)) (And.intro (@Mini.stepE.eq_5) (@Mini.stepE.eq_6)))))) (And.intro (And.intro (And.intro (And.intro (@Mini.stepE.eq_7) (And.intro (@Mini.O.eff.eq_1) (@Mini.O.eff.eq_2))) (And.intro (@Mini.O.eff.eq_3) (And.intro (@Mini.O.eff.eq_4) (@Mini.O.eff.eq_5)))) (And.intro (And.intro (@Mini.O.eff.eq_6) (And.intro (@Mini.O.eff.eq_7) (@Mini.O.eff.eq_8))) (And.intro (And.intro (@Mini.look.eq_1) (@Mini.look.eq_2)) (And.intro (@Mini.look.eq_3) (@Mini.look.eq_4))))) (And.intro (And.intro (And.intro (@Mini.nth.eq_1) (And.intro (@Mini.nth.eq_2) (@Mini.nth.eq_3))) (And.intro (@Mini.put.eq_1) (And.intro (@Mini.put.eq_2) (@Mini.put.eq_3)))) (And.intro (And.intro (@Mini.exports.eq_1) (And.intro (@Mini.exports.eq_2) (@Mini.bin.eq_1))) (And.intro (And.intro (@Mini.bin.eq_2) (@Mini.bin.eq_3)) (And.intro (@Mini.bin.eq_4) (@Mini.bin.eq_5)))))))) (And.intro (And.intro (And.intro (And.intro (And.intro (And.intro (@Mini.binInt.eq_1) (And.intro (@Mini.binInt.eq_2) (@Mini.binInt.eq_3))) (And.intro (@Mini.binInt.eq_4) (And.intro (@Mini.binInt.eq_5) (@Mini.binInt.eq_6)))) (And.intro (And.intro (@Mini.binInt.eq_7) (And.intro (@Mini.binInt.eq_8) (@Mini.binInt.eq_9))) (And.intro (And.intro (@Mini.binInt.eq_10) (@Mini.binInt.eq_11)) (And.intro (@Mini.binInt.eq_12) (@Mini.binInt.eq_13))))) (And.intro (And.intro (And.intro (@Mini.binInt.eq_14) (And.intro (@Mini.binInt.eq_15) (@Mini.binInt.eq_16))) (And.intro (@Mini.un.eq_1) (And.intro (@Mini.un.eq_2) (@Mini.un.eq_3)))) (And.intro (And.intro (@Mini.un.eq_4) (And.intro (@Mini.i64.eq_1) (@Mini.bl.eq_1))) (And.intro (And.intro (@asNat_nat) (@ob_eq)) (And.intro (@setOb_eq) (@Mini.ofCells.eq_def)))))) (And.intro (And.intro (And.intro (And.intro (@Mini.V.cells.eq_1) (And.intro (@Mini.V.cells.eq_2) (@Mini.V.cells.eq_3))) (And.intro (@List.length_cons.{0}) (And.intro (@List.length_nil.{0}) (@Option.map_some.{0, 0})))) (And.intro (And.intro (@if_true.{1}) (And.intro (@if_false.{1}) (@decide_true))) (And.intro (And.intro (@decide_false) (@List.append_nil.{0})) (And.intro (@List.all_nil.{0}) (@cond_true.{1}))))) (And.intro (And.intro (And.intro (@cond_false.{1}) (And.intro (@Nat.zero_add) (@Nat.add_zero))) (And.intro (@Nat.mul_one) (And.intro (@Nat.one_mul) (@and_self)))) (And.intro (And.intro (@Int.ofNat_eq_natCast) (And.intro (@Bool.false_eq_true) (@decide_eq_true_eq))) (And.intro (And.intro (@true_and) (@and_true)) (And.intro (@false_and) (@and_false))))))) (And.intro (And.intro (And.intro (And.intro (And.intro (@an0) (And.intro (@an1) (@an2))) (And.intro (@ex_block) (And.intro (@ex_loopk) (@Mini.keepOnly.eq_1)))) (And.intro (And.intro (@Mini.keepOnly.eq_2) (And.intro (@List.contains_cons.{0}) (@List.contains_nil.{0}))) (And.intro (And.intro (@Bool.or_false) (@Bool.or_true)) (And.intro (@Bool.false_or) (@Bool.true_or))))) (And.intro (And.intro (And.intro (@bk_nrm) (And.intro (@bk_ret) (@bk_exit))) (And.intro (@Mini.pad.eq_1) (And.intro (@List.replicate.eq_1.{0}) (@List.replicate.eq_2.{0})))) (And.intro (And.intro (@List.cons_append.{0}) (And.intro (@List.nil_append.{0}) (@Mini.results.eq_1))) (And.intro (And.intro (@Mini.result.eq_1) (@Mini.result.eq_2)) (And.intro (@Mini.mapO.eq_1) (@Mini.mapO.eq_2)))))) (And.intro (And.intro (And.intro (And.intro (@Mini.byValue.eq_1) (And.intro (@Mini.deepV1.eq_1) (@Mini.deepV1.eq_2))) (And.intro (@Mini.deepV1.eq_3) (And.intro (@Mini.deepC.eq_1) (@Mini.deepC.eq_2)))) (And.intro (And.intro (@Mini.deepC.eq_3) (And.intro (@Mini.deepC.eq_4) (@Mini.deepC.eq_5))) (And.intro (And.intro (@Mini.V.flat.eq_1) (@Mini.V.flat.eq_2)) (And.intro (@Mini.V.flat1.eq_1) (@Mini.V.flat1.eq_2))))) (And.intro (And.intro (And.intro (@Mini.V.flat1.eq_3) (And.intro (@Mini.C.flat.eq_1) (@Mini.C.flat.eq_2))) (And.intro (@Mini.D.flat.eq_1) (And.intro (@Mini.D.flat.eq_2) (@Mini.D.flat.eq_3)))) (And.intro (And.intro (@Mini.D.flat.eq_4) (And.intro (@bne_self_eq_false.{0}) (@Int.lt_irrefl))) (And.intro (And.intro (@zenv_call) (@beq_self_eq_true.{0})) (And.intro (@List.getElem?_cons_zero.{0}) (@List.getElem?_cons_succ.{0}))))))))
end Mini
end Go.Proofs.YtgjlofpfbhioaaaGreatDoor
namespace Go.Proofs.YtgjlofpfbhioaaaGreatDoor
namespace Mini
open Go

/-- A context that holds the forms, the primitives and the variables. -/
def XOk (m : Int) (X : Ctx) : Prop := CtxLe (XA m) X
theorem XOk.fns {m : Int} {X : Ctx} (h : XOk m X) (k : FuncId) (F : Fn) (hk : fnsA k = some F) : X.fns k = some F := CtxLe.fns (X := XA m) h hk
theorem prim0_none {k : FuncId} {F : Fn} (hk : fnsA k = some F) (vs : List V) : prim0 k vs = none := by
  unfold prim0
  split <;> first | rfl | (exact absurd hk (by simp [fnsA]))
theorem XOk.npr {m : Int} {X : Ctx} (h : XOk m X) (k : FuncId) (F : Fn) (hk : fnsA k = some F) (vs : List V) : X.prim k vs = none := CtxLe.npr (X := XA m) h hk vs (prim0_none hk vs)
theorem XOk.prim {m : Int} {X : Ctx} (h : XOk m X) (k : FuncId) (vs : List V) (r : V) (hk : prim0 k vs = some r) : X.prim k vs = some r := CtxLe.prim (X := XA m) h hk
theorem XOk.run {m : Int} {X : Ctx} (h : XOk m X) {n n' : Nat} {f : FuncId} {vs : List V} {r : V} (hr : vcallN (XA m) n f vs = some r) (hn : n ≤ n') : vcallN X n' f vs = some r := vcallN_le h hn hr
theorem XOk.fn {m : Int} {X : Ctx} (h : XOk m X) {k : FuncId} {F : Fn} (hk : fnsA k = some F) {n : Nat} {args : List V} {H : Heap} : callN X (n + 1) (.d (.fn k [] [])) args H = runFn (zenv X n) n F args H := callN_fn (h.fns _ _ hk)
theorem XOk.vc {m : Int} {X : Ctx} (h : XOk m X) {k : FuncId} {F : Fn} (hk : fnsA k = some F) {n : Nat} {vs : List V} {r : V} (hr : vcallN X n k vs = some r) : (zenv X n).vcall k vs = some r := zenv_vcall (h.npr _ _ hk vs) hr
theorem XOk.pc {m : Int} {X : Ctx} (h : XOk m X) {k : FuncId} {n : Nat} {vs : List V} {r : V} (hr : prim0 k vs = some r) : (zenv X n).vcall k vs = some r := zenv_prim (h.prim _ _ _ hr)

/-- The first number with a property, or none below n. -/
theorem first_lt (p : Nat → Prop) [DecidablePred p] : ∀ n : Nat, (∀ j, j < n → ¬ p j) ∨ ∃ k, k < n ∧ p k ∧ ∀ j, j < k → ¬ p j
  | 0 => .inl (fun j h => absurd h (Nat.not_lt_zero j))
  | n + 1 => by
    rcases first_lt p n with h | ⟨k, h1, h2, h3⟩
    · by_cases hp : p n
      · exact .inr ⟨n, Nat.lt_succ_self n, hp, h⟩
      · left
        intro j hj
        rcases Nat.lt_succ_iff_lt_or_eq.1 hj with h4 | rfl
        · exact h j h4
        · exact hp
    · exact .inr ⟨k, Nat.lt_succ_of_lt h1, h2, h3⟩
/-- A loop that searches. -/
theorem iter_scan {js : Option (List Nat)} {hl : Nat} {body : St → Option (Ex × St)} (p : Nat → Prop) [DecidablePred p] (n : Nat) (R : Nat → St) {b : Nat} {s1 : St} {s2 : Nat → St} {fuel : Nat} (hf : n < fuel)
    (hround : ∀ j, j < n → ¬ p j → ∃ s', body (R j) = some (.nrm, s') ∧ tidy hl js s' = R (j + 1))
    (hend : body (R n) = some (.exit b, s1)) (hhit : ∀ k, k < n → p k → body (R k) = some (.ret, s2 k)) :
    ((∀ j, j < n → ¬ p j) ∧ iter js hl body fuel (R 0) = some (.exit b, s1)) ∨ ∃ k, k < n ∧ p k ∧ (∀ j, j < k → ¬ p j) ∧ iter js hl body fuel (R 0) = some (.ret, s2 k) := by
  rcases first_lt p n with h | ⟨k, h1, h2, h3⟩
  · refine .inl ⟨h, iter_to R (by simp) n 0 fuel (fun j _ hj => hround j (by omega) (h j (by omega))) (by rw [Nat.zero_add]; exact hend) hf⟩
  · refine .inr ⟨k, h1, h2, h3, iter_to R (by simp) k 0 fuel (fun j _ hj => hround j (by omega) (h3 j (by omega))) (by rw [Nat.zero_add]; exact hhit k h1 h2) (by omega)⟩

/-! ### Rows of numbers -/
def slU (l : List Nat) : V := .c (.d (.sl (l.map u32D) l.length))
def cmp1 (x y : Nat) : Int := if x < y then -1 else if y < x then 1 else 0
def cmpL : List Nat → List Nat → Int
  | [], [] => 0
  | [], _ :: _ => -1
  | _ :: _, [] => 1
  | x :: a, y :: b => if cmp1 x y ≠ 0 then cmp1 x y else cmpL a b
variable {m : Int} {X : Ctx}
theorem f135 (hX : XOk m X) {N : Nat} (hN : 1 ≤ N) (x : Nat) : vcallN X N 135 [.c (.d (u32D x))] = some (bl false) := by
  obtain ⟨N, rfl⟩ : ∃ M, N = M + 1 := ⟨N - 1, by omega⟩
  refine vcall_of (r := bl false) (H := []) ?_ rfl
  rw [hX.fn (F := fn135) rfl]
  refine (rf_fin _ _ _ _ _ _ _ _ _ (by rfl)).trans ?_
  simp only [u32D, evs, Nat.reduceSub]
theorem f109 (hX : XOk m X) {N : Nat} (hN : 2 ≤ N) (x y : Nat) : vcallN X N 109 [.c (.d (u32D x)), .c (.d (u32D y))] = some (i64 (cmp1 x y)) := by
  obtain ⟨N, rfl⟩ : ∃ M, N = M + 1 := ⟨N - 1, by omega⟩
  refine vcall_of (r := i64 (cmp1 x y)) (H := []) ?_ rfl
  rw [hX.fn (F := fn109) rfl]
  refine (rf_fin _ _ _ _ _ _ _ _ _ (by rfl)).trans ?_
  have h1 := hX.vc (k := 135) (F := fn135) rfl (f135 hX (N := N) (by omega) x)
  have h2 := hX.vc (k := 135) (F := fn135) rfl (f135 hX (N := N) (by omega) y)
  simp only [u32D, bl] at h1 h2
  by_cases c1 : (x : Int) < y
  · have : cmp1 x y = -1 := by unfold cmp1; rw [if_pos (by omega)]
    simp only [u32D, h1, h2, c1, this, evs, Nat.reduceAdd, Nat.reduceSub]
  by_cases c2 : (x : Int) > y
  · have : cmp1 x y = 1 := by unfold cmp1; rw [if_neg (by omega), if_pos (by omega)]
    simp only [u32D, h1, h2, c1, c2, this, evs, Nat.reduceAdd, Nat.reduceSub]
  · have : cmp1 x y = 0 := by unfold cmp1; rw [if_neg (by omega), if_neg (by omega)]
    simp only [u32D, h1, h2, c1, c2, this, evs, Nat.reduceAdd, Nat.reduceSub]

/-! ### The comparison of two rows -/
def c1L (a b : List Nat) (i : Nat) : Bool := decide (b.length ≤ i) || decide (cmp1 (a.getD i 0) (b.getD i 0) ≠ 0)
theorem cmpL_go (a b : List Nat) : ∀ i, i ≤ a.length → i ≤ b.length → (∀ j, j < i → c1L a b j = false) → cmpL a b = cmpL (a.drop i) (b.drop i)
  | 0, _, _, _ => by simp
  | i + 1, h1, h2, h => by
    rw [cmpL_go a b i (by omega) (by omega) (fun j hj => h j (by omega))]
    have h3 := h i (by omega)
    simp only [c1L, Bool.or_eq_false_iff, decide_eq_false_iff_not, Decidable.not_not] at h3
    rw [List.drop_eq_getElem_cons (by omega : i < a.length), List.drop_eq_getElem_cons (by omega : i < b.length)]
    rw [List.getD_eq_getElem?_getD, List.getD_eq_getElem?_getD, List.getElem?_eq_getElem (by omega : i < a.length), List.getElem?_eq_getElem (by omega : i < b.length)] at h3
    simp only [Option.getD_some] at h3
    rw [cmpL, if_neg (by rw [h3.2]; simp)]
theorem cmpL_end (a b : List Nat) (h : ∀ j, j < a.length → c1L a b j = false) : a.length ≤ b.length ∧ cmpL a b = if a.length < b.length then -1 else 0 := by
  have hl : a.length ≤ b.length := by
    cases hc : a.length with
    | zero => exact Nat.zero_le _
    | succ n =>
      have := h n (by omega)
      simp only [c1L, Bool.or_eq_false_iff, decide_eq_false_iff_not] at this
      omega
  refine ⟨hl, ?_⟩
  rw [cmpL_go a b a.length (Nat.le_refl _) hl h, List.drop_length]
  by_cases hlt : a.length < b.length
  · rw [if_pos hlt, List.drop_eq_getElem_cons hlt]; rfl
  · rw [if_neg hlt, List.drop_of_length_le (by omega)]; rfl
theorem cmpL_hit (a b : List Nat) (k : Nat) (hk : k < a.length) (h : ∀ j, j < k → c1L a b j = false) (hc : c1L a b k = true) : cmpL a b = if b.length ≤ k then 1 else cmp1 (a.getD k 0) (b.getD k 0) := by
  have hl : k ≤ b.length := by
    cases hc : k with
    | zero => exact Nat.zero_le _
    | succ n =>
      have := h n (by omega)
      simp only [c1L, Bool.or_eq_false_iff, decide_eq_false_iff_not] at this
      omega
  rw [cmpL_go a b k (by omega) hl h, List.drop_eq_getElem_cons hk]
  by_cases hb : b.length ≤ k
  · rw [if_pos hb, List.drop_of_length_le hb]; rfl
  · rw [if_neg hb, List.drop_eq_getElem_cons (by omega : k < b.length)]
    simp only [c1L, hb, decide_false, Bool.false_or, decide_eq_true_eq] at hc
    rw [List.getD_eq_getElem?_getD, List.getD_eq_getElem?_getD, List.getElem?_eq_getElem hk, List.getElem?_eq_getElem (by omega : k < b.length)] at hc ⊢
    simp only [Option.getD_some] at hc ⊢
    rw [cmpL, if_pos hc]
theorem u32_at (l : List Nat) (i : Nat) (h : i < l.length) : ((l.map u32D).drop i).take 1 = [u32D (l.getD i 0)] := by
  rw [List.drop_eq_getElem_cons (by simpa using h), List.getD_eq_getElem?_getD, List.getElem?_eq_getElem h]
  simp
abbrev R85 (a b : List Nat) (i : Nat) : List V := [slU a, slU b, .any, .any, .any, .any, .any, slU a, i64 (a.length : Int), i64 (i : Int), .any, .any, .any, .any]
abbrev S85 (a b : List Nat) (k : Nat) : List V := if b.length ≤ k then [slU a, slU b, i64 1, i64 (k : Int), .c (.d (u32D (a.getD k 0))), .any, .any, slU a, i64 (a.length : Int), i64 (k : Int), bl true, bl true, .any, .any]
  else [slU a, slU b, i64 (cmp1 (a.getD k 0) (b.getD k 0)), i64 (k : Int), .c (.d (u32D (a.getD k 0))), .c (.d (u32D (b.getD k 0))), i64 (cmp1 (a.getD k 0) (b.getD k 0)), slU a, i64 (a.length : Int), i64 (k : Int), bl true, bl false, bl true, .any]
theorem f85 (hX : XOk m X) {N : Nat} {a b : List Nat} (hN : a.length + 4 ≤ N) (ha : a.length < 1000) : vcallN X N 85 [slU a, slU b] = some (i64 (cmpL a b)) := by
  obtain ⟨N, rfl⟩ : ∃ M, N = M + 1 := ⟨N - 1, by omega⟩
  have hF : fnsA 85 = some fn85' := rfl
  refine vcall_of (r := i64 (cmpL a b)) (H := []) ?_ rfl
  rw [hX.fn hF]
  refine (rf_fin _ _ _ _ _ _ _ _ _ (by rfl)).trans ?_
  have hc : ∀ x y, (zenv X N).vcall 109 [.c (.d (u32D x)), .c (.d (u32D y))] = some (i64 (cmp1 x y)) := fun x y => hX.vc (k := 109) (F := fn109) rfl (f109 hX (N := N) (by omega) x y)
  simp only [u32D, i64] at hc
  have hsc := iter_scan (js := some [0, 1, 7, 8, 9]) (hl := 0) (body := exec (zenv X N) N false fn85L0) (fun j => c1L a b j = true) a.length (fun i => ⟨R85 a b i, []⟩) (b := 0) (s1 := ⟨[slU a, slU b, .any, .any, .any, .any, .any, slU a, i64 (a.length : Int), i64 (a.length : Int), bl false, .any, .any, .any], []⟩) (s2 := fun k => ⟨S85 a b k, []⟩) (fuel := N) (by omega)
    (by
      intro j hj hp
      simp only [c1L, Bool.or_eq_true, decide_eq_true_eq, not_or, Decidable.not_not, Nat.not_le] at hp
      have h1 : (j : Int) < (a.length : Int) := by omega
      have h2 := u32_at a j hj
      have h3 := u32_at b j hp.1
      have h4 : ¬ (j : Int) ≥ (b.length : Int) := by omega
      have h5 := wrap_succ (k := j) (by omega)
      have h6 := hc (a.getD j 0) (b.getD j 0)
      rw [hp.2] at h6
      simp only [u32D] at h2 h3
      refine ⟨⟨[slU a, slU b, .any, i64 (j : Int), .c (.d (u32D (a.getD j 0))), .c (.d (u32D (b.getD j 0))), i64 0, slU a, i64 (a.length : Int), i64 ((j + 1 : Nat) : Int), bl true, bl false, bl false, .any], []⟩, ?_, gc_le (Nat.le_refl 0)⟩
      simp only [fn85L0, slU, u32D, h1, h2, h3, h4, h5, h6, hj, hp.1, List.length_map, List.map_cons, List.map_nil, ↓sp_len, ↓sp_ixa, evs])
    (by simp only [fn85L0, evs])
    (by
      intro k hk hp
      have h1 : (k : Int) < (a.length : Int) := by omega
      have h2 := u32_at a k hk
      simp only [u32D] at h2
      by_cases hb : b.length ≤ k
      · have h4 : (k : Int) ≥ (b.length : Int) := by omega
        simp only [fn85L0, S85, slU, u32D, h1, h2, h4, hk, hb, List.length_map, List.map_cons, List.map_nil, ↓sp_len, ↓sp_ixa, evs]
      · have h3 := u32_at b k (by omega)
        have h4 : ¬ (k : Int) ≥ (b.length : Int) := by omega
        have hb2 : k < b.length := by omega
        have h6 := hc (a.getD k 0) (b.getD k 0)
        simp only [u32D] at h3
        simp only [c1L, hb, decide_false, Bool.false_or, decide_eq_true_eq] at hp
        have h7 : (cmp1 (a.getD k 0) (b.getD k 0) != 0) = true := by simpa using hp
        simp only [fn85L0, S85, slU, u32D, h1, h2, h3, h4, h6, h7, hk, hb, hb2, List.length_map, List.map_cons, List.map_nil, ↓sp_len, ↓sp_ixa, evs])
  simp only [R85, S85, i64, bl, Int.natCast_zero, slU] at hsc
  rcases hsc with ⟨hno, hit⟩ | ⟨k, hk, hp, hno, hit⟩
  · obtain ⟨h8, h9⟩ := cmpL_end a b (fun j hj => Bool.eq_false_iff.2 (hno j hj))
    rw [h9]
    by_cases hlt : a.length < b.length
    · have h10 : (a.length : Int) < (b.length : Int) := by omega
      simp only [slU, hit, hlt, h10, ↓sp_len, evs, Nat.reduceAdd, Nat.reduceBEq, Nat.reduceSub]
    · have h10 : ¬ (a.length : Int) < (b.length : Int) := by omega
      simp only [slU, hit, hlt, h10, ↓sp_len, evs, Nat.reduceAdd, Nat.reduceBEq, Nat.reduceSub]
  · have h9 := cmpL_hit a b k hk (fun j hj => Bool.eq_false_iff.2 (hno j hj)) hp
    rw [h9]
    by_cases hb : b.length ≤ k
    · simp only [hb, if_true] at hit
      simp only [slU, hit, hb, ↓sp_len, evs, Nat.reduceAdd, Nat.reduceBEq, Nat.reduceSub]
    · simp only [hb, if_false] at hit
      simp only [slU, hit, hb, ↓sp_len, evs, Nat.reduceAdd, Nat.reduceBEq, Nat.reduceSub]
end Mini
end Go.Proofs.YtgjlofpfbhioaaaGreatDoor
namespace Go.Proofs.YtgjlofpfbhioaaaGreatDoor
namespace Mini
open Go
variable {m : Int} {X : Ctx}
def arcsO (o : Oid) : List Nat := o.2.take o.1
theorem arcsO_len {o : Oid} (h : wfO o) : (arcsO o).length = min o.1 16 := by simp [arcsO, h.2.1]
theorem mapO_d (H : Heap) (k : Nat) : ∀ ds : List D, mapO (deepC H k) (ds.map .d) = some ds
  | [] => rfl
  | x :: ds => by
    have h1 : deepC H k (.d x) = some x := by cases k <;> rfl
    simp only [List.map_cons, mapO, h1, mapO_d H k ds]
theorem oC_arcs {o : Oid} (h : wfO o) : ((oC o).drop 1).take (min o.1 16 * 1) = ((arcsO o).map u32D).map .d := by
  have : (oC o).drop 1 = (o.2.map u32D).map .d := rfl
  rw [this, Nat.mul_one, arcsO, ← List.map_take, ← List.map_take]
  congr 2
  rw [← h.2.1, List.take_eq_take_iff]
  omega
theorem deep_arcs {H : Heap} {id : Nat} {o : Oid} {f : Bool} {c : Option Nat} (h : wfO o) (hH : ob? H id = some (.cells (oC o) 0 f)) : deepC H deepMax (.os id 0 1 (min o.1 16) 1 c) = some (.sl ((arcsO o).map u32D) (min o.1 16)) := by
  have hl : 1 + min o.1 16 * 1 ≤ (oC o).length := by rw [oC_len h]; omega
  simp only [deepMax, deepC, hH, if_true, if_pos hl, oC_arcs h, mapO_d, Option.map_some]
theorem f86 (hX : XOk m X) {N : Nat} (hN : 1 ≤ N) {o : Oid} (h : wfO o) {H : Heap} {id : Nat} {f : Bool} (hH : H[id]? = some (.cells (oC o) 0 f)) : callN X N (.d (.fn 86 [] [])) [.c (.ptr id 0 0)] H = some (.c (.os id 0 1 (min o.1 16) 1 (some 16)), H) := by
  obtain ⟨N, rfl⟩ : ∃ M, N = M + 1 := ⟨N - 1, by omega⟩
  rw [hX.fn (F := fn86) rfl]
  refine (rf_fin _ _ _ _ _ _ _ _ _ (by rfl)).trans ?_
  have h0 := oC_n (o := o)
  have h1 : IntKind.i64.wrap (o.1 : Int) = (o.1 : Int) := wrap_nat (by have := h.1; omega)
  have h2 : (if (16 : Int) < (o.1 : Int) then (16 : Int) else (o.1 : Int)) = ((min o.1 16 : Nat) : Int) := by
    by_cases c : (16 : Int) < (o.1 : Int)
    · rw [if_pos c]; omega
    · rw [if_neg c]; omega
  have hl := oC_len h
  have h3 : min o.1 16 ≤ 16 := Nat.min_le_right _ _
  simp only [hH, h0, h1, h2, h3, hl, optNat, Option.map_none, Nat.zero_le, Nat.le_refl, Nat.sub_zero, evs, Nat.reduceAdd, Nat.reduceSub]
/-- Comparing two OIDs. -/
def cmpO (a b : Oid) : Int := cmpL (arcsO a) (arcsO b)
theorem f54 (hX : XOk m X) {N : Nat} (hN : 30 ≤ N) {a b : Oid} (ha : wfO a) (hb : wfO b) : vcallN X N 54 [.agg (oC a), .agg (oC b)] = some (i64 (cmpO a b)) := by
  obtain ⟨N, rfl⟩ : ∃ M, N = M + 1 := ⟨N - 1, by omega⟩
  refine vcall_of (r := i64 (cmpO a b)) (H := [.cells (oC a) 0 false, .cells (oC b) 0 false]) ?_ rfl
  rw [hX.fn (F := fn54) rfl]
  refine (rf_fin _ _ _ _ _ _ _ _ _ (by rfl)).trans ?_
  have hla := arcsO_len ha
  have hlb := arcsO_len hb
  have h1 := f86 hX (N := N) (by omega) ha (H := [.cells (oC a) 0 false, .cells (oC b) 0 false]) (id := 0) rfl
  have h2 := f86 hX (N := N) (by omega) hb (H := [.cells (oC a) 0 false, .cells (oC b) 0 false]) (id := 1) rfl
  have h3 := deep_arcs ha (H := [.cells (oC a) 0 false, .cells (oC b) 0 false]) (id := 0) (c := some 16) rfl
  have h4 := deep_arcs hb (H := [.cells (oC a) 0 false, .cells (oC b) 0 false]) (id := 1) (c := some 16) rfl
  have h5 := hX.vc (k := 85) (F := fn85) rfl (f85 hX (N := N) (a := arcsO a) (b := arcsO b) (by omega) (by omega))
  simp only [slU, hla, hlb, i64] at h5
  simp only [h1, h2, h3, h4, h5, cmpO, List.map_cons, List.map_nil, evs, Nat.reduceAdd, Nat.reduceSub]
end Mini
end Go.Proofs.YtgjlofpfbhioaaaGreatDoor
namespace Go.Proofs.YtgjlofpfbhioaaaGreatDoor
namespace Mini
open Go
variable {m : Int} {X : Ctx}
/-- A loop that searches; what it leaves behind. -/
theorem iter_find {js : Option (List Nat)} {hl : Nat} {body : St → Option (Ex × St)} (p : Nat → Prop) [DecidablePred p] (n : Nat) (R : Nat → St) {b : Nat} {s1 : St} {Q : Nat → St → Prop} {fuel : Nat} (hf : n < fuel)
    (hround : ∀ j, j < n → ¬ p j → ∃ s', body (R j) = some (.nrm, s') ∧ tidy hl js s' = R (j + 1))
    (hend : body (R n) = some (.exit b, s1)) (hhit : ∀ k, k < n → p k → ∃ s', body (R k) = some (.ret, s') ∧ Q k s') :
    ((∀ j, j < n → ¬ p j) ∧ iter js hl body fuel (R 0) = some (.exit b, s1)) ∨ ∃ k s', k < n ∧ p k ∧ (∀ j, j < k → ¬ p j) ∧ Q k s' ∧ iter js hl body fuel (R 0) = some (.ret, s') := by
  rcases first_lt p n with h | ⟨k, h1, h2, h3⟩
  · refine .inl ⟨h, iter_to R (by simp) n 0 fuel (fun j _ hj => hround j (by omega) (h j (by omega))) (by rw [Nat.zero_add]; exact hend) hf⟩
  · obtain ⟨s', h4, h5⟩ := hhit k h1 h2
    exact .inr ⟨k, s', h1, h2, h3, h5, iter_to R (by simp) k 0 fuel (fun j _ hj => hround j (by omega) (h3 j (by omega))) (by rw [Nat.zero_add]; exact h4) (by omega)⟩
/-- The first error of n. -/
def firstE (f : Nat → Nat) : Nat → Nat
  | 0 => 0
  | n + 1 => if firstE f n ≠ 0 then firstE f n else f n
theorem firstE_none (f : Nat → Nat) : ∀ n, (∀ j, j < n → ¬ f j ≠ 0) → firstE f n = 0
  | 0, _ => rfl
  | n + 1, h => by
    rw [firstE, firstE_none f n (fun j hj => h j (by omega)), if_neg (by simp)]
    exact Decidable.not_not.1 (h n (by omega))
theorem firstE_hit (f : Nat → Nat) {k : Nat} (hk : f k ≠ 0) (h : ∀ j, j < k → ¬ f j ≠ 0) : ∀ n, k < n → firstE f n = f k
  | 0, h0 => absurd h0 (Nat.not_lt_zero k)
  | n + 1, h0 => by
    rcases Nat.lt_succ_iff_lt_or_eq.1 h0 with h1 | rfl
    · rw [firstE, firstE_hit f hk h n h1, if_pos hk]
    · rw [firstE, firstE_none f k h, if_neg (by simp)]

def o0 : Oid := (0, List.replicate 16 0)
def slO (l : List Oid) : D := .sl (l.flatMap oD) l.length
/-- A value of a slice of OIDs: nil, or not. -/
def isSet (w : D) (l : List Oid) : Prop := w = .nils ∧ l = [] ∨ w = slO l
def wfS (l : List Oid) : Prop := ∀ o ∈ l, wfO o
theorem wfS.at {l : List Oid} (h : wfS l) {i : Nat} (hi : i < l.length) : wfO (l.getD i o0) := by
  rw [List.getD_eq_getElem?_getD, List.getElem?_eq_getElem hi]
  exact h _ (List.getElem_mem hi)
theorem isSet.len {w : D} {l : List Oid} (h : isSet w l) : lenc (.c (.d w)) = some (.c (.d (.int .i64 (l.length : Int))), []) := by
  rcases h with ⟨rfl, rfl⟩ | rfl <;> rfl
theorem flatO_len {l : List Oid} (h : wfS l) : (l.flatMap oD).length = l.length * 17 := by
  induction l with
  | nil => rfl
  | cons o l ih => rw [List.flatMap_cons, List.length_append, oD_len (h o List.mem_cons_self), ih (fun x hx => h x (List.mem_cons_of_mem _ hx)), List.length_cons]; omega
theorem flatO_at : ∀ {l : List Oid} (_ : wfS l) {i : Nat} (_ : i < l.length), ((l.flatMap oD).drop (i * 17)).take 17 = oD (l.getD i o0)
  | o :: l, h, 0, _ => by
    rw [List.flatMap_cons, Nat.zero_mul, List.drop_zero, List.take_append_of_le_length (by rw [oD_len (h o List.mem_cons_self)]; exact Nat.le_refl _), List.take_of_length_le (by rw [oD_len (h o List.mem_cons_self)]; exact Nat.le_refl _)]
    rfl
  | o :: l, h, i + 1, hi => by
    have h1 := oD_len (h o List.mem_cons_self)
    have : (i + 1) * 17 = (oD o).length + i * 17 := by rw [h1]; omega
    rw [List.flatMap_cons, this, ← List.drop_drop, List.drop_left]
    exact flatO_at (fun x hx => h x (List.mem_cons_of_mem _ hx)) (by simpa using hi)
theorem isSet.at {w : D} {l : List Oid} (h : isSet w l) (hl : wfS l) {i : Nat} (hi : i < l.length) : ixac 17 i (.c (.d w)) = some (.c (.d (.ip ((l.flatMap oD).drop (i * 17)))), []) := by
  rcases h with ⟨rfl, rfl⟩ | rfl
  · cases hi
  · rw [slO, ixac, if_pos ⟨hi, by rw [flatO_len hl]; omega⟩]
theorem isSet.elems {w : D} {l : List Oid} (h : isSet w l) (hl : wfS l) (H : Heap) : elems H 17 (.c (.d w)) = some (l.length, (l.flatMap oD).map .d) := by
  rcases h with ⟨rfl, rfl⟩ | rfl
  · rfl
  · simp only [slO, Mini.elems, if_pos (flatO_len hl)]

/-! ### The check of a set -/
def errAt (l : List Oid) (i : Nat) : Nat :=
  if chkO (l.getD i o0) ≠ 0 then chkO (l.getD i o0)
  else if i = 0 then 0
  else if cmpO (l.getD (i - 1) o0) (l.getD i o0) = 0 then 14
  else if cmpO (l.getD (i - 1) o0) (l.getD i o0) > 0 then 13 else 0
def chkS (l : List Oid) : Nat := if 256 < l.length then 3 else firstE (errAt l) l.length
abbrev R19 (w : D) (l : List Oid) (i : Nat) : List V := [.c (.d w), .any, .any, .any, .any, .any, .any, .c (.d w), i64 (l.length : Int), i64 (i : Int), .any, .any, .any, .any, .any]
theorem f19 (hX : XOk m X) {N : Nat} (hN : 300 ≤ N) {w : D} {l : List Oid} (hw : isSet w l) (hl : wfS l) (hlen : l.length < 1000000) : vcallN X N 19 [.c (.d w)] = some (i64 (chkS l)) := by
  obtain ⟨N, rfl⟩ : ∃ M, N = M + 1 := ⟨N - 1, by omega⟩
  have hF : fnsA 19 = some fn19' := rfl
  suffices h : ∃ H, callN X (N + 1) (.d (.fn 19 [] [])) [.c (.d w)] [] = some (i64 (chkS l), H) by
    obtain ⟨H, h⟩ := h
    exact vcall_of h rfl
  rw [hX.fn hF]
  have hlw := hw.len
  by_cases c0 : (l.length : Int) > 256
  · refine ⟨[], (rf_fin _ _ _ _ _ _ _ _ _ (by rfl)).trans ?_⟩
    have : chkS l = 3 := by unfold chkS; rw [if_pos (by omega)]
    simp only [hlw, c0, this, Int.cast_ofNat_Int, ↓sp_len, evs, Nat.reduceSub]
  have hd : ∀ o : Oid, List.map C.d (oD o) = oC o := fun _ => rfl
  have hm : ∀ (H : Heap) (o : Oid), mapO (deepC H deepMax) (oC o) = some (oD o) := fun H o => mapO_d H _ _
  have hc : ∀ o, wfO o → (zenv X N).vcall 53 [.agg (oC o)] = some (i64 (chkO o)) := fun o ho => hX.vc (k := 53) (F := fn53) rfl (chkO_ok (hX.fns _ _ rfl) ho (by omega))
  have hcm : ∀ a b, wfO a → wfO b → (zenv X N).vcall 54 [.agg (oC a), .agg (oC b)] = some (i64 (cmpO a b)) := fun a b ha hb => hX.vc (k := 54) (F := fn54) rfl (f54 hX (by omega) ha hb)
  simp only [i64] at hc hcm
  have hsc := iter_find (js := some [0, 7, 8, 9]) (hl := 0) (body := exec (zenv X N) N false fn19L0) (fun j => errAt l j ≠ 0) l.length (fun i => ⟨R19 w l i, []⟩) (b := 0) (s1 := ⟨[.c (.d w), .any, .any, .any, .any, .any, .any, .c (.d w), i64 (l.length : Int), i64 (l.length : Int), bl false, .any, .any, .any, .any], []⟩) (Q := fun k s => nth s.regs 1 = i64 (errAt l k) ∧ s.regs.length = 15) (fuel := N) (by omega)
    (by
      intro j hj hp
      have ho := hl.at hj
      have h1 := hw.at hl hj
      have h2 := flatO_at hl hj
      have h3 := hc _ ho
      have h4 : (j : Int) < (l.length : Int) := by omega
      have h5 := wrap_succ (k := j) (by omega)
      have h6 := oC_len ho
      generalize ho' : l.getD j o0 = o at *
      have hz : chkO o = 0 := by
        unfold errAt at hp; rw [ho'] at hp
        by_cases hz : chkO o = 0
        · exact hz
        · rw [if_pos hz] at hp; exact absurd hz hp
      simp only [hz, Int.natCast_zero] at h3
      by_cases hj0 : j = 0
      · have h7 : ((j : Int) == 0) = true := by subst hj0; rfl
        refine ⟨⟨[.c (.d w), .any, i64 (j : Int), .c (.ptr 0 0 0), i64 0, .any, .any, .c (.d w), i64 (l.length : Int), i64 ((j + 1 : Nat) : Int), bl true, bl false, bl true, .any, .any], [.cells (oC o) 0 false]⟩, ?_, gc_yes rfl rfl⟩
        simp only [fn19L0, ob?, h1, h2, h3, h4, h5, h6, h7, hd, hm, List.drop_zero, List.take_of_length_le (Nat.le_of_eq h6), ↓sp_ixa, evs]
      · have h7 : ((j : Int) == 0) = false := by rw [beq_eq_false_iff_ne]; omega
        have h8 : IntKind.i64.wrap ((j : Int) - 1) = ((j - 1 : Nat) : Int) := by rw [← wrap_nat (k := j - 1) (by omega)]; congr 1; omega
        have hp9 : wfO (l.getD (j - 1) o0) := hl.at (by omega)
        have h9 := hw.at hl (i := j - 1) (by omega)
        have h10 := flatO_at hl (i := j - 1) (by omega)
        have h11 := hcm _ _ hp9 ho
        have h12 := oC_len hp9
        unfold errAt at hp
        rw [ho', if_neg (by rw [hz]; simp), if_neg hj0] at hp
        generalize l.getD (j - 1) o0 = q at *
        generalize cmpO q o = c at *
        have hq : c < 0 := by
          by_cases c1 : c = 0
          · rw [if_pos c1] at hp; simp at hp
          rw [if_neg c1] at hp
          by_cases c2 : c > 0
          · rw [if_pos c2] at hp; simp at hp
          · omega
        have h13 : (c == 0) = false := by rw [beq_eq_false_iff_ne]; omega
        have h14 : ¬ c > 0 := by omega
        refine ⟨⟨[.c (.d w), .any, i64 (j : Int), .c (.ptr 0 0 0), i64 0, i64 c, .any, .c (.d w), i64 (l.length : Int), i64 ((j + 1 : Nat) : Int), bl true, bl false, bl false, bl false, bl false], [.cells (oC o) 0 false]⟩, ?_, gc_yes rfl rfl⟩
        simp only [fn19L0, ob?, h1, h2, h3, h4, h5, h6, h7, h8, h9, h10, h11, h12, h13, h14, hd, hm, List.drop_zero, List.take_of_length_le (Nat.le_of_eq h6), ↓sp_ixa, evs])
    (by simp only [fn19L0, evs])
    (by
      intro j hj hp
      have ho := hl.at hj
      have h1 := hw.at hl hj
      have h2 := flatO_at hl hj
      have h3 := hc _ ho
      have h4 : (j : Int) < (l.length : Int) := by omega
      have h6 := oC_len ho
      unfold errAt at hp ⊢
      generalize l.getD j o0 = o at *
      by_cases hz : chkO o = 0
      · simp only [hz, Int.natCast_zero] at h3
        rw [if_neg (by rw [hz]; simp)] at hp ⊢
        have hj0 : ¬ j = 0 := fun h => by rw [if_pos h] at hp; exact hp rfl
        rw [if_neg hj0] at hp ⊢
        have h7 : ((j : Int) == 0) = false := by rw [beq_eq_false_iff_ne]; omega
        have h8 : IntKind.i64.wrap ((j : Int) - 1) = ((j - 1 : Nat) : Int) := by rw [← wrap_nat (k := j - 1) (by omega)]; congr 1; omega
        have hp9 : wfO (l.getD (j - 1) o0) := hl.at (by omega)
        have h9 := hw.at hl (i := j - 1) (by omega)
        have h10 := flatO_at hl (i := j - 1) (by omega)
        have h11 := hcm _ _ hp9 ho
        have h12 := oC_len hp9
        generalize l.getD (j - 1) o0 = q at *
        generalize cmpO q o = c at *
        by_cases c1 : c = 0
        · subst c1
          have h13 : ((0 : Int) == 0) = true := rfl
          rw [if_pos rfl]
          refine ⟨⟨[.c (.d w), i64 14, i64 (j : Int), .c (.ptr 0 0 0), i64 0, i64 0, .any, .c (.d w), i64 (l.length : Int), i64 (j : Int), bl true, bl false, bl false, bl true, .any], [.cells (oC o) 0 false]⟩, ?_, rfl, rfl⟩
          simp only [fn19L0, ob?, h1, h2, h3, h4, h6, h7, h8, h9, h10, h11, h12, h13, hd, hm, List.drop_zero, List.take_of_length_le (Nat.le_of_eq h6), ↓sp_ixa, evs]
        · rw [if_neg c1] at hp ⊢
          have c2 : c > 0 := Decidable.byContradiction fun h => by rw [if_neg h] at hp; exact hp rfl
          have h13 : (c == 0) = false := by rw [beq_eq_false_iff_ne]; omega
          rw [if_pos c2]
          refine ⟨⟨[.c (.d w), i64 13, i64 (j : Int), .c (.ptr 0 0 0), i64 0, i64 c, .any, .c (.d w), i64 (l.length : Int), i64 (j : Int), bl true, bl false, bl false, bl false, bl true], [.cells (oC o) 0 false]⟩, ?_, rfl, rfl⟩
          simp only [fn19L0, ob?, h1, h2, h3, h4, h6, h7, h8, h9, h10, h11, h12, h13, c2, hd, hm, List.drop_zero, List.take_of_length_le (Nat.le_of_eq h6), ↓sp_ixa, evs]
      · rw [if_pos hz]
        have h7 : ((chkO o : Int) != 0) = true := by rw [bne_iff_ne]; omega
        refine ⟨⟨[.c (.d w), i64 (chkO o), i64 (j : Int), .c (.ptr 0 0 0), i64 (chkO o), .any, .any, .c (.d w), i64 (l.length : Int), i64 (j : Int), bl true, bl true, .any, .any, .any], [.cells (oC o) 0 false]⟩, ?_, rfl, rfl⟩
        simp only [fn19L0, ob?, h1, h2, h3, h4, h6, h7, hd, hm, List.drop_zero, List.take_of_length_le (Nat.le_of_eq h6), ↓sp_ixa, evs])
  have hck : chkS l = firstE (errAt l) l.length := by unfold chkS; rw [if_neg (by omega)]
  simp only [R19, i64, bl, Int.natCast_zero] at hsc
  rcases hsc with ⟨hno, hit⟩ | ⟨k, s', hk, hp, hno, ⟨hq, hq2⟩, hit⟩
  · rw [hck, firstE_none _ _ hno]
    refine ⟨[], (rf_fin _ _ _ _ _ _ _ _ _ (by rfl)).trans ?_⟩
    simp only [hlw, c0, hit, Int.natCast_zero, ↓sp_len, evs, Nat.reduceAdd, Nat.reduceBEq, Nat.reduceSub]
  · rw [hck, firstE_hit _ hp hno _ hk]
    refine ⟨s'.heap, (rf_fin _ _ _ _ _ _ _ _ _ (by rfl)).trans ?_⟩
    obtain ⟨r, H⟩ := s'
    simp only [] at hq
    simp only [hlw, c0, hit, hq, ↓sp_len, evs, Nat.reduceAdd, Nat.reduceBEq, Nat.reduceSub]
end Mini
end Go.Proofs.YtgjlofpfbhioaaaGreatDoor
namespace Go.Proofs.YtgjlofpfbhioaaaGreatDoor
namespace Mini
open Go
variable {m : Int} {X : Ctx}
def anyO : Oid := (5, [2, 5, 29, 32, 0, 0, 0, 0, 0, 0, 0, 0, 0, 0, 0, 0])
theorem any_run (m : Int) : vcallN (XA m) 40 83 [] = some (.agg (oC anyO)) := by
  rw [← vcallF_eq]
  kernel_rfl
theorem any2_run (m : Int) : vcallN (XA m) 40 51 [] = some (.agg (oC anyO)) := by
  rw [← vcallF_eq]
  kernel_rfl
theorem wf_any : wfO anyO := by unfold wfO anyO; decide
theorem f83 (hX : XOk m X) {N : Nat} (hN : 40 ≤ N) : vcallN X N 83 [] = some (.agg (oC anyO)) := hX.run (any_run m) hN
theorem f51 (hX : XOk m X) {N : Nat} (hN : 40 ≤ N) : vcallN X N 51 [] = some (.agg (oC anyO)) := hX.run (any2_run m) hN
theorem eqInts_cons (k : IntKind) (a b : Int) (xs ys : List C) (r : Bool) (h : eqInts xs ys = some r) : eqInts (.d (.int k a) :: xs) (.d (.int k b) :: ys) = some (a == b && r) := by
  rw [eqInts, if_pos rfl, h]
theorem beq_dec (x y : Nat) : ((x : Int) == (y : Int)) = decide (x = y) := by
  rw [Bool.eq_iff_iff, beq_iff_eq, decide_eq_true_eq]
  omega
theorem eqInts_u : ∀ (a b : List Nat), a.length = b.length → eqInts ((a.map u32D).map .d) ((b.map u32D).map .d) = some (decide (a = b))
  | [], [], _ => rfl
  | x :: a, y :: b, h => by
    refine (eqInts_cons .u32 x y _ _ _ (eqInts_u a b (by simpa using h))).trans ?_
    rw [beq_dec, ← Bool.decide_and]
    congr 1
    rw [decide_eq_decide, List.cons.injEq]
  | [], _ :: _, h => by cases h
  | _ :: _, [], h => by cases h
theorem eqO {a b : Oid} (ha : wfO a) (hb : wfO b) : eqInts (oC a) (oC b) = some (decide (a = b)) := by
  refine (eqInts_cons .u8 a.1 b.1 _ _ _ (eqInts_u a.2 b.2 (by rw [ha.2.1, hb.2.1]))).trans ?_
  rw [beq_dec, ← Bool.decide_and]
  congr 1
  rw [decide_eq_decide, Prod.ext_iff]
theorem getD_mem {l : List Oid} {i : Nat} (h : i < l.length) : l.getD i o0 ∈ l := by
  rw [List.getD_eq_getElem?_getD, List.getElem?_eq_getElem h]
  exact List.getElem_mem h
theorem mem_getD {l : List Oid} {o : Oid} (h : o ∈ l) : ∃ i, i < l.length ∧ l.getD i o0 = o := by
  obtain ⟨i, hi, rfl⟩ := List.getElem_of_mem h
  exact ⟨i, hi, by rw [List.getD_eq_getElem?_getD, List.getElem?_eq_getElem hi]; rfl⟩
/-- slices.Index -/
theorem f108 (hX : XOk m X) {N : Nat} {w : D} {l : List Oid} {o : Oid} (hN : l.length + 5 ≤ N) (hw : isSet w l) (hl : wfS l) (ho : wfO o) (hlen : l.length < 1000000) : ∃ z : Int, vcallN X N 108 [.c (.d w), .agg (oC o)] = some (i64 z) ∧ (z ≥ 0 ↔ o ∈ l) := by
  obtain ⟨N, rfl⟩ : ∃ M, N = M + 1 := ⟨N - 1, by omega⟩
  have hF : fnsA 108 = some fn108' := rfl
  suffices h : ∃ (z : Int) (H : Heap), callN X (N + 1) (.d (.fn 108 [] [])) [.c (.d w), .agg (oC o)] [] = some (i64 z, H) ∧ (z ≥ 0 ↔ o ∈ l) by
    obtain ⟨z, H, h, hz⟩ := h
    exact ⟨z, vcall_of h rfl, hz⟩
  rw [hX.fn hF]
  have hlw := hw.len
  have hd : ∀ o : Oid, List.map C.d (oD o) = oC o := fun _ => rfl
  have h6 := oC_len ho
  have hsc := iter_find (js := some [0, 2, 5, 6]) (hl := 1) (body := exec (zenv X N) N false fn108L0) (fun j => o = l.getD j o0) l.length (fun i => ⟨[.c (.d w), .any, .c (.ptr 0 0 0), .any, .any, i64 (l.length : Int), i64 (i : Int), .any, .any], [.cells (oC o) 0 false]⟩) (b := 0) (s1 := ⟨[.c (.d w), .any, .c (.ptr 0 0 0), .any, .any, i64 (l.length : Int), i64 (l.length : Int), bl false, .any], [.cells (oC o) 0 false]⟩) (Q := fun k s => nth s.regs 3 = i64 (k : Int)) (fuel := N) (by omega)
    (by
      intro j hj hp
      have hp2 := hl.at hj
      have h1 := hw.at hl hj
      have h2 := flatO_at hl hj
      have h4 : (j : Int) < (l.length : Int) := by omega
      have h5 := wrap_succ (k := j) (by omega)
      have h7 := oC_len hp2
      have h8 := eqO ho hp2
      rw [decide_eq_false hp] at h8
      refine ⟨⟨[.c (.d w), .any, .c (.ptr 0 0 0), .any, i64 (j : Int), i64 (l.length : Int), i64 ((j + 1 : Nat) : Int), bl true, bl false], [.cells (oC o) 0 false]⟩, ?_, gc_le (Nat.le_refl 1)⟩
      simp only [fn108L0, ob?, h1, h2, h4, h5, h6, h7, h8, hd, List.drop_zero, List.take_of_length_le (Nat.le_of_eq h6), Bool.false_xor, ↓sp_ixa, evs])
    (by simp only [fn108L0, evs])
    (by
      intro j hj hp
      have hp2 := hl.at hj
      have h1 := hw.at hl hj
      have h2 := flatO_at hl hj
      have h4 : (j : Int) < (l.length : Int) := by omega
      have h7 := oC_len hp2
      have h8 := eqO ho hp2
      rw [decide_eq_true hp] at h8
      refine ⟨⟨[.c (.d w), .any, .c (.ptr 0 0 0), i64 (j : Int), i64 (j : Int), i64 (l.length : Int), i64 (j : Int), bl true, bl true], [.cells (oC o) 0 false]⟩, ?_, rfl⟩
      simp only [fn108L0, ob?, h1, h2, h4, h6, h7, h8, hd, List.drop_zero, List.take_of_length_le (Nat.le_of_eq h6), Bool.false_xor, ↓sp_ixa, evs])
  simp only [i64, bl, Int.natCast_zero] at hsc
  rcases hsc with ⟨hno, hit⟩ | ⟨k, s', hk, hp, hno, hq, hit⟩
  · refine ⟨-1, [.cells (oC o) 0 false], (rf_fin _ _ _ _ _ _ _ _ _ (by rfl)).trans ?_, ?_⟩
    · simp only [hlw, hit, ↓sp_len, evs, Nat.reduceAdd, Nat.reduceBEq, Nat.reduceSub]
    · refine ⟨fun h => absurd h (by decide), fun h => ?_⟩
      obtain ⟨i, hi, he⟩ := mem_getD h
      exact absurd he.symm (hno i hi)
  · refine ⟨k, s'.heap, (rf_fin _ _ _ _ _ _ _ _ _ (by rfl)).trans ?_, ⟨fun _ => by rw [hp]; exact getD_mem hk, fun _ => by omega⟩⟩
    obtain ⟨r, H⟩ := s'
    simp only at hq
    simp only [hlw, hit, hq, ↓sp_len, evs, Nat.reduceAdd, Nat.reduceBEq, Nat.reduceSub]
/-- slices.Contains -/
theorem f84 (hX : XOk m X) {N : Nat} {w : D} {l : List Oid} {o : Oid} (hN : l.length + 6 ≤ N) (hw : isSet w l) (hl : wfS l) (ho : wfO o) (hlen : l.length < 1000000) : vcallN X N 84 [.c (.d w), .agg (oC o)] = some (bl (decide (o ∈ l))) := by
  obtain ⟨N, rfl⟩ : ∃ M, N = M + 1 := ⟨N - 1, by omega⟩
  have hF : fnsA 84 = some fn84 := rfl
  obtain ⟨z, h1, hz⟩ := f108 hX (N := N) (by omega) hw hl ho hlen
  have h2 := hX.vc (k := 108) (F := fn108) rfl h1
  refine vcall_of (r := bl (decide (o ∈ l))) (H := [.cells (oC o) 0 false]) ?_ rfl
  rw [hX.fn hF]
  refine (rf_fin _ _ _ _ _ _ _ _ _ (by rfl)).trans ?_
  have hd : ∀ o : Oid, List.map C.d (oD o) = oC o := fun _ => rfl
  have hm : ∀ (H : Heap) (o : Oid), mapO (deepC H deepMax) (oC o) = some (oD o) := fun H o => mapO_d H _ _
  have h6 := oC_len ho
  have h7 : decide (z ≥ 0) = decide (o ∈ l) := by rw [Bool.eq_iff_iff]; simpa using hz
  simp only [i64] at h2
  simp only [ob?, h2, h6, h7, hd, hm, List.drop_zero, List.take_of_length_le (Nat.le_of_eq h6), evs, Nat.reduceAdd, Nat.reduceSub]
/-- Has, of the definition -/
theorem f55 (hX : XOk m X) {N : Nat} {w : D} {l : List Oid} {o : Oid} (hN : l.length + 5 ≤ N) (hw : isSet w l) (hl : wfS l) (ho : wfO o) (hlen : l.length < 1000000) : vcallN X N 55 [.c (.d w), .agg (oC o)] = some (bl (decide (o ∈ l))) := by
  obtain ⟨N, rfl⟩ : ∃ M, N = M + 1 := ⟨N - 1, by omega⟩
  have hF : fnsA 55 = some fn55' := rfl
  suffices h : ∃ (H : Heap), callN X (N + 1) (.d (.fn 55 [] [])) [.c (.d w), .agg (oC o)] [] = some (bl (decide (o ∈ l)), H) by
    obtain ⟨H, h⟩ := h
    exact vcall_of h rfl
  rw [hX.fn hF]
  have hlw := hw.len
  have hd : ∀ o : Oid, List.map C.d (oD o) = oC o := fun _ => rfl
  have h6 := oC_len ho
  have hsc := iter_find (js := some [0, 2, 4]) (hl := 1) (body := exec (zenv X N) N false fn55L0) (fun j => l.getD j o0 = o) l.length (fun i => ⟨[.c (.d w), .any, .c (.ptr 0 0 0), .any, i64 (i : Int), .any, .any], [.cells (oC o) 0 false]⟩) (b := 0) (s1 := ⟨[.c (.d w), .any, .c (.ptr 0 0 0), .any, i64 (l.length : Int), bl false, .any], [.cells (oC o) 0 false]⟩) (Q := fun k s => nth s.regs 3 = bl true) (fuel := N) (by omega)
    (by
      intro j hj hp
      have hp2 := hl.at hj
      have h1 := hw.at hl hj
      have h2 := flatO_at hl hj
      have h4 : (j : Int) < (l.length : Int) := by omega
      have h5 := wrap_succ (k := j) (by omega)
      have h7 := oC_len hp2
      have h8 := eqO hp2 ho
      rw [decide_eq_false hp] at h8
      refine ⟨⟨[.c (.d w), .any, .c (.ptr 0 0 0), .any, i64 ((j + 1 : Nat) : Int), bl true, bl false], [.cells (oC o) 0 false]⟩, ?_, gc_le (Nat.le_refl 1)⟩
      simp only [fn55L0, ob?, hlw, h1, h2, h4, h5, h6, h7, h8, hd, List.drop_zero, List.take_of_length_le (Nat.le_of_eq h6), Bool.false_xor, ↓sp_len, ↓sp_ixa, evs])
    (by simp only [fn55L0, hlw, ↓sp_len, evs])
    (by
      intro j hj hp
      have hp2 := hl.at hj
      have h1 := hw.at hl hj
      have h2 := flatO_at hl hj
      have h4 : (j : Int) < (l.length : Int) := by omega
      have h7 := oC_len hp2
      have h8 := eqO hp2 ho
      rw [decide_eq_true hp] at h8
      refine ⟨⟨[.c (.d w), .any, .c (.ptr 0 0 0), bl true, i64 (j : Int), bl true, bl true], [.cells (oC o) 0 false]⟩, ?_, rfl⟩
      simp only [fn55L0, ob?, hlw, h1, h2, h4, h6, h7, h8, hd, List.drop_zero, List.take_of_length_le (Nat.le_of_eq h6), Bool.false_xor, ↓sp_len, ↓sp_ixa, evs])
  simp only [i64, bl, Int.natCast_zero] at hsc
  rcases hsc with ⟨hno, hit⟩ | ⟨k, s', hk, hp, hno, hq, hit⟩
  · have hmem : ¬ o ∈ l := fun h => by
      obtain ⟨i, hi, he⟩ := mem_getD h
      exact hno i hi he
    refine ⟨[.cells (oC o) 0 false], (rf_fin _ _ _ _ _ _ _ _ _ (by rfl)).trans ?_⟩
    simp only [hit, hmem, evs, Nat.reduceAdd, Nat.reduceBEq, Nat.reduceSub]
  · have hmem : o ∈ l := by rw [← hp]; exact getD_mem hk
    refine ⟨s'.heap, (rf_fin _ _ _ _ _ _ _ _ _ (by rfl)).trans ?_⟩
    obtain ⟨r, H⟩ := s'
    simp only at hq
    simp only [hit, hq, hmem, evs, Nat.reduceAdd, Nat.reduceBEq, Nat.reduceSub]
end Mini
end Go.Proofs.YtgjlofpfbhioaaaGreatDoor
namespace Go.Proofs.YtgjlofpfbhioaaaGreatDoor
namespace Mini
open Go
variable {m : Int} {X : Ctx}
abbrev zO : List D := [.int .u8 0, .int .u32 0, .int .u32 0, .int .u32 0, .int .u32 0, .int .u32 0, .int .u32 0, .int .u32 0, .int .u32 0, .int .u32 0, .int .u32 0, .int .u32 0, .int .u32 0, .int .u32 0, .int .u32 0, .int .u32 0, .int .u32 0]
def flC (l : List Oid) : List C := (l.flatMap oD).map .d
theorem flC_len {l : List Oid} (h : wfS l) : (flC l).length = l.length * 17 := by rw [flC, List.length_map, flatO_len h]
theorem rep_len (z : List C) : ∀ n, (rep z n).length = n * z.length
  | 0 => by simp [rep]
  | n + 1 => by rw [rep, List.length_append, rep_len z n, Nat.succ_mul, Nat.add_comm]
abbrev zC : List C := [.d (.int .u8 0), .d (.int .u32 0), .d (.int .u32 0), .d (.int .u32 0), .d (.int .u32 0), .d (.int .u32 0), .d (.int .u32 0), .d (.int .u32 0), .d (.int .u32 0), .d (.int .u32 0), .d (.int .u32 0), .d (.int .u32 0), .d (.int .u32 0), .d (.int .u32 0), .d (.int .u32 0), .d (.int .u32 0), .d (.int .u32 0)]
theorem lay1 {o : Oid} (h : wfO o) : lay (rep zC 1) [(0, 17, .agg (oC o))] = some (oC o) := by
  have h1 := oC_len h
  have h2 : (rep zC 1).length = 17 := rfl
  simp only [lay, V.cells, h1, h2, splice, Nat.zero_add, Nat.le_refl, and_self, if_true, List.take_zero, List.nil_append, List.drop_of_length_le (Nat.le_of_eq h2), List.append_nil]
theorem oC_flat (o : Oid) : (oC o).all C.flat = true := by
  rw [List.all_eq_true]
  intro c hc
  simp only [oC, oD, List.map_cons, List.mem_cons, List.mem_map] at hc
  rcases hc with rfl | ⟨d, ⟨x, _, rfl⟩, rfl⟩ <;> rfl
theorem tidy_back {H t : Heap} {js : List Nat} {regs r : List V} {hl : Nat} (hn : hl = H.length) (hr : keepOnly js 0 regs = r) (h1 : r.all (V.under H.length) = true) (h2 : Hp H.length H) : tidy hl (some js) ⟨regs, H ++ t⟩ = ⟨r, H⟩ := by
  subst hr
  exact gc_back hl hn h1 h2
/-- What exact returns. -/
def exR (H : Heap) (l : List Oid) : V × Heap := if l.length = 0 then (.c (.d .nils), H) else (.c (.os H.length 0 0 l.length 17 (some l.length)), H ++ [.cells (flC l) 0 false])
theorem f67 (hX : XOk m X) {N : Nat} (hN : 1 ≤ N) {v : V} {l : List Oid} {H : Heap} (hl : wfS l) (hlen : l.length < 1000000) (h1 : lenc v = some (.c (.d (.int .i64 (l.length : Int))), [])) (h2 : ∀ t, elems (H ++ t) 17 v = some (l.length, flC l)) : callN X N (.d (.fn 67 [] [])) [v] H = some (exR H l) := by
  obtain ⟨N, rfl⟩ : ∃ M, N = M + 1 := ⟨N - 1, by omega⟩
  rw [hX.fn (F := fn67) rfl]
  refine (rf_fin _ _ _ _ _ _ _ _ _ (by rfl)).trans ?_
  unfold exR
  by_cases c0 : l.length = 0
  · have h3 : ((l.length : Int) == 0) = true := by rw [beq_iff_eq]; omega
    rw [if_pos c0]
    simp only [h1, h3, ↓sp_len, evs, Nat.reduceSub]
  · have h3 : ((l.length : Int) == 0) = false := by rw [beq_eq_false_iff_ne]; omega
    have h4 : l.length * 68 ≤ 1099511627776 := by omega
    have h5 : l.length ≤ 1099511627776 := by omega
    have h6 := flC_len hl
    have h7 : (rep (List.map C.d zO) l.length).length = l.length * 17 := by rw [rep_len]; rfl
    have h8 : splice (rep (List.map C.d zO) l.length) 0 ((flC l).take (min l.length l.length * 17)) = flC l := by
      rw [Nat.min_self, List.take_of_length_le (by omega)]
      unfold splice
      rw [List.take_zero, List.nil_append, List.drop_of_length_le (by omega), List.append_nil]
    rw [if_neg c0]
    simp only [h1, h2, h3, h4, h5, h7, h8, at0, se0, Nat.le_refl, ↓sp_len, evs, Nat.reduceSub]
/-- A row of OIDs in new memory, without room behind; or nil. -/
def isRes (r : V) (H : Heap) (l : List Oid) : Prop := (l = [] ∧ r = .c (.d .nils)) ∨ ∃ id, r = .c (.os id 0 0 l.length 17 (some l.length)) ∧ H[id]? = some (.cells (flC l) 0 false)
theorem exR_ok (H : Heap) (l : List Oid) : ∃ r t, exR H l = (r, H ++ t) ∧ isRes r (H ++ t) l := by
  unfold exR
  by_cases h : l.length = 0
  · rw [if_pos h]
    exact ⟨_, [], by rw [List.append_nil], .inl ⟨List.length_eq_zero_iff.1 h, rfl⟩⟩
  · rw [if_neg h]
    exact ⟨_, _, rfl, .inr ⟨H.length, rfl, at0⟩⟩
def meetL (u v : List Oid) : List Oid := if anyO ∈ u ∧ anyO ∈ v then [anyO] else if anyO ∈ u then v else if anyO ∈ v then u else u.filter (fun o => decide (o ∈ v))
def frn (x : V) (j sz : Nat) (regs : List V) (H : Heap) : St :=
  match x with
  | .c (.d .nils) => ⟨put regs j (.c (.os H.length 0 0 0 sz none)), H ++ [.cells [] 0 false]⟩
  | _ => ⟨regs, H⟩
theorem ex_fresh (E : Env) (N : Nat) (rd : Bool) (j sz : Nat) (regs : List V) (H : Heap) : exec E N rd (.fresh j none sz) ⟨regs, H⟩ = some (.nrm, frn (nth regs j) j sz regs H) := by
  have : exec E N rd (.fresh j none sz) ⟨regs, H⟩ = some (.nrm, freshen j none sz ⟨regs, H⟩) := rfl
  rw [this]
  rfl
theorem frn_nil (j sz : Nat) (regs : List V) (H : Heap) : frn (.c (.d .nils)) j sz regs H = ⟨put regs j (.c (.os H.length 0 0 0 sz none)), H ++ [.cells [] 0 false]⟩ := rfl
theorem flC_app (a b : List Oid) : flC (a ++ b) = flC a ++ flC b := by simp [flC]
theorem flC_one (o : Oid) : flC [o] = oC o := by simp [flC, oC]
theorem flC_u (n : Nat) (l : List Oid) : (flC l).all (uC n) = true := by
  rw [List.all_eq_true]
  intro c hc
  obtain ⟨d, _, rfl⟩ := List.mem_map.1 hc
  rfl
def flt (u v : List Oid) (i : Nat) : List Oid := (u.take i).filter (fun o => decide (o ∈ v))
theorem flt_succ (u v : List Oid) {i : Nat} (h : i < u.length) : flt u v (i + 1) = if u.getD i o0 ∈ v then flt u v i ++ [u.getD i o0] else flt u v i := by
  unfold flt
  rw [List.take_succ_eq_append_getElem h, List.filter_append, List.getD_eq_getElem?_getD, List.getElem?_eq_getElem h, Option.getD_some]
  by_cases hm : u[i] ∈ v
  · rw [if_pos hm, List.filter_cons_of_pos (by simpa using hm)]; rfl
  · rw [if_neg hm, List.filter_cons_of_neg (by simpa using hm)]; simp
theorem flt_wf {u v : List Oid} (h : wfS u) (i : Nat) : wfS (flt u v i) := fun o ho => h o (List.mem_of_mem_take (List.mem_filter.1 ho).1)
theorem flt_len (u v : List Oid) (i : Nat) : (flt u v i).length ≤ u.length := by
  unfold flt
  exact Nat.le_trans (List.length_filter_le _ _) (by rw [List.length_take]; omega)
theorem f52 (hX : XOk m X) {N : Nat} (hN : 400 ≤ N) {wu wv : D} {u v : List Oid} {H : Heap} (hu : isSet wu u) (hv : isSet wv v) (hul : wfS u) (hvl : wfS v) (hu3 : u.length ≤ 300) (hv3 : v.length ≤ 300) (hH : Hp H.length H) : ∃ r t, callN X N (.d (.fn 52 [] [])) [.c (.d wu), .c (.d wv)] H = some (r, H ++ t) ∧ isRes r (H ++ t) (meetL u v) := by
  obtain ⟨N, rfl⟩ : ∃ M, N = M + 1 := ⟨N - 1, by omega⟩
  have hF : fnsA 52 = some fn52' := rfl
  have hlu := hu.len
  have hd : ∀ o : Oid, List.map C.d (oD o) = oC o := fun _ => rfl
  have hm : ∀ (H : Heap) (o : Oid), mapO (deepC H deepMax) (oC o) = some (oD o) := fun H o => mapO_d H _ _
  have ha := hX.vc (k := 83) (F := fn83) rfl (f83 hX (N := N) (by omega))
  have h1 := hX.vc (k := 84) (F := fn84) rfl (f84 hX (N := N) (by omega) hu hul wf_any (by omega))
  have h2 := hX.vc (k := 84) (F := fn84) rfl (f84 hX (N := N) (by omega) hv hvl wf_any (by omega))
  have h6 := oC_len wf_any
  simp only [bl] at h1 h2
  rw [hX.fn hF]
  by_cases c1 : anyO ∈ u
  · rw [decide_eq_true c1] at h1
    by_cases c2 : anyO ∈ v
    · rw [decide_eq_true c2] at h2
      have hml : meetL u v = [anyO] := by unfold meetL; rw [if_pos ⟨c1, c2⟩]
      rw [hml]
      refine ⟨.c (.os H.length 0 0 1 17 (some 1)), [.cells (oC anyO) 0 false], (rf_fin _ _ _ _ _ _ _ _ _ (by rfl)).trans ?_, .inr ⟨H.length, rfl, by rw [flC_one]; exact at0⟩⟩
      simp only [ha, h1, h2, lay1 wf_any, oC_flat, hm, hd, List.map_cons, List.map_nil, evs, Nat.reduceAdd, Nat.reduceSub]
    · rw [decide_eq_false c2] at h2
      have hml : meetL u v = v := by unfold meetL; rw [if_neg (fun h => c2 h.2), if_pos c1]
      rw [hml]
      obtain ⟨r, t, he, hr⟩ := exR_ok H v
      have h7 := f67 hX (N := N) (by omega) (v := .c (.d wv)) (H := H) hvl (by omega) hv.len (fun t => hv.elems hvl _)
      rw [he] at h7
      refine ⟨r, t, (rf_fin _ _ _ _ _ _ _ _ _ (by rfl)).trans ?_, hr⟩
      rcases hr with ⟨_, rfl⟩ | ⟨id, rfl, _⟩ <;>
        simp only [ha, h1, h2, h7, oC_flat, hm, hd, List.map_cons, List.map_nil, evs, Nat.reduceAdd, Nat.reduceSub]
  · rw [decide_eq_false c1] at h1
    by_cases c2 : anyO ∈ v
    · rw [decide_eq_true c2] at h2
      have hml : meetL u v = u := by unfold meetL; rw [if_neg (fun h => c1 h.1), if_neg c1, if_pos c2]
      rw [hml]
      obtain ⟨r, t, he, hr⟩ := exR_ok H u
      have h7 := f67 hX (N := N) (by omega) (v := .c (.d wu)) (H := H) hul (by omega) hu.len (fun t => hu.elems hul _)
      rw [he] at h7
      refine ⟨r, t, (rf_fin _ _ _ _ _ _ _ _ _ (by rfl)).trans ?_, hr⟩
      rcases hr with ⟨_, rfl⟩ | ⟨id, rfl, _⟩ <;>
        simp only [ha, h1, h2, h7, oC_flat, hm, hd, List.map_cons, List.map_nil, evs, Nat.reduceAdd, Nat.reduceSub]
    · rw [decide_eq_false c2] at h2
      have hml : meetL u v = flt u v u.length := by unfold meetL flt; rw [if_neg (fun h => c1 h.1), if_neg c1, if_neg c2, List.take_length]
      rw [hml]
      have hback : ∀ (f : List Oid) (g : Nat) {cs : List C}, cs = flC f → Hp (H ++ [Ob.cells cs g false]).length (H ++ [Ob.cells cs g false]) := by
        intro f g cs hcs
        subst hcs
        exact (hH.mono (by simp)).app (Hp.cons (flC_u _ _) Hp.nil)
      have hit : iter (some [1, 5, 10, 11, 12]) (H.length + 1) (exec (zenv X N) N false fn52L0) N ⟨[.any, .c (.d wv), .any, .any, .any, .c (.os H.length 0 0 0 17 none), .any, .any, .any, .any, .c (.d wu), .c (.d (.int .i64 (u.length : Int))), .c (.d (.int .i64 0)), .any, .any], H ++ [.cells [] 0 false]⟩ = some (.exit 1, ⟨[.any, .c (.d wv), .any, .any, .any, .c (.os H.length (flt u v u.length).length 0 (flt u v u.length).length 17 none), .any, .any, .any, .any, .c (.d wu), .c (.d (.int .i64 (u.length : Int))), .c (.d (.int .i64 (u.length : Int))), bl false, .any], H ++ [.cells (flC (flt u v u.length)) (flt u v u.length).length false]⟩) := by
        refine iter_to (fun i => ⟨[.any, .c (.d wv), .any, .any, .any, .c (.os H.length (flt u v i).length 0 (flt u v i).length 17 none), .any, .any, .any, .any, .c (.d wu), .c (.d (.int .i64 (u.length : Int))), .c (.d (.int .i64 (i : Int))), .any, .any], H ++ [.cells (flC (flt u v i)) (flt u v i).length false]⟩) (e := .exit 1) (fun h => by cases h) u.length 0 N (fun j _ hj => ?_) ?_ (by omega)
        · have hju : j < u.length := by omega
          have ho := hul.at hju
          have g1 := hu.at hul hju
          have g2 := flatO_at hul hju
          have g3 : (j : Int) < (u.length : Int) := by omega
          have g4 := wrap_succ (k := j) (by omega)
          have g5 := oC_len ho
          have g6 := hX.vc (k := 84) (F := fn84) rfl (f84 hX (N := N) (by omega) hv hvl ho (by omega))
          have g7 := flt_succ u v hju
          have g8 := flt_len u v j
          have g9 := flC_len (flt_wf (v := v) hul j)
          generalize hoo : u.getD j o0 = o at *
          generalize hff : flt u v j = f at *
          by_cases hov : o ∈ v
          · rw [decide_eq_true hov] at g6
            rw [if_pos hov] at g7
            simp only [bl] at g6
            have q1 : f.length + 1 < genK := by unfold genK; omega
            have q2 : f.length + 1 ≤ 1073741824 := by omega
            have q3 : List.take (f.length * 17) (flC f) = flC f := List.take_of_length_le (by omega)
            have q4 : (flC f).length = f.length * 17 := g9
            rw [g7]
            refine ⟨⟨[.any, .c (.d wv), .any, .any, .any, .c (.os H.length (f.length + 1) 0 (f.length + 1) 17 none), .c (.ptr (H.length + 1) 0 0), .any, .any, .any, .c (.d wu), .c (.d (.int .i64 (u.length : Int))), .c (.d (.int .i64 ((j + 1 : Nat) : Int))), bl true, bl true], (H ++ [.cells (flC f ++ oC o) (f.length + 1) false]) ++ [.cells (oC o) 0 false, .cells (oC o) 0 false]⟩, ?_, ?_⟩
            · simp only [fn52L0, g1, g2, g3, g4, g5, g6, q1, q2, q3, q4, at0, at1, at2, se0, lay1 ho, hm, hd, elems, Nat.le_refl, List.length_append, List.append_assoc, List.drop_zero, List.take_of_length_le (Nat.le_of_eq g5), List.map_cons, List.map_nil, ↓sp_ixa, evs, Nat.reduceAdd, reduceCtorEq]
            · have hap : flC (f ++ [o]) = flC f ++ oC o := by rw [flC_app, flC_one]
              simp only [hap, List.length_append, List.length_cons, List.length_nil, Nat.zero_add]
              refine tidy_back (by simp) rfl ?_ (hback (f ++ [o]) _ hap.symm)
              simp [V.under, C.under]
          · rw [decide_eq_false hov] at g6
            rw [if_neg hov] at g7
            simp only [bl] at g6
            rw [g7]
            refine ⟨⟨[.any, .c (.d wv), .any, .any, .any, .c (.os H.length f.length 0 f.length 17 none), .c (.ptr (H.length + 1) 0 0), .any, .any, .any, .c (.d wu), .c (.d (.int .i64 (u.length : Int))), .c (.d (.int .i64 ((j + 1 : Nat) : Int))), bl true, bl false], (H ++ [.cells (flC f) f.length false]) ++ [.cells (oC o) 0 false]⟩, ?_, ?_⟩
            · simp only [fn52L0, g1, g2, g3, g4, g5, g6, at1, hm, hd, List.length_append, List.append_assoc, List.drop_zero, List.take_of_length_le (Nat.le_of_eq g5), ↓sp_ixa, evs]
            · refine tidy_back (by simp) rfl ?_ (hback f _ rfl)
              simp [V.under, C.under]
        · rw [Nat.zero_add]
          simp only [fn52L0, evs]
      have hff : flt u v u.length = flt u v u.length := rfl
      have hfl := flt_wf (v := v) hul u.length
      have hfn := flt_len u v u.length
      have q4 := flC_len hfl
      generalize flt u v u.length = f at *
      obtain ⟨r, t, he, hr⟩ := exR_ok (H ++ [.cells (flC f) f.length false]) f
      have h7 := f67 hX (N := N) (by omega) (v := .c (.os H.length f.length 0 f.length 17 none)) (H := H ++ [.cells (flC f) f.length false]) hfl (by omega) rfl (fun t => by
        rw [List.append_assoc, List.singleton_append]
        simp only [elems, ob_eq, at0, Nat.zero_add, q4, Nat.le_refl, and_self, if_true, List.drop_zero, List.take_of_length_le (Nat.le_of_eq q4)])
      rw [he] at h7
      refine ⟨r, .cells (flC f) f.length false :: t, (rf_fin _ _ _ _ _ _ _ _ _ (by rfl)).trans ?_, by rw [List.append_cons]; exact hr⟩
      simp only [bl] at hit
      rcases hr with ⟨_, rfl⟩ | ⟨id, rfl, _⟩ <;>
        simp only [ha, h1, h2, h7, hit, hlu, oC_flat, hm, hd, ex_fresh, frn_nil, List.map_cons, List.map_nil, List.length_append, List.append_assoc, ↓sp_len, evs, Nat.reduceAdd, Nat.reduceBEq, Nat.reduceSub]
end Mini
end Go.Proofs.YtgjlofpfbhioaaaGreatDoor
namespace Go.Proofs.YtgjlofpfbhioaaaGreatDoor
namespace Mini
open Go
variable {m : Int} {X : Ctx}
def err2 (a b : Nat) : Nat := if a ≠ 0 then a else b
theorem f18 (hX : XOk m X) {N : Nat} (hN : 401 ≤ N) {wu wv : D} {u v : List Oid} {H : Heap} (hu : isSet wu u) (hv : isSet wv v) (hul : wfS u) (hvl : wfS v) (hu3 : u.length ≤ 300) (hv3 : v.length ≤ 300) (hH : Hp H.length H) : ∃ r t, callN X N (.d (.fn 18 [] [])) [.c (.d wu), .c (.d wv)] H = some (.tup [r, i64 (err2 (chkS u) (chkS v))], H ++ t) ∧ isRes r (H ++ t) (if err2 (chkS u) (chkS v) = 0 then meetL u v else []) := by
  obtain ⟨N, rfl⟩ : ∃ M, N = M + 1 := ⟨N - 1, by omega⟩
  have h1 := hX.vc (k := 19) (F := fn19) rfl (f19 hX (N := N) (by omega) hu hul (by omega))
  have h2 := hX.vc (k := 19) (F := fn19) rfl (f19 hX (N := N) (by omega) hv hvl (by omega))
  simp only [i64] at h1 h2
  rw [hX.fn (F := fn18) rfl]
  unfold err2
  by_cases c1 : chkS u = 0
  · rw [c1, if_neg (by simp)]
    rw [c1] at h1
    have g1 : (((0 : Nat) : Int) != 0) = false := rfl
    by_cases c2 : chkS v = 0
    · rw [c2, if_pos rfl]
      rw [c2] at h2
      obtain ⟨r, t, h3, hr⟩ := f52 hX (N := N) (by omega) hu hv hul hvl hu3 hv3 hH
      refine ⟨r, t, (rf_fin _ _ _ _ _ _ _ _ _ (by rfl)).trans ?_, hr⟩
      rcases hr with ⟨_, rfl⟩ | ⟨id, rfl, _⟩ <;>
        simp only [h1, h2, h3, Int.natCast_zero, List.map_cons, List.map_nil, evs, Nat.reduceAdd, Nat.reduceSub]
    · have g2 : ((chkS v : Int) != 0) = true := by rw [bne_iff_ne]; omega
      rw [if_neg c2]
      refine ⟨.c (.d .nils), [], (rf_fin _ _ _ _ _ _ _ _ _ (by rfl)).trans ?_, .inl ⟨rfl, rfl⟩⟩
      simp only [h1, h2, g1, g2, evs, Nat.reduceAdd, Nat.reduceSub]
  · have g2 : ((chkS u : Int) != 0) = true := by rw [bne_iff_ne]; omega
    rw [if_pos c1, if_neg c1]
    refine ⟨.c (.d .nils), [], (rf_fin _ _ _ _ _ _ _ _ _ (by rfl)).trans ?_, .inl ⟨rfl, rfl⟩⟩
    simp only [h1, g2, evs, Nat.reduceAdd, Nat.reduceSub]

/-- Equal sets -/
theorem f20 (hX : XOk m X) {N : Nat} {w w' : D} {l l' : List Oid} (hN : l.length + 5 ≤ N) (hw : isSet w l) (hw' : isSet w' l') (hl : wfS l) (hl' : wfS l') (hlen : l.length < 1000000) : vcallN X N 20 [.c (.d w), .c (.d w')] = some (i64 (if l = l' then 1 else 0)) := by
  obtain ⟨N, rfl⟩ : ∃ M, N = M + 1 := ⟨N - 1, by omega⟩
  have hF : fnsA 20 = some fn20' := rfl
  suffices h : ∃ (H : Heap), callN X (N + 1) (.d (.fn 20 [] [])) [.c (.d w), .c (.d w')] [] = some (i64 (if l = l' then 1 else 0), H) by
    obtain ⟨H, h⟩ := h
    exact vcall_of h rfl
  rw [hX.fn hF]
  have hlw := hw.len
  have hlw' := hw'.len
  have hd : ∀ o : Oid, List.map C.d (oD o) = oC o := fun _ => rfl
  by_cases c0 : l.length = l'.length
  case neg =>
    have g1 : ((l.length : Int) != (l'.length : Int)) = true := by rw [bne_iff_ne]; omega
    have g2 : ¬ l = l' := fun h => c0 (by rw [h])
    refine ⟨[], (rf_fin _ _ _ _ _ _ _ _ _ (by rfl)).trans ?_⟩
    simp only [hlw, hlw', g1, g2, ↓sp_len, evs, Nat.reduceAdd, Nat.reduceSub]
  have g1 : ((l.length : Int) != (l'.length : Int)) = false := by rw [bne_eq_false_iff_eq]; omega
  have hsc := iter_find (js := some [0, 1, 3]) (hl := 0) (body := exec (zenv X N) N false fn20L0) (fun j => l.getD j o0 ≠ l'.getD j o0) l.length (fun i => ⟨[.c (.d w), .c (.d w'), .any, i64 (i : Int), .any, .any, .any], []⟩) (b := 0) (s1 := ⟨[.c (.d w), .c (.d w'), .any, i64 (l.length : Int), .any, bl false, .any], []⟩) (Q := fun k s => nth s.regs 2 = i64 0) (fuel := N) (by omega)
    (by
      intro j hj hp
      have hp := Decidable.not_not.1 hp
      have ho := hl.at hj
      have ho' := hl'.at (i := j) (by omega)
      have h1 := hw.at hl hj
      have h1' := hw'.at hl' (i := j) (by omega)
      have h2 := flatO_at hl hj
      have h2' := flatO_at hl' (i := j) (by omega)
      have h4 : (j : Int) < (l.length : Int) := by omega
      have h5 := wrap_succ (k := j) (by omega)
      have h7 := oC_len ho
      have h7' := oC_len ho'
      have h8 := eqO ho ho'
      rw [decide_eq_true hp] at h8
      refine ⟨⟨[.c (.d w), .c (.d w'), .any, i64 ((j + 1 : Nat) : Int), .any, bl true, bl false], []⟩, ?_, gc_le (Nat.le_refl 0)⟩
      simp only [fn20L0, hlw, h1, h2, h4, h5, h7, h8, h1', h2', h7', hd, Bool.true_xor, Bool.not_true, ↓sp_len, ↓sp_ixa, evs])
    (by simp only [fn20L0, hlw, ↓sp_len, evs])
    (by
      intro j hj hp
      have ho := hl.at hj
      have ho' := hl'.at (i := j) (by omega)
      have h1 := hw.at hl hj
      have h1' := hw'.at hl' (i := j) (by omega)
      have h2 := flatO_at hl hj
      have h2' := flatO_at hl' (i := j) (by omega)
      have h4 : (j : Int) < (l.length : Int) := by omega
      have h7 := oC_len ho
      have h7' := oC_len ho'
      have h8 := eqO ho ho'
      rw [decide_eq_false hp] at h8
      refine ⟨⟨[.c (.d w), .c (.d w'), i64 0, i64 (j : Int), .any, bl true, bl true], []⟩, ?_, rfl⟩
      simp only [fn20L0, hlw, h1, h2, h4, h7, h8, h1', h2', h7', hd, Bool.true_xor, Bool.not_false, ↓sp_len, ↓sp_ixa, evs])
  simp only [i64, bl, Int.natCast_zero] at hsc
  rcases hsc with ⟨hno, hit⟩ | ⟨k, s', hk, hp, hno, hq, hit⟩
  · have he : l = l' := by
      refine List.ext_getElem c0 fun i h1 h2 => ?_
      have := Decidable.not_not.1 (hno i h1)
      rw [List.getD_eq_getElem?_getD, List.getD_eq_getElem?_getD, List.getElem?_eq_getElem h1, List.getElem?_eq_getElem h2] at this
      exact this
    subst he
    refine ⟨[], (rf_fin _ _ _ _ _ _ _ _ _ (by rfl)).trans ?_⟩
    simp only [hlw, hlw', hit, ↓sp_len, evs, Nat.reduceAdd, Nat.reduceBEq, Nat.reduceSub]
  · have he : ¬ l = l' := fun h => hp (by rw [h])
    refine ⟨s'.heap, (rf_fin _ _ _ _ _ _ _ _ _ (by rfl)).trans ?_⟩
    obtain ⟨r, H⟩ := s'
    simp only at hq
    simp only [hlw, hlw', g1, he, hit, hq, ↓sp_len, evs, Nat.reduceAdd, Nat.reduceBEq, Nat.reduceSub]

/-- What a row in memory reads as. -/
theorem isRes.deep {r : V} {H : Heap} {l : List Oid} (h : isRes r H l) (hl : wfS l) : ∃ w, deepV1 H r = some (.c (.d w)) ∧ isSet w l := by
  rcases h with ⟨rfl, rfl⟩ | ⟨id, rfl, hH⟩
  · exact ⟨.nils, rfl, .inl ⟨rfl, rfl⟩⟩
  · refine ⟨slO l, ?_, .inr rfl⟩
    have h1 : 0 + l.length * 17 ≤ (flC l).length := by rw [flC_len hl]; omega
    have h2 : ((flC l).drop 0).take (l.length * 17) = (l.flatMap oD).map .d := by
      rw [List.drop_zero, List.take_of_length_le (by rw [flC_len hl]; exact Nat.le_refl _)]; rfl
    simp only [deepV1, deepMax, deepC, ob_eq, hH, if_true, if_pos h1, h2, mapO_d, Option.map_some, slO]
theorem isRes.lenc {r : V} {H : Heap} {l : List Oid} (h : isRes r H l) : lenc r = some (.c (.d (.int .i64 (l.length : Int))), []) := by
  rcases h with ⟨rfl, rfl⟩ | ⟨id, rfl, hH⟩ <;> rfl
theorem isRes.grow {r : V} {H t : Heap} {l : List Oid} (h : isRes r H l) : isRes r (H ++ t) l := by
  rcases h with h | ⟨id, h, hH⟩
  · exact .inl h
  · exact .inr ⟨id, h, atL hH⟩
theorem meetL_wf {u v : List Oid} (hu : wfS u) (hv : wfS v) : wfS (meetL u v) := by
  unfold meetL
  split
  · intro o ho
    rw [List.mem_singleton] at ho
    subst ho; exact wf_any
  split
  · exact hv
  split
  · exact hu
  · exact fun o ho => hu o (List.mem_filter.1 ho).1
end Mini
end Go.Proofs.YtgjlofpfbhioaaaGreatDoor
namespace Go.Proofs.YtgjlofpfbhioaaaGreatDoor
namespace Mini
open Go
variable {m : Int} {X : Ctx}
theorem freeze_nil (H : Heap) : freeze H [] = H := rfl
theorem f21 (hX : XOk m X) {N : Nat} (hN : 400 ≤ N) {wu wv : D} {u v : List Oid} (hu : isSet wu u) (hv : isSet wv v) (hul : wfS u) (hvl : wfS v) (hu3 : u.length ≤ 300) (hv3 : v.length ≤ 300) : ∃ w, vcallN X N 21 [.c (.d wu), .c (.d wv)] = some (.c (.d w)) ∧ isSet w (meetL u v) := by
  obtain ⟨N, rfl⟩ : ∃ M, N = M + 1 := ⟨N - 1, by omega⟩
  have hF : fnsA 21 = some fn21' := rfl
  have hlu := hu.len
  have hd : ∀ o : Oid, List.map C.d (oD o) = oC o := fun _ => rfl
  have hm : ∀ (H : Heap) (o : Oid), mapO (deepC H deepMax) (oC o) = some (oD o) := fun H o => mapO_d H _ _
  have ha := hX.vc (k := 51) (F := fn51) rfl (f51 hX (N := N) (by omega))
  have h1 := hX.vc (k := 55) (F := fn55) rfl (f55 hX (N := N) (by omega) hu hul wf_any (by omega))
  have h2 := hX.vc (k := 55) (F := fn55) rfl (f55 hX (N := N) (by omega) hv hvl wf_any (by omega))
  have h6 := oC_len wf_any
  simp only [bl] at h1 h2
  have hml := meetL_wf hul hvl
  suffices h : ∃ r H w, callN X (N + 1) (.d (.fn 21 [] [])) [.c (.d wu), .c (.d wv)] [] = some (.c r, H) ∧ deepV1 H (.c r) = some (.c (.d w)) ∧ isSet w (meetL u v) by
    obtain ⟨r, H, w, h, hd, hw⟩ := h
    exact ⟨w, vcall_of h hd, hw⟩
  rw [hX.fn hF]
  by_cases c1 : anyO ∈ u
  · rw [decide_eq_true c1] at h1
    by_cases c2 : anyO ∈ v
    · rw [decide_eq_true c2] at h2
      have hme : meetL u v = [anyO] := by unfold meetL; rw [if_pos ⟨c1, c2⟩]
      rw [hme] at hml ⊢
      have hr : isRes (.c (.os 1 0 0 1 17 (some 1))) [.cells (oC anyO) 0 false, .cells (oC anyO) 0 false] [anyO] := .inr ⟨1, rfl, by rw [flC_one]; rfl⟩
      obtain ⟨w, hdw, hw⟩ := hr.deep hml
      refine ⟨_, _, w, (rf_fin _ _ _ _ _ _ _ _ _ (by rfl)).trans ?_, hdw, hw⟩
      simp only [ha, h1, h2, h6, lay1 wf_any, oC_flat, hm, hd, List.drop_zero, List.take_of_length_le (Nat.le_of_eq h6), List.map_cons, List.map_nil, evs, Nat.reduceAdd, Nat.reduceSub]
    · rw [decide_eq_false c2] at h2
      have hme : meetL u v = v := by unfold meetL; rw [if_neg (fun h => c2 h.2), if_pos c1]
      rw [hme]
      refine ⟨.d wv, [.cells (oC anyO) 0 false], wv, (rf_fin _ _ _ _ _ _ _ _ _ (by rfl)).trans ?_, rfl, hv⟩
      simp only [ha, h1, h2, h6, oC_flat, hm, hd, List.drop_zero, List.take_of_length_le (Nat.le_of_eq h6), evs, Nat.reduceAdd, Nat.reduceSub]
  · rw [decide_eq_false c1] at h1
    by_cases c2 : anyO ∈ v
    · rw [decide_eq_true c2] at h2
      have hme : meetL u v = u := by unfold meetL; rw [if_neg (fun h => c1 h.1), if_neg c1, if_pos c2]
      rw [hme]
      refine ⟨.d wu, [.cells (oC anyO) 0 false], wu, (rf_fin _ _ _ _ _ _ _ _ _ (by rfl)).trans ?_, rfl, hu⟩
      simp only [ha, h1, h2, h6, oC_flat, hm, hd, List.drop_zero, List.take_of_length_le (Nat.le_of_eq h6), evs, Nat.reduceAdd, Nat.reduceSub]
    · rw [decide_eq_false c2] at h2
      have hme : meetL u v = flt u v u.length := by unfold meetL flt; rw [if_neg (fun h => c1 h.1), if_neg c1, if_neg c2, List.take_length]
      rw [hme] at hml ⊢
      have hback : ∀ (f : List Oid) (g : Nat) {cs : List C}, cs = flC f → Hp ([Ob.cells (oC anyO) 0 false] ++ [Ob.cells cs g false]).length ([Ob.cells (oC anyO) 0 false] ++ [Ob.cells cs g false]) := by
        intro f g cs hcs
        subst hcs
        refine Hp.app (Hp.cons ?_ Hp.nil) (Hp.cons (flC_u _ _) Hp.nil)
        rw [← flC_one]; exact flC_u _ _
      have hit : iter (some [0, 1, 4, 5]) 2 (exec (zenv X N) N false fn21L0) N ⟨[.c (.d wu), .c (.d wv), .any, .any, .c (.os 1 0 0 0 17 none), .c (.d (.int .i64 0)), .any, .any, .any, .any, .any], [.cells (oC anyO) 0 false, .cells [] 0 false]⟩ = some (.exit 0, ⟨[.c (.d wu), .c (.d wv), .any, .any, .c (.os 1 (flt u v u.length).length 0 (flt u v u.length).length 17 none), .c (.d (.int .i64 (u.length : Int))), .any, .any, .any, bl false, .any], [.cells (oC anyO) 0 false, .cells (flC (flt u v u.length)) (flt u v u.length).length false]⟩) := by
        refine iter_to (fun i => ⟨[.c (.d wu), .c (.d wv), .any, .any, .c (.os 1 (flt u v i).length 0 (flt u v i).length 17 none), .c (.d (.int .i64 (i : Int))), .any, .any, .any, .any, .any], [.cells (oC anyO) 0 false, .cells (flC (flt u v i)) (flt u v i).length false]⟩) (e := .exit 0) (fun h => by cases h) u.length 0 N (fun j _ hj => ?_) ?_ (by omega)
        · have hju : j < u.length := by omega
          have ho := hul.at hju
          have g1 := hu.at hul hju
          have g2 := flatO_at hul hju
          have g3 : (j : Int) < (u.length : Int) := by omega
          have g4 := wrap_succ (k := j) (by omega)
          have g5 := oC_len ho
          have g6 := hX.vc (k := 55) (F := fn55) rfl (f55 hX (N := N) (by omega) hv hvl ho (by omega))
          have g7 := flt_succ u v hju
          have g8 := flt_len u v j
          have g9 := flC_len (flt_wf (v := v) hul j)
          generalize hoo : u.getD j o0 = o at *
          generalize hff : flt u v j = f at *
          by_cases hov : o ∈ v
          · rw [decide_eq_true hov] at g6
            rw [if_pos hov] at g7
            simp only [bl] at g6
            have q1 : f.length + 1 < genK := by unfold genK; omega
            have q2 : f.length + 1 ≤ 1073741824 := by omega
            have q3 : List.take (f.length * 17) (flC f) = flC f := List.take_of_length_le (by omega)
            have q4 : (flC f).length = f.length * 17 := g9
            have hap : flC (f ++ [o]) = flC f ++ oC o := by rw [flC_app, flC_one]
            rw [g7]
            refine ⟨⟨[.c (.d wu), .c (.d wv), .any, .any, .c (.os 1 (f.length + 1) 0 (f.length + 1) 17 none), .c (.d (.int .i64 ((j + 1 : Nat) : Int))), .any, .any, .any, bl true, bl true], ([.cells (oC anyO) 0 false] ++ [.cells (flC f ++ oC o) (f.length + 1) false]) ++ [.cells (oC o) 0 false]⟩, ?_, ?_⟩
            · simp only [fn21L0, hlu, g1, g2, g3, g4, g5, g6, q1, q2, q3, q4, lay1 ho, hm, hd, elems, Nat.le_refl, List.set_cons_succ, List.set_cons_zero, List.drop_zero, List.take_of_length_le (Nat.le_of_eq g5), List.map_cons, List.map_nil, ↓sp_len, ↓sp_ixa, evs, Nat.reduceAdd, reduceCtorEq]
            · simp only [hap, List.length_append, List.length_cons, List.length_nil, Nat.zero_add]
              refine tidy_back rfl rfl ?_ (hback (f ++ [o]) _ hap.symm)
              simp [V.under, C.under]
          · rw [decide_eq_false hov] at g6
            rw [if_neg hov] at g7
            simp only [bl] at g6
            rw [g7]
            refine ⟨⟨[.c (.d wu), .c (.d wv), .any, .any, .c (.os 1 f.length 0 f.length 17 none), .c (.d (.int .i64 ((j + 1 : Nat) : Int))), .any, .any, .any, bl true, bl false], ([.cells (oC anyO) 0 false] ++ [.cells (flC f) f.length false]) ++ []⟩, ?_, ?_⟩
            · simp only [fn21L0, hlu, g1, g2, g3, g4, g5, g6, hm, hd, ↓sp_len, ↓sp_ixa, evs]
            · refine tidy_back rfl rfl ?_ (hback f _ rfl)
              simp [V.under, C.under]
        · rw [Nat.zero_add]
          simp only [fn21L0, hlu, ↓sp_len, evs]
      have hfl := flt_wf (v := v) hul u.length
      have hfn := flt_len u v u.length
      have q4 := flC_len hfl
      generalize flt u v u.length = f at *
      have hdw : deepV1 [.cells (oC anyO) 0 false, .cells (flC f) f.length false] (.c (.os 1 f.length 0 f.length 17 none)) = some (.c (.d (slO f))) := by
        have p1 : 0 + f.length * 17 ≤ (flC f).length := by omega
        have p2 : ((flC f).drop 0).take (f.length * 17) = (f.flatMap oD).map .d := by
          rw [List.drop_zero, List.take_of_length_le (by omega)]; rfl
        simp only [deepV1, deepMax, deepC, ob?, if_true, if_pos p1, p2, mapO_d, Option.map_some, slO]
      refine ⟨_, _, slO f, (rf_fin _ _ _ _ _ _ _ _ _ (by rfl)).trans ?_, hdw, .inr rfl⟩
      simp only [bl] at hit
      simp only [ha, h1, h2, h6, hit, oC_flat, hm, hd, ex_fresh, frn_nil, List.drop_zero, List.take_of_length_le (Nat.le_of_eq h6), evs, Nat.reduceAdd, Nat.reduceBEq, Nat.reduceSub]
end Mini
end Go.Proofs.YtgjlofpfbhioaaaGreatDoor
namespace Go.Proofs.YtgjlofpfbhioaaaGreatDoor
namespace Mini
open Go
variable {m : Int} {X : Ctx}
def letB (c : Nat) : Bool := decide ((c : Int) ≥ 97) && decide ((c : Int) ≤ 122)
def digB (c : Nat) : Bool := decide ((c : Int) ≥ 48) && decide ((c : Int) ≤ 57)
def okB (c : Nat) : Bool := letB c || digB c || decide ((c : Int) = 45)
def nameB (s : List Nat) : Bool := decide (0 < s.length) && decide (s.length ≤ 32) && letB (s.getD 0 0) && s.all okB
/-- What is wrong at a place. -/
def badN (s : List Nat) (j : Nat) : Bool := !letB (s.getD j 0) && (decide (j = 0) || (!digB (s.getD j 0) && !decide ((s.getD j 0 : Int) = 45)))
abbrev R70 (s : List Nat) (i : Nat) : List V := [.c (.d (.str s)), .any, .any, .any, .any, i64 (s.length : Int), i64 (i : Int), .any, .any]
theorem r70 {E : Env} {N : Nat} {s : List Nat} {j : Nat} (hj : j < s.length) (hs : s.length < 1000000) : exec E N false fn70L0 ⟨R70 s j, []⟩ = some (if badN s j then .ret else .nrm, ⟨[.c (.d (.str s)), if badN s j then bl false else .any, i64 (j : Int), bl (letB (s.getD j 0)), bl (digB (s.getD j 0)), i64 (s.length : Int), i64 ((if badN s j then j else j + 1 : Nat) : Int), bl true, bl (badN s j)], []⟩) := by
  have h1 : (j : Int) < (s.length : Int) := by omega
  have h2 := wrap_succ (k := j) (by omega)
  have h3 : s[j]? = some (s.getD j 0) := by rw [List.getD_eq_getElem?_getD, List.getElem?_eq_getElem hj]; rfl
  unfold badN letB digB
  generalize s.getD j 0 = c at *
  have z1 : ((j : Int) == 0) = decide (j = 0) := by rw [Bool.eq_iff_iff, beq_iff_eq, decide_eq_true_eq]; omega
  have z2 : ((c : Int) != 45) = !decide ((c : Int) = 45) := rfl
  generalize decide (j = 0) = zb at *
  generalize decide ((c : Int) = 45) = eb at *
  by_cases a1 : (c : Int) ≥ 97 <;> by_cases a2 : (c : Int) ≤ 122 <;> by_cases b1 : (c : Int) ≥ 48 <;> by_cases b2 : (c : Int) ≤ 57 <;> cases eb <;> cases zb <;> first
    | (exfalso; omega)
    | (simp only [fn70L0, R70, h1, h2, h3, z1, z2, a1, a2, b1, b2, Bool.and_true, Bool.and_false, Bool.not_true, Bool.not_false, evs])
theorem name_bad {s : List Nat} : (∀ j, j < s.length → badN s j = false) ↔ (s.all okB = true ∧ (s ≠ [] → letB (s.getD 0 0) = true)) := by
  constructor
  · intro h
    refine ⟨?_, fun hne => ?_⟩
    · rw [List.all_eq_true]
      intro c hc
      obtain ⟨i, hi, rfl⟩ := List.getElem_of_mem hc
      have := h i hi
      unfold badN at this
      rw [List.getD_eq_getElem?_getD, List.getElem?_eq_getElem hi, Option.getD_some] at this
      unfold okB
      generalize s[i] = c at *
      cases hl : letB c <;> cases hd : digB c <;> cases he : decide ((c : Int) = 45) <;> simp_all
    · have := h 0 (List.length_pos_iff.2 hne)
      unfold badN at this
      simpa using this
  · intro ⟨h1, h2⟩ j hj
    rw [List.all_eq_true] at h1
    have h3 := h1 _ (List.getElem_mem hj)
    unfold badN
    unfold okB at h3
    rw [List.getD_eq_getElem?_getD, List.getElem?_eq_getElem hj, Option.getD_some]
    by_cases hz : j = 0
    · subst hz
      have h4 := h2 (by intro h; rw [h] at hj; cases hj)
      rw [List.getD_eq_getElem?_getD, List.getElem?_eq_getElem hj, Option.getD_some] at h4
      rw [h4]; rfl
    · generalize s[j] = c at *
      cases hl : letB c <;> cases hd : digB c <;> cases he : decide ((c : Int) = 45) <;> simp_all
theorem f70 (hX : XOk m X) {N : Nat} {s : List Nat} (hN : s.length + 5 ≤ N) (hs : s.length < 1000000) : vcallN X N 70 [.c (.d (.str s))] = some (bl (nameB s)) := by
  obtain ⟨N, rfl⟩ : ∃ M, N = M + 1 := ⟨N - 1, by omega⟩
  have hF : fnsA 70 = some fn70' := rfl
  suffices h : ∃ (H : Heap), callN X (N + 1) (.d (.fn 70 [] [])) [.c (.d (.str s))] [] = some (bl (nameB s), H) by
    obtain ⟨H, h⟩ := h
    exact vcall_of h rfl
  rw [hX.fn hF]
  have hsc := iter_find (js := some [0, 5, 6]) (hl := 0) (body := exec (zenv X N) N false fn70L0) (fun j => badN s j = true) s.length (fun i => ⟨R70 s i, []⟩) (b := 0) (s1 := ⟨[.c (.d (.str s)), .any, .any, .any, .any, i64 (s.length : Int), i64 (s.length : Int), bl false, .any], []⟩) (Q := fun k s => nth s.regs 1 = bl false) (fuel := N) (by omega)
    (by
      intro j hj hp
      have hp : badN s j = false := Bool.eq_false_iff.2 hp
      have := r70 (E := zenv X N) (N := N) hj hs
      rw [hp] at this
      exact ⟨_, this, gc_le (Nat.le_refl 0)⟩)
    (by simp only [fn70L0, R70, evs])
    (by
      intro j hj hp
      have := r70 (E := zenv X N) (N := N) hj hs
      rw [hp] at this
      exact ⟨_, this, rfl⟩)
  simp only [R70, i64, bl, Int.natCast_zero] at hsc
  rcases hsc with ⟨hno, hit⟩ | ⟨k, s', hk, hp, hno, hq, hit⟩
  · obtain ⟨g1, g2⟩ := name_bad.1 fun j hj => Bool.eq_false_iff.2 (hno j hj)
    by_cases c1 : (s.length : Int) > 0
    · have g3 := g2 (by intro h; rw [h] at c1; simp at c1)
      have g4 : 0 < s.length := by omega
      by_cases c2 : (s.length : Int) ≤ 32
      · have : nameB s = true := by unfold nameB; rw [g1, g3, decide_eq_true g4, decide_eq_true (by omega)]; rfl
        rw [this]
        refine ⟨[], (rf_fin _ _ _ _ _ _ _ _ _ (by rfl)).trans ?_⟩
        simp only [hit, c1, c2, evs, Nat.reduceAdd, Nat.reduceBEq, Nat.reduceSub]
      · have : nameB s = false := by unfold nameB; rw [decide_eq_false (p := s.length ≤ 32) (by omega)]; simp
        rw [this]
        refine ⟨[], (rf_fin _ _ _ _ _ _ _ _ _ (by rfl)).trans ?_⟩
        simp only [hit, c1, c2, evs, Nat.reduceAdd, Nat.reduceBEq, Nat.reduceSub]
    · have : nameB s = false := by unfold nameB; rw [decide_eq_false (p := 0 < s.length) (by omega)]; rfl
      rw [this]
      refine ⟨[], (rf_fin _ _ _ _ _ _ _ _ _ (by rfl)).trans ?_⟩
      simp only [hit, c1, evs, Nat.reduceAdd, Nat.reduceBEq, Nat.reduceSub]
  · have : nameB s = false := by
      rw [Bool.eq_false_iff]
      intro h
      unfold nameB at h
      simp only [Bool.and_eq_true] at h
      have := name_bad.2 ⟨h.2, fun _ => h.1.2⟩ k hk
      rw [this] at hp; cases hp
    rw [this]
    refine ⟨s'.heap, (rf_fin _ _ _ _ _ _ _ _ _ (by rfl)).trans ?_⟩
    obtain ⟨r, H⟩ := s'
    simp only at hq
    simp only [hit, hq, evs, Nat.reduceAdd, Nat.reduceBEq, Nat.reduceSub]
/-- Name, of the definition -/
theorem r56 {E : Env} {N : Nat} {s : List Nat} {j : Nat} (hj : j < s.length) (hs : s.length < 1000000) : exec E N false fn56L0 ⟨[.c (.d (.str s)), .any, i64 (j : Int), .any, .any, .any, .any, .any], []⟩ = some (if okB (s.getD j 0) then .nrm else .ret, ⟨[.c (.d (.str s)), if okB (s.getD j 0) then .any else bl false, i64 ((if okB (s.getD j 0) then j + 1 else j : Nat) : Int), bl (letB (s.getD j 0)), bl (digB (s.getD j 0)), .any, bl true, bl (!okB (s.getD j 0))], []⟩) := by
  have h1 : (j : Int) < (s.length : Int) := by omega
  have h2 := wrap_succ (k := j) (by omega)
  have h3 : s[j]? = some (s.getD j 0) := by rw [List.getD_eq_getElem?_getD, List.getElem?_eq_getElem hj]; rfl
  unfold okB letB digB
  generalize s.getD j 0 = c at *
  have z2 : ((c : Int) != 45) = !decide ((c : Int) = 45) := rfl
  generalize decide ((c : Int) = 45) = eb at *
  by_cases a1 : (c : Int) ≥ 97 <;> by_cases a2 : (c : Int) ≤ 122 <;> by_cases b1 : (c : Int) ≥ 48 <;> by_cases b2 : (c : Int) ≤ 57 <;> cases eb <;> first
    | (exfalso; omega)
    | (simp only [fn56L0, h1, h2, h3, z2, a1, a2, b1, b2, Bool.and_true, Bool.and_false, Bool.not_true, Bool.not_false, evs])
theorem f56 (hX : XOk m X) {N : Nat} {s : List Nat} (hN : s.length + 5 ≤ N) (hs : s.length < 1000000) : vcallN X N 56 [.c (.d (.str s))] = some (bl (nameB s)) := by
  obtain ⟨N, rfl⟩ : ∃ M, N = M + 1 := ⟨N - 1, by omega⟩
  have hF : fnsA 56 = some fn56' := rfl
  suffices h : ∃ (H : Heap), callN X (N + 1) (.d (.fn 56 [] [])) [.c (.d (.str s))] [] = some (bl (nameB s), H) by
    obtain ⟨H, h⟩ := h
    exact vcall_of h rfl
  rw [hX.fn hF]
  by_cases c1 : (s.length : Int) < 1
  · have : nameB s = false := by unfold nameB; rw [decide_eq_false (p := 0 < s.length) (by omega)]; rfl
    rw [this]
    refine ⟨[], (rf_fin _ _ _ _ _ _ _ _ _ (by rfl)).trans ?_⟩
    simp only [c1, evs, Nat.reduceSub]
  by_cases c2 : (s.length : Int) > 32
  · have : nameB s = false := by unfold nameB; rw [decide_eq_false (p := s.length ≤ 32) (by omega)]; simp
    rw [this]
    refine ⟨[], (rf_fin _ _ _ _ _ _ _ _ _ (by rfl)).trans ?_⟩
    simp only [c1, c2, evs, Nat.reduceSub]
  have h3 : s[0]? = some (s.getD 0 0) := by rw [List.getD_eq_getElem?_getD, List.getElem?_eq_getElem (by omega)]; rfl
  by_cases c3 : (s.getD 0 0 : Int) < 97
  · have : nameB s = false := by unfold nameB letB; rw [decide_eq_false (p := (s.getD 0 0 : Int) ≥ 97) (by omega)]; simp
    rw [this]
    refine ⟨[], (rf_fin _ _ _ _ _ _ _ _ _ (by rfl)).trans ?_⟩
    simp only [c1, c2, c3, h3, evs, Nat.reduceSub]
  by_cases c4 : (s.getD 0 0 : Int) > 122
  · have : nameB s = false := by unfold nameB letB; rw [decide_eq_false (p := (s.getD 0 0 : Int) ≤ 122) (by omega)]; simp
    rw [this]
    refine ⟨[], (rf_fin _ _ _ _ _ _ _ _ _ (by rfl)).trans ?_⟩
    simp only [c1, c2, c3, c4, h3, evs, Nat.reduceSub]
  have hname : nameB s = s.all okB := by
    unfold nameB letB
    rw [decide_eq_true (p := 0 < s.length) (by omega), decide_eq_true (p := s.length ≤ 32) (by omega), decide_eq_true (p := (s.getD 0 0 : Int) ≥ 97) (by omega), decide_eq_true (p := (s.getD 0 0 : Int) ≤ 122) (by omega)]
    simp
  have hsc := iter_find (js := some [0, 2]) (hl := 0) (body := exec (zenv X N) N false fn56L0) (fun j => okB (s.getD j 0) = false) s.length (fun i => ⟨[.c (.d (.str s)), .any, i64 (i : Int), .any, .any, .any, .any, .any], []⟩) (b := 0) (s1 := ⟨[.c (.d (.str s)), .any, i64 (s.length : Int), .any, .any, .any, bl false, .any], []⟩) (Q := fun k s => nth s.regs 1 = bl false) (fuel := N) (by omega)
    (by
      intro j hj hp
      have hp := Bool.not_eq_false _ ▸ hp
      have := r56 (E := zenv X N) (N := N) hj hs
      rw [hp] at this
      exact ⟨_, this, gc_le (Nat.le_refl 0)⟩)
    (by simp only [fn56L0, evs])
    (by
      intro j hj hp
      have := r56 (E := zenv X N) (N := N) hj hs
      rw [hp] at this
      exact ⟨_, this, rfl⟩)
  simp only [i64, bl, Int.natCast_zero] at hsc
  rw [hname]
  rcases hsc with ⟨hno, hit⟩ | ⟨k, s', hk, hp, hno, hq, hit⟩
  · have : s.all okB = true := by
      rw [List.all_eq_true]
      intro c hc
      obtain ⟨i, hi, rfl⟩ := List.getElem_of_mem hc
      have := hno i hi
      rw [List.getD_eq_getElem?_getD, List.getElem?_eq_getElem hi, Option.getD_some] at this
      exact Bool.not_eq_false _ ▸ this
    rw [this]
    refine ⟨[], (rf_fin _ _ _ _ _ _ _ _ _ (by rfl)).trans ?_⟩
    simp only [hit, c1, c2, c3, c4, h3, evs, Nat.reduceAdd, Nat.reduceBEq, Nat.reduceSub]
  · have : s.all okB = false := by
      rw [List.all_eq_false]
      refine ⟨_, List.getElem_mem hk, ?_⟩
      rw [List.getD_eq_getElem?_getD, List.getElem?_eq_getElem hk, Option.getD_some] at hp
      rw [hp]; simp
    rw [this]
    refine ⟨s'.heap, (rf_fin _ _ _ _ _ _ _ _ _ (by rfl)).trans ?_⟩
    obtain ⟨r, H⟩ := s'
    simp only at hq
    simp only [hit, hq, c1, c2, c3, c4, h3, evs, Nat.reduceAdd, Nat.reduceBEq, Nat.reduceSub]
end Mini
end Go.Proofs.YtgjlofpfbhioaaaGreatDoor
namespace Go.Proofs.YtgjlofpfbhioaaaGreatDoor
namespace Mini
open Go
variable {m : Int} {X : Ctx}
def anC (s : List Nat) (w : D) (b1 b2 b3 : Bool) : List C := [.d (.str s), .d w, .d (.bool b1), .d (.bool b2), .d (.bool b3)]
def inC (w : D) (b1 b2 b3 : Bool) : List C := [.d w, .d (.bool b1), .d (.bool b2), .d (.bool b3)]
def chkA (s : List Nat) (u : List Oid) : Nat := if nameB s = false then 18 else if chkS u ≠ 0 then chkS u else if u.length = 0 then 17 else 0
theorem f33 (hX : XOk m X) {N : Nat} (hN : 400 ≤ N) {s : List Nat} {w : D} {u : List Oid} {b1 b2 b3 : Bool} (hs : s.length ≤ 300) (hu : isSet w u) (hul : wfS u) (hlen : u.length < 1000000) : vcallN X N 33 [.agg (anC s w b1 b2 b3)] = some (i64 (chkA s u)) := by
  obtain ⟨N, rfl⟩ : ∃ M, N = M + 1 := ⟨N - 1, by omega⟩
  have h1 := hX.vc (k := 70) (F := fn70) rfl (f70 hX (N := N) (s := s) (by omega) (by omega))
  have h2 := hX.vc (k := 19) (F := fn19) rfl (f19 hX (N := N) (by omega) hu hul hlen)
  have h3 := hu.len
  simp only [i64, bl] at h1 h2
  refine vcall_of (r := i64 (chkA s u)) (H := [.cells (anC s w b1 b2 b3) 0 false]) ?_ rfl
  rw [hX.fn (F := fn33) rfl]
  refine (rf_fin _ _ _ _ _ _ _ _ _ (by rfl)).trans ?_
  unfold chkA
  cases hn : nameB s
  · rw [hn] at h1
    simp only [anC, ob?, h1, Bool.not_false, List.take, List.drop, Int.cast_ofNat_Int, evs, Nat.reduceSub]
  · rw [hn] at h1
    by_cases c1 : chkS u = 0
    · rw [c1] at h2 ⊢
      have g1 : (((0 : Nat) : Int) != 0) = false := rfl
      by_cases c2 : u.length = 0
      · have g2 : ((u.length : Int) == 0) = true := by rw [beq_iff_eq]; omega
        simp only [anC, ob?, h1, h2, h3, c2, Bool.not_true, ne_eq, not_true_eq_false, List.take, List.drop, Int.cast_ofNat_Int, ↓sp_len, evs, Nat.reduceSub, reduceCtorEq]
      · have g2 : ((u.length : Int) == 0) = false := by rw [beq_eq_false_iff_ne]; omega
        simp only [anC, ob?, h1, h2, h3, g2, c2, Bool.not_true, ne_eq, not_true_eq_false, List.take, List.drop, Int.cast_ofNat_Int, ↓sp_len, evs, Nat.reduceSub, reduceCtorEq]
    · have g1 : ((chkS u : Int) != 0) = true := by rw [bne_iff_ne]; omega
      simp only [anC, ob?, h1, h2, g1, c1, Bool.not_true, ne_eq, not_false_eq_true, List.take, List.drop, evs, Nat.reduceSub, reduceCtorEq]
theorem f22 (hX : XOk m X) {N : Nat} (hN : 400 ≤ N) {s : List Nat} {w : D} {u : List Oid} {b1 b2 b3 : Bool} (hs : s.length ≤ 300) (hu : isSet w u) (hul : wfS u) (hlen : u.length < 1000000) : vcallN X N 22 [.agg (anC s w b1 b2 b3)] = some (i64 (chkA s u)) := by
  obtain ⟨N, rfl⟩ : ∃ M, N = M + 1 := ⟨N - 1, by omega⟩
  have h1 := hX.vc (k := 56) (F := fn56) rfl (f56 hX (N := N) (s := s) (by omega) (by omega))
  have h2 := hX.vc (k := 19) (F := fn19) rfl (f19 hX (N := N) (by omega) hu hul hlen)
  have h3 := hu.len
  simp only [i64, bl] at h1 h2
  refine vcall_of (r := i64 (chkA s u)) (H := [.cells (anC s w b1 b2 b3) 0 false]) ?_ rfl
  rw [hX.fn (F := fn22) rfl]
  refine (rf_fin _ _ _ _ _ _ _ _ _ (by rfl)).trans ?_
  unfold chkA
  cases hn : nameB s
  · rw [hn] at h1
    simp only [anC, ob?, h1, Bool.not_false, List.take, List.drop, Int.cast_ofNat_Int, evs, Nat.reduceSub]
  · rw [hn] at h1
    by_cases c1 : chkS u = 0
    · rw [c1] at h2 ⊢
      have g1 : (((0 : Nat) : Int) != 0) = false := rfl
      by_cases c2 : u.length = 0
      · have g2 : ((u.length : Int) == 0) = true := by rw [beq_iff_eq]; omega
        simp only [anC, ob?, h1, h2, h3, c2, Bool.not_true, ne_eq, not_true_eq_false, List.take, List.drop, Int.cast_ofNat_Int, ↓sp_len, evs, Nat.reduceSub, reduceCtorEq]
      · have g2 : ((u.length : Int) == 0) = false := by rw [beq_eq_false_iff_ne]; omega
        simp only [anC, ob?, h1, h2, h3, g2, c2, Bool.not_true, ne_eq, not_true_eq_false, List.take, List.drop, Int.cast_ofNat_Int, ↓sp_len, evs, Nat.reduceSub, reduceCtorEq]
    · have g1 : ((chkS u : Int) != 0) = true := by rw [bne_iff_ne]; omega
      simp only [anC, ob?, h1, h2, g1, c1, Bool.not_true, ne_eq, not_false_eq_true, List.take, List.drop, evs, Nat.reduceSub, reduceCtorEq]
theorem f23 (hX : XOk m X) {N : Nat} (hN : 400 ≤ N) {w : D} {u : List Oid} {b1 b2 b3 : Bool} (hu : isSet w u) (hul : wfS u) (hlen : u.length < 1000000) : vcallN X N 23 [.agg (inC w b1 b2 b3)] = some (i64 (chkS u)) := by
  obtain ⟨N, rfl⟩ : ∃ M, N = M + 1 := ⟨N - 1, by omega⟩
  have h2 := hX.vc (k := 19) (F := fn19) rfl (f19 hX (N := N) (by omega) hu hul hlen)
  simp only [i64] at h2
  refine vcall_of (r := i64 (chkS u)) (H := [.cells (inC w b1 b2 b3) 0 false]) ?_ rfl
  rw [hX.fn (F := fn23) rfl]
  refine (rf_fin _ _ _ _ _ _ _ _ _ (by rfl)).trans ?_
  simp only [inC, ob?, h2, List.take, List.drop, evs, Nat.reduceSub]
/-- Equal inputs -/
def givenB (l l' : List Oid) (b1 b2 b3 c1 c2 c3 : Bool) : Nat := if b1 = c1 ∧ b2 = c2 ∧ b3 = c3 then (if l = l' then 1 else 0) else 0
set_option maxHeartbeats 2000000 in
theorem f24 (hX : XOk m X) {N : Nat} (hN : 400 ≤ N) {w w' : D} {l l' : List Oid} {b1 b2 b3 c1 c2 c3 : Bool} (hw : isSet w l) (hw' : isSet w' l') (hl : wfS l) (hl' : wfS l') (hlen : l.length ≤ 300) : vcallN X N 24 [.agg (inC w b1 b2 b3), .agg (inC w' c1 c2 c3)] = some (i64 (givenB l l' b1 b2 b3 c1 c2 c3)) := by
  obtain ⟨N, rfl⟩ : ∃ M, N = M + 1 := ⟨N - 1, by omega⟩
  have h2 := hX.vc (k := 20) (F := fn20) rfl (f20 hX (N := N) (by omega) hw hw' hl hl' (by omega))
  simp only [i64] at h2
  refine vcall_of (r := i64 (givenB l l' b1 b2 b3 c1 c2 c3)) (H := [.cells (inC w b1 b2 b3) 0 false, .cells (inC w' c1 c2 c3) 0 false]) ?_ rfl
  rw [hX.fn (F := fn24) rfl]
  refine (rf_fin _ _ _ _ _ _ _ _ _ (by rfl)).trans ?_
  have g1 : (true == false) = false := rfl
  have g2 : (false == true) = false := rfl
  have g3 : (true == true) = true := rfl
  have g4 : (false == false) = true := rfl
  unfold givenB
  by_cases he : l = l' <;> cases b1 <;> cases b2 <;> cases b3 <;> cases c1 <;> cases c2 <;> cases c3 <;>
    simp only [inC, ob?, h2, he, g1, g2, g3, g4, Bool.true_xor, Bool.not_false, Int.natCast_zero, Int.natCast_one, List.take, List.drop, evs, Nat.reduceAdd, Nat.reduceSub, reduceCtorEq]
set_option maxHeartbeats 2000000 in
/-- The inputs from an anchor. -/
theorem f17 (hX : XOk m X) {N : Nat} (hN : 402 ≤ N) {s : List Nat} {w w' : D} {l l' : List Oid} {b1 b2 b3 c1 c2 c3 : Bool} (hs : s.length ≤ 300) (hw : isSet w l) (hw' : isSet w' l') (hl : wfS l) (hl' : wfS l') (hlen : l.length ≤ 300) (hlen' : l'.length ≤ 300) :
    ∃ x, vcallN X N 17 [.agg (anC s w b1 b2 b3), .agg (inC w' c1 c2 c3)] = some (.tup [.agg (if err2 (chkA s l) (chkS l') = 0 then inC x (b1 || c1) (b2 || c2) (b3 || c3) else inC .nils false false false), i64 (err2 (chkA s l) (chkS l'))]) ∧ isSet x (meetL l l') := by
  obtain ⟨N, rfl⟩ : ∃ M, N = M + 1 := ⟨N - 1, by omega⟩
  have h1 := hX.vc (k := 33) (F := fn33) rfl (f33 hX (N := N) (s := s) (b1 := b1) (b2 := b2) (b3 := b3) (by omega) (by omega) hw hl (by omega))
  have h2 := hX.vc (k := 23) (F := fn23) rfl (f23 hX (N := N) (b1 := c1) (b2 := c2) (b3 := c3) (by omega) hw' hl' (by omega))
  obtain ⟨r, t, h3, hr⟩ := f52 hX (N := N) (by omega) hw hw' hl hl' hlen hlen' (H := []) Hp.nil
  obtain ⟨x, hdx, hx⟩ := hr.deep (meetL_wf hl hl')
  have h4 := hX.vc (k := 52) (F := fn52) rfl (vcall_of h3 (by
    rcases hr with ⟨_, rfl⟩ | ⟨id, rfl, _⟩ <;> exact hdx))
  simp only [i64] at h1 h2
  refine ⟨x, ?_, hx⟩
  suffices h : ∃ (H : Heap), callN X (N + 1) (.d (.fn 17 [] [])) [.agg (anC s w b1 b2 b3), .agg (inC w' c1 c2 c3)] [] = some (.tup [.agg (if err2 (chkA s l) (chkS l') = 0 then inC x (b1 || c1) (b2 || c2) (b3 || c3) else inC .nils false false false), i64 (err2 (chkA s l) (chkS l'))], H) by
    obtain ⟨H, h⟩ := h
    refine vcall_of h ?_
    split <;> rfl
  rw [hX.fn (F := fn17) rfl]
  by_cases e1 : chkA s l = 0
  · have q : err2 (chkA s l) (chkS l') = chkS l' := by unfold err2; rw [e1]; rfl
    rw [q]
    rw [e1] at h1
    have g1 : (((0 : Nat) : Int) != 0) = false := rfl
    by_cases e2 : chkS l' = 0
    · rw [e2, if_pos rfl]
      rw [e2] at h2
      refine ⟨[.cells (anC s w b1 b2 b3) 0 false, .cells (inC w' c1 c2 c3) 0 false, .cells (inC x (b1 || c1) (b2 || c2) (b3 || c3)) 0 false], (rf_fin _ _ _ _ _ _ _ _ _ (by rfl)).trans ?_⟩
      cases b1 <;> cases b2 <;> cases b3 <;>
        simp only [anC, inC] at h1 h2 ⊢ <;>
        simp only [ob?, h1, h2, h4, lay, splice, freeze_nil, reachV, reachC, ite_self, List.flatMap_cons, List.flatMap_nil, List.set_cons_zero, List.set_cons_succ, List.take, List.drop, Int.natCast_zero, List.map_cons, List.map_nil, evs, Nat.reduceAdd, Nat.reduceLeDiff, Nat.reduceSub]
    · have g2 : ((chkS l' : Int) != 0) = true := by rw [bne_iff_ne]; omega
      rw [if_neg e2]
      refine ⟨[.cells (anC s w b1 b2 b3) 0 false, .cells (inC w' c1 c2 c3) 0 false, .cells (inC .nils false false false) 0 false], (rf_fin _ _ _ _ _ _ _ _ _ (by rfl)).trans ?_⟩
      simp only [anC, inC] at h1 h2 ⊢
      simp only [ob?, h1, h2, g1, g2, lay, splice, List.set_cons_zero, List.set_cons_succ, List.take, List.drop, List.map_cons, List.map_nil, evs, Nat.reduceAdd, Nat.reduceLeDiff, Nat.reduceSub]
  · have g2 : ((chkA s l : Int) != 0) = true := by rw [bne_iff_ne]; omega
    have q : err2 (chkA s l) (chkS l') = chkA s l := by unfold err2; rw [if_pos e1]
    rw [q, if_neg e1]
    refine ⟨[.cells (anC s w b1 b2 b3) 0 false, .cells (inC w' c1 c2 c3) 0 false, .cells (inC .nils false false false) 0 false], (rf_fin _ _ _ _ _ _ _ _ _ (by rfl)).trans ?_⟩
    simp only [anC, inC] at h1 h2 ⊢
    simp only [ob?, h1, g2, lay, splice, List.set_cons_zero, List.set_cons_succ, List.take, List.drop, List.map_cons, List.map_nil, evs, Nat.reduceAdd, Nat.reduceLeDiff, Nat.reduceSub]
end Mini
end Go.Proofs.YtgjlofpfbhioaaaGreatDoor
namespace Go.Proofs.YtgjlofpfbhioaaaGreatDoor
namespace Mini
open Go
variable {m : Int} {X : Ctx}
theorem f16 (hX : XOk m X) {N : Nat} (hN : 200 ≤ N) : (zenv X N).vcall 16 [] = some (.c (.d (.bool true))) := hX.vc (k := 16) (F := fn16) rfl (hX.run (lives39_run m) hN)
theorem chkA_zero {s : List Nat} {l : List Oid} (h : chkA s l = 0) : chkS l = 0 := by
  unfold chkA at h
  split at h
  · cases h
  split at h
  · rename_i h1 h2; exact absurd h h2
  · rename_i h1 h2; exact Decidable.not_not.1 h2
theorem deepV1_inv {H : Heap} {x : C} {w : D} (h : deepV1 H (.c x) = some (.c (.d w))) : deepC H deepMax x = some w := by
  simp only [deepV1] at h
  cases hd : deepC H deepMax x with
  | none => rw [hd] at h; cases h
  | some y => rw [hd] at h; cases h; rfl
set_option maxHeartbeats 2000000 in
theorem f3 (hX : XOk m X) {N : Nat} (hN : 500 ≤ N) {s : List Nat} {w w' : D} {l l' : List Oid} {b1 b2 b3 c1 c2 c3 : Bool} (hw : isSet w l) (hw' : isSet w' l') (hl : wfS l) (hl' : wfS l') : vcallN X N 3 [.agg (anC s w b1 b2 b3), .agg (inC w' c1 c2 c3)] = some (bl true) := by
  obtain ⟨N, rfl⟩ : ∃ M, N = M + 1 := ⟨N - 1, by omega⟩
  have hlv := f16 hX (N := N) (by omega)
  have hlw := hw.len
  have hlw' := hw'.len
  suffices h : ∃ (H : Heap), callN X (N + 1) (.d (.fn 3 [] [])) [.agg (anC s w b1 b2 b3), .agg (inC w' c1 c2 c3)] [] = some (bl true, H) by
    obtain ⟨H, h⟩ := h
    exact vcall_of h rfl
  rw [hX.fn (F := fn3) rfl]
  by_cases p1 : (l.length : Int) > 20
  · refine ⟨[.cells (anC s w b1 b2 b3) 0 false, .cells (inC w' c1 c2 c3) 0 false], (rf_fin _ _ _ _ _ _ _ _ _ (by rfl)).trans ?_⟩
    simp only [anC, inC, ob?, hlv, hlw, p1, List.take, List.drop, ↓sp_len, evs, Nat.reduceAdd, Nat.reduceSub]
  by_cases p2 : (l'.length : Int) > 20
  · refine ⟨[.cells (anC s w b1 b2 b3) 0 false, .cells (inC w' c1 c2 c3) 0 false], (rf_fin _ _ _ _ _ _ _ _ _ (by rfl)).trans ?_⟩
    simp only [anC, inC, ob?, hlv, hlw, hlw', p1, p2, List.take, List.drop, ↓sp_len, evs, Nat.reduceAdd, Nat.reduceSub]
  by_cases p3 : (s.length : Int) > 100
  · refine ⟨[.cells (anC s w b1 b2 b3) 0 false, .cells (inC w' c1 c2 c3) 0 false], (rf_fin _ _ _ _ _ _ _ _ _ (by rfl)).trans ?_⟩
    simp only [anC, inC, ob?, hlv, hlw, hlw', p1, p2, p3, List.take, List.drop, ↓sp_len, evs, Nat.reduceAdd, Nat.reduceSub]
  have k1 : l.length ≤ 300 := by omega
  have k2 : l'.length ≤ 300 := by omega
  obtain ⟨x, h17, hx⟩ := f17 hX (N := N) (s := s) (b1 := b1) (b2 := b2) (b3 := b3) (c1 := c1) (c2 := c2) (c3 := c3) (by omega) (by omega) hw hw' hl hl' k1 k2
  have h17 := hX.vc (k := 17) (F := fn17) rfl h17
  have h19 := hX.vc (k := 19) (F := fn19) rfl (f19 hX (N := N) (by omega) hw hl (by omega))
  have h19' := hX.vc (k := 19) (F := fn19) rfl (f19 hX (N := N) (by omega) hw' hl' (by omega))
  have h22 := hX.vc (k := 22) (F := fn22) rfl (f22 hX (N := N) (s := s) (b1 := b1) (b2 := b2) (b3 := b3) (by omega) (by omega) hw hl (by omega))
  have h23 := hX.vc (k := 23) (F := fn23) rfl (f23 hX (N := N) (b1 := c1) (b2 := c2) (b3 := c3) (by omega) hw' hl' (by omega))
  obtain ⟨y, h21, hy⟩ := f21 hX (N := N) (by omega) hw hw' hl hl' k1 k2
  have h21 := hX.vc (k := 21) (F := fn21) rfl h21
  have hmw := meetL_wf hl hl'
  have hml : (meetL l l').length ≤ 300 := by
    unfold meetL
    split
    · simp
    split
    · exact k2
    split
    · exact k1
    · exact Nat.le_trans (List.length_filter_le _ _) k1
  have hz : isSet .nils [] := .inl ⟨rfl, rfl⟩
  have h24 := hX.vc (k := 24) (F := fn24) rfl (f24 hX (N := N) (by omega) (b1 := b1 || c1) (b2 := b2 || c2) (b3 := b3 || c3) (c1 := b1 || c1) (c2 := b2 || c2) (c3 := b3 || c3) hx hy hmw hmw hml)
  have h24' := hX.vc (k := 24) (F := fn24) rfl (f24 hX (N := N) (by omega) (b1 := false) (b2 := false) (b3 := false) (c1 := false) (c2 := false) (c3 := false) hz hz (fun _ h => by cases h) (fun _ h => by cases h) (by simp))
  have q24 : givenB (meetL l l') (meetL l l') (b1 || c1) (b2 || c2) (b3 || c3) (b1 || c1) (b2 || c2) (b3 || c3) = 1 := by unfold givenB; simp
  have q24' : givenB [] [] false false false false false false = 1 := rfl
  rw [q24] at h24
  rw [q24'] at h24'
  have hRp : ∀ (R : List C), R.all C.isD = true → Hp 3 [Ob.cells (anC s w b1 b2 b3) 0 false, .cells (inC w' c1 c2 c3) 0 false, .cells R 0 false] := by
    intro R hR
    refine Hp.cons rfl (Hp.cons rfl (Hp.cons ?_ Hp.nil))
    simp only [uO, List.all_eq_true] at hR ⊢
    intro c hc
    have := hR c hc
    cases c <;> first | rfl | cases this
  have g0 : ((1 : Int) == 1) = true := rfl
  have g5 : ((1 : Int) == 0) = false := rfl
  simp only [anC, inC, i64, Int.natCast_one] at h17 h19 h19' h22 h23 h24 h24'
  by_cases hA : chkA s l = 0
  · have hB := chkA_zero hA
    have q1 : err2 (chkA s l) (chkS l') = chkS l' := by unfold err2; rw [hA]; rfl
    have q2 : err2 (chkS l) (chkS l') = chkS l' := by unfold err2; rw [hB]; rfl
    rw [q1] at h17
    rw [hA] at h22
    rw [hB] at h19
    by_cases hC : chkS l' = 0
    · rw [hC, if_pos rfl] at h17
      rw [hC] at h19' h23
      obtain ⟨r, t, h18, hr⟩ := f18 hX (N := N) (by omega) hw hw' hl hl' k1 k2 (hRp (inC x (b1 || c1) (b2 || c2) (b3 || c3)) rfl)
      rw [q2, hC, if_pos rfl] at hr
      rw [q2, hC] at h18
      obtain ⟨wr, hdw, hwr⟩ := hr.deep hmw
      have h20 := hX.vc (k := 20) (F := fn20) rfl (f20 hX (N := N) (by omega) hwr hy hmw hmw (by omega))
      rw [if_pos rfl] at h20
      simp only [anC, inC, i64, List.cons_append, List.nil_append] at h18 h20 hdw
      refine ⟨.cells (anC s w b1 b2 b3) 0 false :: .cells (inC w' c1 c2 c3) 0 false :: .cells (inC x (b1 || c1) (b2 || c2) (b3 || c3)) 0 false :: t, (rf_fin _ _ _ _ _ _ _ _ _ (by rfl)).trans ?_⟩
      rcases hr with ⟨_, rfl⟩ | ⟨id, rfl, _⟩
      · have hq : some (V.c (.d .nils)) = some (V.c (.d wr)) := hdw
        cases hq
        cases b1 <;> cases b2 <;> cases b3 <;>
          (simp only [Bool.true_or, Bool.false_or] at h17 h18 h24 ⊢
           simp only [g5, anC, inC, ob?, hlv, hlw, hlw', p1, p2, p3, h17, h18, h19, h19', h20, h21, h22, h23, h24, g0, lay, splice, freeze_nil, reachV, reachC, ite_self, List.flatMap_cons, List.flatMap_nil, List.take, List.drop, Int.natCast_zero, List.map_cons, List.map_nil, ↓sp_len, evs, Nat.reduceAdd, Nat.reduceLeDiff, Nat.reduceSub])
      · have hdw := deepV1_inv hdw
        cases b1 <;> cases b2 <;> cases b3 <;>
          (simp only [Bool.true_or, Bool.false_or] at h17 h18 h24 hdw ⊢
           simp only [g5, anC, inC, ob?, hlv, hlw, hlw', p1, p2, p3, h17, h18, h19, h19', h20, h21, h22, h23, h24, hdw, g0, lay, splice, freeze_nil, reachV, reachC, ite_self, List.flatMap_cons, List.flatMap_nil, List.take, List.drop, Int.natCast_zero, List.map_cons, List.map_nil, ↓sp_len, evs, Nat.reduceAdd, Nat.reduceLeDiff, Nat.reduceSub])
    · have gC1 : ((chkS l' : Int) == 0) = false := by rw [beq_eq_false_iff_ne]; omega
      have gC2 : ((chkS l' : Int) != 0) = true := by rw [bne_iff_ne]; omega
      rw [if_neg hC] at h17
      obtain ⟨r, t, h18, hr⟩ := f18 hX (N := N) (by omega) hw hw' hl hl' k1 k2 (hRp (inC .nils false false false) rfl)
      rw [q2, if_neg hC] at hr
      rw [q2] at h18
      simp only [anC, inC, i64, List.cons_append, List.nil_append] at h18
      refine ⟨.cells (anC s w b1 b2 b3) 0 false :: .cells (inC w' c1 c2 c3) 0 false :: .cells (inC .nils false false false) 0 false :: t, (rf_fin _ _ _ _ _ _ _ _ _ (by rfl)).trans ?_⟩
      rcases hr with ⟨_, rfl⟩ | ⟨id, rfl, _⟩
      · simp only [anC, inC, ob?, hlv, hlw, hlw', p1, p2, p3, h17, h18, h19, h19', h22, h23, h24', gC1, gC2, g0, lay, freeze_nil, reachV, reachC, ite_self, List.flatMap_cons, List.flatMap_nil, List.take, List.drop, Int.natCast_zero, List.map_cons, List.map_nil, ↓sp_len, evs, Nat.reduceAdd, Nat.reduceSub]
      · simp only [anC, inC, ob?, hlv, hlw, hlw', p1, p2, p3, h17, h18, h19, h19', h22, h23, h24', gC1, gC2, g0, lay, freeze_nil, reachV, reachC, ite_self, List.flatMap_cons, List.flatMap_nil, List.take, List.drop, Int.natCast_zero, List.map_cons, List.map_nil, ↓sp_len, evs, Nat.reduceAdd, Nat.reduceSub]
  · have gA1 : ((chkA s l : Int) == 0) = false := by rw [beq_eq_false_iff_ne]; omega
    have gA2 : ((chkA s l : Int) != 0) = true := by rw [bne_iff_ne]; omega
    have q1 : err2 (chkA s l) (chkS l') = chkA s l := by unfold err2; rw [if_pos hA]
    rw [q1, if_neg hA] at h17
    obtain ⟨r, t, h18, hr⟩ := f18 hX (N := N) (by omega) hw hw' hl hl' k1 k2 (hRp (inC .nils false false false) rfl)
    by_cases hB : chkS l = 0
    · have q2 : err2 (chkS l) (chkS l') = chkS l' := by unfold err2; rw [hB]; rfl
      rw [q2] at h18 hr
      rw [hB] at h19
      by_cases hC : chkS l' = 0
      · rw [hC] at h19' h23 h18
        rw [if_pos hC] at hr
        obtain ⟨wr, hdw, hwr⟩ := hr.deep hmw
        have h20 := hX.vc (k := 20) (F := fn20) rfl (f20 hX (N := N) (by omega) hwr hy hmw hmw (by omega))
        rw [if_pos rfl] at h20
        simp only [anC, inC, i64, List.cons_append, List.nil_append] at h18 h20 hdw
        refine ⟨.cells (anC s w b1 b2 b3) 0 false :: .cells (inC w' c1 c2 c3) 0 false :: .cells (inC .nils false false false) 0 false :: t, (rf_fin _ _ _ _ _ _ _ _ _ (by rfl)).trans ?_⟩
        rcases hr with ⟨_, rfl⟩ | ⟨id, rfl, _⟩
        · have hq : some (V.c (.d .nils)) = some (V.c (.d wr)) := hdw
          cases hq
          simp only [g5, anC, inC, ob?, hlv, hlw, hlw', p1, p2, p3, h17, h18, h19, h19', h20, h21, h22, h24', gA1, gA2, g0, lay, freeze_nil, reachV, reachC, ite_self, List.flatMap_cons, List.flatMap_nil, List.take, List.drop, Int.natCast_zero, List.map_cons, List.map_nil, ↓sp_len, evs, Nat.reduceAdd, Nat.reduceSub]
        · have hdw := deepV1_inv hdw
          simp only [g5, anC, inC, ob?, hlv, hlw, hlw', p1, p2, p3, h17, h18, h19, h19', h20, h21, h22, h24', hdw, gA1, gA2, g0, lay, freeze_nil, reachV, reachC, ite_self, List.flatMap_cons, List.flatMap_nil, List.take, List.drop, Int.natCast_zero, List.map_cons, List.map_nil, ↓sp_len, evs, Nat.reduceAdd, Nat.reduceSub]
      · have gC1 : ((chkS l' : Int) == 0) = false := by rw [beq_eq_false_iff_ne]; omega
        have gC2 : ((chkS l' : Int) != 0) = true := by rw [bne_iff_ne]; omega
        rw [if_neg hC] at hr
        simp only [anC, inC, i64, List.cons_append, List.nil_append] at h18
        refine ⟨.cells (anC s w b1 b2 b3) 0 false :: .cells (inC w' c1 c2 c3) 0 false :: .cells (inC .nils false false false) 0 false :: t, (rf_fin _ _ _ _ _ _ _ _ _ (by rfl)).trans ?_⟩
        rcases hr with ⟨_, rfl⟩ | ⟨id, rfl, _⟩
        · simp only [anC, inC, ob?, hlv, hlw, hlw', p1, p2, p3, h17, h18, h19, h19', h22, h24', gA1, gA2, gC1, gC2, g0, lay, freeze_nil, reachV, reachC, ite_self, List.flatMap_cons, List.flatMap_nil, List.take, List.drop, Int.natCast_zero, List.map_cons, List.map_nil, ↓sp_len, evs, Nat.reduceAdd, Nat.reduceSub]
        · simp only [anC, inC, ob?, hlv, hlw, hlw', p1, p2, p3, h17, h18, h19, h19', h22, h24', gA1, gA2, gC1, gC2, g0, lay, freeze_nil, reachV, reachC, ite_self, List.flatMap_cons, List.flatMap_nil, List.take, List.drop, Int.natCast_zero, List.map_cons, List.map_nil, ↓sp_len, evs, Nat.reduceAdd, Nat.reduceSub]
    · have gB1 : ((chkS l : Int) == 0) = false := by rw [beq_eq_false_iff_ne]; omega
      have gB2 : ((chkS l : Int) != 0) = true := by rw [bne_iff_ne]; omega
      have q2 : err2 (chkS l) (chkS l') = chkS l := by unfold err2; rw [if_pos hB]
      rw [q2] at h18 hr
      rw [if_neg hB] at hr
      simp only [anC, inC, i64, List.cons_append, List.nil_append] at h18
      refine ⟨.cells (anC s w b1 b2 b3) 0 false :: .cells (inC w' c1 c2 c3) 0 false :: .cells (inC .nils false false false) 0 false :: t, (rf_fin _ _ _ _ _ _ _ _ _ (by rfl)).trans ?_⟩
      rcases hr with ⟨_, rfl⟩ | ⟨id, rfl, _⟩
      · simp only [anC, inC, ob?, hlv, hlw, hlw', p1, p2, p3, h17, h18, h19, h19', h22, h24', gA1, gA2, gB1, gB2, g0, lay, freeze_nil, reachV, reachC, ite_self, List.flatMap_cons, List.flatMap_nil, List.take, List.drop, List.map_cons, List.map_nil, ↓sp_len, evs, Nat.reduceAdd, Nat.reduceSub]
      · simp only [anC, inC, ob?, hlv, hlw, hlw', p1, p2, p3, h17, h18, h19, h19', h22, h24', gA1, gA2, gB1, gB2, g0, lay, freeze_nil, reachV, reachC, ite_self, List.flatMap_cons, List.flatMap_nil, List.take, List.drop, Int.natCast_zero, List.map_cons, List.map_nil, ↓sp_len, evs, Nat.reduceAdd, Nat.reduceSub]
end Mini
end Go.Proofs.YtgjlofpfbhioaaaGreatDoor
