/-
  The law on long paths, walked.
-/
import Derived.Test.YtcilepbdddgpoaaDoorMiniX7
import Derived.Test.YtcilepbdddgpoaaDoorMiniT2
namespace Go.Proofs.YtcilepbdddgpoaaDoor
namespace Mini
open Go

theorem p12 (N : Nat) (v lo hi : Int) : (zenv X6 N).vcall 12 [.c (.d (.int .i64 v)), .c (.d (.int .i64 lo)), .c (.d (.int .i64 hi))] = some (.c (.d (.bool (w v lo hi)))) := zenv_prim rfl
theorem p13 (N : Nat) : (zenv X6 N).vcall 13 [] = some (.c (.d (.bool true))) := zenv_prim rfl
theorem dv_d (H : Heap) (x : D) : deepV1 H (.c (.d x)) = some (.c (.d x)) := by simp only [deepV1, deepC_dd]; rfl
theorem dv_sl (H : Heap) (F : Nat → List D) (n : Nat) : deepV1 H (slV F n) = some (slV F n) := dv_d H _
theorem dv_inps (H : Heap) : deepV1 H (.agg inpsC) = some (.agg inpsC) := rfl
def z4 (a b c d : Int) : List C := [.d (.int .i64 a), .d (.int .i64 b), .d (.int .i64 c), .d (.int .i64 d)]
theorem law4_out (a b c d : Int) (h : inLw a b c = false) : vcallN X6 1003 4 [.agg (z4 a b c d)] = some (bl true) := by
  have hX : X6.fns 4 = some fn4' := rfl
  have h17 := r17_out (X := X6) rfl (N := 1001) (fun n p m => p37 1001 n p m) a b c h [.cells (z4 a b c d) 0 false]
  have h18 := zenv_vcall (X := X6) (n := 1002) (f := 18) rfl (r18_out 1001 a b c h)
  have h19 := zenv_vcall (X := X6) (n := 1002) (f := 19) rfl (r19_out 1001 a b c d (by rw [h]; rfl))
  refine vcall_of (H := [.cells (z4 a b c d) 0 false, .cells inp0 0 false, .cells inp0 0 false]) (r := bl true) ?_ rfl
  rw [callN_fn hX]
  refine (rf_fin _ _ _ _ _ _ _ _ _ (by rfl)).trans ?_
  simp only [inp0, z4, i64, Nat.reduceAdd, List.cons_append, List.nil_append] at h17 h18 h19
  unfold inLw at h
  cases h1 : w a 1 64 <;> cases h2 : w b 0 63 <;> cases h3 : w c 0 64 <;> first
    | (rw [h1, h2, h3] at h; cases h; done)
    | simp only [z4, inp0, List.map_cons, List.map_nil, pad, List.replicate, Nat.reduceSub, List.cons_append, List.nil_append, byValue, mapO, dv_d, ob?, zenv_call, h17, h18, h19, p12, p13, h1, h2, h3, V.flat, V.flat1, C.flat, D.flat, List.all_cons, Bool.and_self, List.take_zero, List.take_succ_cons, List.drop_zero, List.drop_succ_cons, List.getElem?_cons_zero, List.getElem?_cons_succ, results, result, Nat.reduceLT, asNat, asInt, Int.reduceLE, Int.reduceToNat, Bool.not_true, Bool.not_false, beq_self_eq_true, cont_some, ro_nil, ro_none, ro_some, gc_tt, gc_ff, gc_tf, ex_seq, sq_nrm, sq_ret, ex_reg, rg_some, ex_cond, cd_t, ex_ret, fin_ret, Mini.step, stepP, stepE, O.eff, Mini.look, nth, put, exports, bin, binInt, un, bl, ofCells, V.cells, List.length_cons, List.length_nil, Option.map_some, if_true, if_false, List.all_nil, Nat.zero_add, Nat.add_zero, Nat.mul_one, Bool.false_eq_true, Nat.reduceAdd]
theorem r16' : vcallN X6 1002 16 [.agg inpsC] = some (i64 1) := by
  rw [← vcallF_eq]
  kernel_rfl
theorem longV_R (n p m : Nat) : longV n p m = slV (fun j => recD j p m) n := by rw [longV, slV, recsD_R]
theorem law4_in (a b c d : Int) (h : inLw a b c = true) : vcallN X6 1003 4 [.agg (z4 a b c d)] = some (bl true) := by
  have hX : X6.fns 4 = some fn4' := rfl
  have h' := h
  obtain ⟨n, p, m, rfl, rfl, rfl, k1, k2, k3, k4⟩ := inLw_nat h
  obtain ⟨H', h17, hdeep, hold⟩ := fn17_in (X := X6) rfl rfl (N := 1000) (by omega) (fun _ _ => zenv_prim rfl) (zenv_prim rfl) (zenv_prim rfl) (fun _ _ _ => zenv_prim rfl) k1 k2 k3 k4 [.cells (z4 n p m d) 0 false] (Hp.cons rfl Hp.nil)
  have hz := hold 0 (by simp)
  have h18 := zenv_vcall (X := X6) (n := 1002) (f := 18) rfl (r18_in 1001 (by omega) n p m k2 h)
  have h20 := zenv_vcall (X := X6) (n := 1002) (f := 20) rfl (q20 n p m k2 k3 k4 X6 rfl (fun _ _ => rfl) rfl rfl)
  have h14 := zenv_vcall (X := X6) (n := 1002) (f := 14) rfl (fn14_ok (X := X6) rfl (N := 1001) (n := n) (F := fun j => recD j p m) (G := recRL p m) (by omega) (fun _ => rfl) (fun _ => rfl) (by omega) (fun j _ => match_long p m j (by omega) (by omega)))
  have h16 : (zenv X6 1002).vcall 16 [.agg inpsC] = some (i64 1) := zenv_vcall rfl r16'
  have hb := hdeep [.cells inpsC 0 false]
  rw [longV_R] at hb
  simp only [inLw, Bool.and_eq_true] at h'
  obtain ⟨⟨h1, h2⟩, h3⟩ := h'
  have hat : ∀ t, (H' ++ t)[0]? = some (Ob.cells (z4 n p m d) 0 false) := fun t => by
    rw [List.getElem?_append_left]
    · exact hz
    · exact (List.getElem?_eq_some_iff.1 hz).1
  have hfr : ∀ H : Heap, freeze H [] = H := fun _ => rfl
  have hrd : ∀ (H : Heap) (x : D), reachV H (.c (.d x)) = [] := fun _ _ => rfl
  have hii : inpsC.take 4 = inpsC := rfl
  have hil : inpsC.length = 4 := rfl
  have hlev : ∃ lv er, (zenv X6 1002).vcall 19 [i64 n, i64 p, i64 m, i64 d] = some (.tup [i64 lv, i64 er]) ∧ ((w d 0 n = true ∧ er = 0) ∨ (w d 0 n = false ∧ er = 1 ∧ lv = 0)) := by
    cases hw : w d 0 n with
    | true => exact ⟨_, _, zenv_vcall (X := X6) rfl (r19_in 1001 n p m d h hw), Or.inl ⟨rfl, rfl⟩⟩
    | false => exact ⟨_, _, zenv_vcall (X := X6) rfl (r19_out 1001 n p m d (by rw [hw, Bool.and_false])), Or.inr ⟨rfl, rfl, rfl⟩⟩
  obtain ⟨lv, er, h19, hcase⟩ := hlev
  refine vcall_of (H := H' ++ [.cells inpsC 0 false]) (r := bl true) ?_ rfl
  rw [callN_fn hX]
  refine (rf_fin _ _ _ _ _ _ _ _ _ (by rfl)).trans ?_
  simp only [z4, os8, i64, Nat.reduceAdd, List.length_cons, List.length_nil] at h17 h18 h19 h14 h20 h16 hb hat
  rcases hcase with ⟨hw, rfl⟩ | ⟨hw, rfl, rfl⟩
  · simp only [z4, List.map_cons, List.map_nil, pad, List.replicate, Nat.reduceSub, List.cons_append, List.nil_append, byValue, mapO, dv_d, dv_sl, dv_inps, hb, ob?, at0, hat, hii, hil, hfr, hrd, ite_self, List.flatMap_cons, List.flatMap_nil, zenv_call, h17, h18, h19, h20, h14, h16, p12, p13, h1, h2, h3, hw, V.flat, V.flat1, C.flat, D.flat, List.all_cons, Bool.and_self, List.take_zero, List.take_succ_cons, List.drop_zero, List.drop_succ_cons, List.getElem?_cons_zero, List.getElem?_cons_succ, results, result, Nat.reduceLT, asNat, asInt, Int.reduceLE, Int.reduceToNat, Bool.not_true, beq_self_eq_true, bne_self_eq_false, cont_some, ro_nil, ro_none, ro_some, gc_tt, gc_ff, gc_ft, gc_t, ex_seq, sq_nrm, ex_reg, rg_some, ex_cond, cd_f, ex_skip, ex_ret, fin_ret, Mini.step, stepP, stepE, O.eff, Mini.look, nth, put, exports, bin, binInt, un, bl, ob_eq, ofCells, V.cells, List.length_cons, List.length_nil, Option.map_some, if_true, if_false, List.append_nil, List.all_nil, Nat.zero_add, Nat.add_zero, Nat.mul_one, Int.ofNat_eq_natCast, Bool.false_eq_true]
  · simp only [z4, List.map_cons, List.map_nil, pad, List.replicate, Nat.reduceSub, List.cons_append, List.nil_append, byValue, mapO, dv_d, dv_sl, dv_inps, hb, ob?, at0, hat, hii, hil, hfr, hrd, ite_self, List.flatMap_cons, List.flatMap_nil, zenv_call, h17, h18, h19, h20, h14, h16, p12, p13, h1, h2, h3, hw, V.flat, V.flat1, C.flat, D.flat, List.all_cons, Bool.and_self, List.take_zero, List.take_succ_cons, List.drop_zero, List.drop_succ_cons, List.getElem?_cons_zero, List.getElem?_cons_succ, results, result, Nat.reduceLT, asNat, asInt, Int.reduceLE, Int.reduceToNat, Bool.not_true, beq_self_eq_true, bne_self_eq_false, Int.reduceBEq, Int.reduceBNe, cont_some, ro_nil, ro_none, ro_some, gc_tt, gc_ff, ex_seq, sq_nrm, ex_reg, rg_some, ex_cond, cd_f, ex_skip, ex_ret, fin_ret, Mini.step, stepP, stepE, O.eff, Mini.look, nth, put, exports, bin, binInt, un, bl, ob_eq, ofCells, V.cells, List.length_cons, List.length_nil, Option.map_some, if_true, if_false, List.append_nil, List.all_nil, Nat.zero_add, Nat.add_zero, Nat.mul_one, Int.ofNat_eq_natCast, Bool.false_eq_true]
theorem law4_ok (a b c d : Int) : vcallN X6 1003 4 [.agg (z4 a b c d)] = some (bl true) := by
  cases h : inLw a b c with
  | true => exact law4_in a b c d h
  | false => exact law4_out a b c d h
end Mini
end Go.Proofs.YtcilepbdddgpoaaDoor
