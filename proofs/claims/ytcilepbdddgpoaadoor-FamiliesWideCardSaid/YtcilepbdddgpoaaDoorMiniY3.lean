/-
  The law on wide paths, walked.
-/
import Derived.Test.YtcilepbdddgpoaaDoorMiniY4
import Derived.Test.YtcilepbdddgpoaaDoorMiniZ5
namespace Go.Proofs.YtcilepbdddgpoaaDoor
namespace Mini
open Go

theorem law3_out (n k : Int) (h : (w n 1 64 && w k 1 8) = false) : vcallN X6 1003 3 [i64 n, i64 k] = some (bl true) := by
  have hX : X6.fns 3 = some fn3' := rfl
  have h9 := r9_out (X := X6) rfl (N := 1001) (fun v lo hi => p27' 1001 v lo hi) n k h []
  have h10 : (zenv X6 1002).vcall 10 [i64 n, i64 k] = some (.tup [.c (.d (.str [])), i64 1]) := by
    have := zenv_prim (X := X6) (n := 1002) (f := 10) (vs := [i64 n, i64 k]) (r := if (w n 1 64 && w k 1 8) = true then .tup [.c (.d (.str (treeS k.toNat n.toNat))), i64 0] else .tup [.c (.d (.str [])), i64 1]) rfl
    rw [if_neg (by rw [h]; decide)] at this
    exact this
  have h11 : (zenv X6 1002).vcall 11 [i64 n, i64 k] = some (.tup [i64 0, i64 0, i64 1]) := by
    have := zenv_prim (X := X6) (n := 1002) (f := 11) (vs := [i64 n, i64 k]) (r := if (w n 1 64 && w k 1 8) = true then graphW n k else .tup [i64 0, i64 0, i64 1]) rfl
    rw [if_neg (by rw [h]; decide)] at this
    exact this
  refine vcall_of (H := [.cells inp0 0 false, .cells inp0 0 false]) (r := bl true) ?_ rfl
  rw [callN_fn hX]
  refine (rf_fin _ _ _ _ _ _ _ _ _ (by rfl)).trans ?_
  simp only [inp0, i64, Nat.reduceAdd, List.nil_append] at h9 h10 h11
  cases h1 : w n 1 64 <;> cases h2 : w k 1 8 <;> first
    | (rw [h1, h2] at h; cases h; done)
    | simp only [inp0, List.map_cons, List.map_nil, pad, List.replicate, Nat.reduceSub, List.cons_append, List.nil_append, byValue, mapO, dv_d, ob?, zenv_call, h9, h10, h11, p12, p13, h1, h2, V.flat, V.flat1, C.flat, D.flat, List.all_cons, Bool.and_self, List.take_zero, List.take_succ_cons, List.drop_zero, List.getElem?_cons_zero, List.getElem?_cons_succ, binStr, results, result, Bool.not_true, Bool.not_false, beq_self_eq_true, cont_some, ro_nil, ro_none, ro_some, gc_tt, gc_ff, gc_tf, ex_seq, sq_nrm, sq_ret, ex_reg, rg_some, ex_cond, cd_t, ex_ret, fin_ret, Mini.step, stepP, stepE, O.eff, Mini.look, nth, put, exports, bin, binInt, un, i64, bl, ofCells, V.cells, List.length_cons, List.length_nil, Option.map_some, if_true, if_false, List.all_nil, Nat.zero_add, Nat.add_zero, Bool.false_eq_true, Nat.reduceAdd]
theorem law3_in (n k : Int) (h : (w n 1 64 && w k 1 8) = true) : vcallN X6 1003 3 [i64 n, i64 k] = some (bl true) := by
  have hX : X6.fns 3 = some fn3' := rfl
  have h' := h
  rw [Bool.and_eq_true] at h'
  obtain ⟨h1, h2⟩ := h'
  obtain ⟨n, rfl, k1, k2⟩ := w_nat (lo := 1) (hi := 64) h1
  obtain ⟨k, rfl, k3, k4⟩ := w_nat (lo := 1) (hi := 8) h2
  obtain ⟨H', h9, hdeep, _⟩ := fn9_in (X := X6) rfl rfl (N := 1000) (by omega) (fun _ _ => zenv_prim rfl) (zenv_prim rfl) (fun v lo hi => p27' 1001 v lo hi) k1 k2 k3 k4 [] Hp.nil
  have h10 : (zenv X6 1002).vcall 10 [i64 n, i64 k] = some (.tup [.c (.d (.str (treeS k n))), i64 0]) := by
    have := zenv_prim (X := X6) (n := 1002) (f := 10) (vs := [i64 n, i64 k]) (r := if (w n 1 64 && w k 1 8) = true then .tup [.c (.d (.str (treeS (k : Int).toNat (n : Int).toNat))), i64 0] else .tup [.c (.d (.str [])), i64 1]) rfl
    rw [if_pos h] at this
    exact this
  have h11 : (zenv X6 1002).vcall 11 [i64 n, i64 k] = some (graphW n k) := by
    have := zenv_prim (X := X6) (n := 1002) (f := 11) (vs := [i64 n, i64 k]) (r := if (w n 1 64 && w k 1 8) = true then graphW n k else .tup [i64 0, i64 0, i64 1]) rfl
    rw [if_pos h] at this
    exact this
  have h15 := zenv_vcall (X := X6) (n := 1002) (f := 15) (vs := [i64 n, i64 k]) rfl (fn15_ok (X := X6) rfl rfl rfl (N := 1000) (by omega) (fun _ _ => zenv_prim rfl) (zenv_prim rfl) k4 k3 (by omega))
  have h14 := zenv_vcall (X := X6) (n := 1002) (f := 14) rfl (fn14_ok (X := X6) rfl (N := 1001) (n := n) (F := fun _ => recWD k) (G := recRW k) (by omega) (fun _ => rfl) (fun _ => rfl) (by omega) (fun j _ => match_wide k j k4 k3))
  have h16 : (zenv X6 1002).vcall 16 [.agg inpsC] = some (i64 1) := zenv_vcall rfl r16'
  have hb := hdeep [.cells inpsC 0 false]
  rw [wideV_R] at hb
  have hfr : ∀ H : Heap, freeze H [] = H := fun _ => rfl
  have hrd : ∀ (H : Heap) (x : D), reachV H (.c (.d x)) = [] := fun _ _ => rfl
  have hii : inpsC.take 4 = inpsC := rfl
  have hil : inpsC.length = 4 := rfl
  refine vcall_of (H := H' ++ [.cells inpsC 0 false]) (r := bl true) ?_ rfl
  rw [callN_fn hX]
  refine (rf_fin _ _ _ _ _ _ _ _ _ (by rfl)).trans ?_
  simp only [os8, graphW, i64, Nat.reduceAdd, List.length_nil] at h9 h10 h11 h15 h14 h16 hb
  simp only [List.map_cons, List.map_nil, pad, List.replicate, Nat.reduceSub, List.cons_append, List.nil_append, byValue, mapO, dv_d, dv_sl, dv_inps, hb, at0, hii, hil, hfr, hrd, ite_self, List.flatMap_cons, List.flatMap_nil, zenv_call, h9, h10, h11, h15, h14, h16, p12, p13, h1, h2, V.flat, V.flat1, C.flat, D.flat, List.all_cons, Bool.and_self, List.drop_zero, List.getElem?_cons_zero, List.getElem?_cons_succ, results, result, Bool.not_true, beq_self_eq_true, cont_some, ro_nil, ro_none, ro_some, gc_tt, gc_ff, ex_seq, sq_nrm, ex_reg, rg_some, ex_cond, cd_f, ex_skip, ex_ret, fin_ret, Mini.step, stepP, stepE, O.eff, Mini.look, nth, put, exports, bin, binInt, un, i64, bl, ob_eq, ofCells, V.cells, List.length_cons, List.length_nil, Option.map_some, if_true, if_false, List.append_nil, List.all_nil, Nat.zero_add, Int.ofNat_eq_natCast, Bool.false_eq_true, Nat.reduceAdd]
theorem law3_ok (n k : Int) : vcallN X6 1003 3 [i64 n, i64 k] = some (bl true) := by
  cases h : (w n 1 64 && w k 1 8) with
  | true => exact law3_in n k h
  | false => exact law3_out n k h
end Mini
end Go.Proofs.YtcilepbdddgpoaaDoor
