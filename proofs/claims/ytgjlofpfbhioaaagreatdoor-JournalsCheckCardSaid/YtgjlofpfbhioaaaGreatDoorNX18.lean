/-
  JournalsCheck: texts of the proof, part 19.
-/
import Derived.Test.YtgjlofpfbhioaaaGreatDoorNX17
namespace Go.Proofs.YtgjlofpfbhioaaaGreatDoor
namespace Mini
open Go
variable {m : Int} {X : Ctx}
def valP (x : List Nat) : Nat := if numN 0 x ≤ 4294967295 then numN 0 x else 4294967295
theorem valP_lt (x : List Nat) : valP x < 4294967296 := by unfold valP; split <;> omega
def arrP (ps : List (List Nat)) : Nat → List Nat
  | 0 => List.replicate 16 0
  | j + 1 => if j < 16 then (arrP ps j).set j (valP (ps.getD j [])) else arrP ps j
def largeP (ps : List (List Nat)) : Nat → Bool
  | 0 => false
  | j + 1 => largeP ps j || decide (4294967295 < numN 0 (ps.getD j []))
theorem arrP_len (ps : List (List Nat)) : ∀ j, (arrP ps j).length = 16
  | 0 => rfl
  | j + 1 => by
    unfold arrP
    split
    · rw [List.length_set, arrP_len ps j]
    · exact arrP_len ps j
theorem arrP_lt (ps : List (List Nat)) : ∀ j, ∀ x ∈ arrP ps j, x < 4294967296
  | 0 => by
    intro x hx
    simp only [arrP, List.mem_replicate] at hx
    omega
  | j + 1 => by
    unfold arrP
    split
    · intro x hx
      rcases List.mem_or_eq_of_mem_set hx with h | rfl
      · exact arrP_lt ps j x h
      · exact valP_lt _
    · exact arrP_lt ps j
theorem oC_set (n : Nat) (l : List Nat) {j v : Nat} (hj : j < l.length) : splice (oC (n, l)) (1 + j) [.d (.int .u32 (v : Int))] = oC (n, l.set j v) := by
  unfold splice oC oD
  simp only [List.map_cons, List.map_map]
  rw [Nat.add_comm 1 j, List.take_succ_cons, show j + 1 + [C.d (D.int .u32 (v : Int))].length = (j + 1) + 1 by simp, List.drop_succ_cons, List.map_set, List.set_eq_take_append_cons_drop, if_pos (by simpa using hj)]
  simp [u32D]
def parseO (s : List Nat) : Oid × Nat :=
  if (splitN 46 s).all decB = false then (o0, 6)
  else if 16 < (splitN 46 s).length then (o0, 3)
  else if largeP (splitN 46 s) (splitN 46 s).length = true then (o0, 3)
  else if chkO ((splitN 46 s).length, arrP (splitN 46 s) (splitN 46 s).length) ≠ 0 then (o0, chkO ((splitN 46 s).length, arrP (splitN 46 s) (splitN 46 s).length))
  else (((splitN 46 s).length, arrP (splitN 46 s) (splitN 46 s).length), 0)
theorem splitN_len (c : Nat) : ∀ s : List Nat, (splitN c s).length ≤ s.length + 1 ∧ ∀ x ∈ splitN c s, x.length ≤ s.length
  | [] => by simp [splitN]
  | y :: s => by
    obtain ⟨h1, h2⟩ := splitN_len c s
    unfold splitN
    split
    · refine ⟨by simp only [List.length_cons]; omega, fun x hx => ?_⟩
      rcases List.mem_cons.1 hx with rfl | hx
      · simp
      · have := h2 x hx; simp only [List.length_cons]; omega
    · cases hs : splitN c s with
      | nil => exact ⟨by simp, fun x hx => by simp only [List.mem_singleton] at hx; subst hx; simp⟩
      | cons a l =>
        rw [hs] at h1 h2
        refine ⟨by simp only [List.length_cons] at h1 ⊢; omega, fun x hx => ?_⟩
        rcases List.mem_cons.1 hx with rfl | hx
        · have := h2 a List.mem_cons_self; simp only [List.length_cons]; omega
        · have := h2 x (List.mem_cons_of_mem _ hx); simp only [List.length_cons]; omega
abbrev R94 (ps : List (List Nat)) (j : Nat) : List V := [.any, .c (.ptr 0 0 0), .any, .any, .c (.ptr 1 0 0), bl (largeP ps j), .any, .any, .any, .any, .any, .any, .c (.d (slS ps)), i64 (ps.length : Int), i64 (j : Int), .any, .any, .any, .any, .any]
theorem decB_dig {s : List Nat} (h : decB s = true) : s.all isDig = true ∧ s.isEmpty = false := by
  unfold decB at h
  simp only [Bool.or_eq_true, Bool.and_eq_true, decide_eq_true_eq] at h
  rcases h with rfl | ⟨⟨h1, _⟩, h2⟩
  · exact ⟨rfl, rfl⟩
  · exact ⟨h2, by cases s with | nil => exact absurd rfl h1 | cons _ _ => rfl⟩
set_option maxHeartbeats 1000000 in
theorem r94 (hX : XOk m X) {N : Nat} (hN : 10 ≤ N) {ps : List (List Nat)} {n j : Nat} (hj : j < ps.length) (hlen : ps.length < 100000000) (hs : (ps.getD j []).length < 100000000) (hp : decB (ps.getD j []) = true) :
    ∃ s', exec (zenv X N) N false fn94L0 ⟨R94 ps j, [.cells zC 0 false, .cells (oC (n, arrP ps j)) 0 false]⟩ = some (.nrm, s') ∧ tidy 2 (some [1, 4, 5, 12, 13, 14]) s' = ⟨R94 ps (j + 1), [.cells zC 0 false, .cells (oC (n, arrP ps (j + 1))) 0 false]⟩ := by
  have h1 := slS_at ps hj
  have h2 := hX.vc (k := 118) (F := fn118) rfl (f118 hX (N := N) (by omega) (s := ps.getD j []) (by omega))
  have h4 : (j : Int) < (ps.length : Int) := by omega
  have h5 := wrap_succ (k := j) (by omega)
  have hlA := arrP_len ps j
  have hL : largeP ps (j + 1) = (largeP ps j || decide (4294967295 < numN 0 (ps.getD j []))) := rfl
  have hA : arrP ps (j + 1) = if j < 16 then (arrP ps j).set j (valP (ps.getD j [])) else arrP ps j := rfl
  have hR : R94 ps (j + 1) = [.any, .c (.ptr 0 0 0), .any, .any, .c (.ptr 1 0 0), bl (largeP ps j || decide (4294967295 < numN 0 (ps.getD j []))), .any, .any, .any, .any, .any, .any, .c (.d (slS ps)), i64 (ps.length : Int), i64 ((j + 1 : Nat) : Int), .any, .any, .any, .any, .any] := by rw [← hL]
  have hv := valP_lt (ps.getD j [])
  have hpc : (zenv X N).prim 119 [.c (.d (.str (ps.getD j []))), .c (.d (.int .i64 10)), .c (.d (.int .i64 32))] = some (.tup [.c (.d (.int .u64 (valP (ps.getD j []) : Int))), .c (.d (if 4294967295 < numN 0 (ps.getD j []) then .ifc else .nili))]) := by
    rw [zenv_pr]
    refine hX.prim _ _ _ ?_
    have e : ∀ x : List Nat, prim0 119 [.c (.d (.str x)), .c (.d (.int .i64 10)), .c (.d (.int .i64 32))] = if x.length < 281474976710656 then (if (x.all isDig && !x.isEmpty) = true then some (if numN 0 x ≤ 4294967295 then .tup [U64 (numN 0 x), .c (.d .nili)] else .tup [U64 4294967295, .c (.d .ifc)]) else none) else none := fun _ => rfl
    rw [e]
    unfold valP
    obtain ⟨d1, d2⟩ := decB_dig hp
    rw [if_pos (by omega), d1, d2, if_pos (by rfl)]
    by_cases hb : numN 0 (ps.getD j []) ≤ 4294967295
    · rw [if_pos hb, if_pos hb, if_neg (by omega)]
    · rw [if_neg hb, if_neg hb, if_pos (by omega)]; rfl
  rw [hp] at h2
  rw [hR, hA]
  clear hR
  unfold R94
  simp only [strV, bl] at h2
  have hw : IntKind.u32.wrap (valP (ps.getD j []) : Int) = (valP (ps.getD j []) : Int) := wrap_u32 hv
  have hset := fun hj16 : j < 16 => oC_set n (arrP ps j) (j := j) (v := valP (ps.getD j [])) (by rw [hlA]; exact hj16)
  have hlo : (oC (n, arrP ps j)).length = 17 := by simp [oC, oD, hlA]
  generalize valP (ps.getD j []) = v at *
  generalize largeP ps j = lg at *
  by_cases hb : 4294967295 < numN 0 (ps.getD j [])
  · rw [if_pos hb] at hpc
    rw [decide_eq_true hb]
    by_cases h16 : j < 16
    · have h16' : (j : Int) < 16 := by omega
      have hset := hset h16
      rw [if_pos h16]
      refine ⟨⟨[.any, .c (.ptr 0 0 0), .any, .any, .c (.ptr 1 0 0), bl (lg || true), i64 (j : Int), strV (ps.getD j []), .c (.d (.int .u64 (v : Int))), .c (.d .ifc), .any, .any, .c (.d (slS ps)), i64 (ps.length : Int), i64 ((j + 1 : Nat) : Int), bl true, bl false, bl true, .any, .any], [.cells zC 0 false, .cells (oC (n, (arrP ps j).set j v)) 0 false]⟩, ?_, gc_le (Nat.le_refl 2)⟩
      have h17 : 1 + j + 1 ≤ 17 := by omega
      cases lg <;>
        simp only [fn94L0, ob?, strV, h1, h2, h4, h5, h16, h16', h17, hpc, hw, hset, hlo, Bool.not_true, List.take, List.map_cons, List.map_nil, List.set_cons_zero, List.set_cons_succ, freeze_nil, reachV, reachC, ite_self, List.flatMap_cons, List.flatMap_nil, ↓sp_ixa, evs]
    · have h16' : ¬ (j : Int) < 16 := by omega
      rw [if_neg h16]
      refine ⟨⟨[.any, .c (.ptr 0 0 0), .any, .any, .c (.ptr 1 0 0), bl (lg || true), i64 (j : Int), strV (ps.getD j []), .c (.d (.int .u64 (v : Int))), .c (.d .ifc), .any, .any, .c (.d (slS ps)), i64 (ps.length : Int), i64 ((j + 1 : Nat) : Int), bl true, bl false, bl false, .any, .any], [.cells zC 0 false, .cells (oC (n, arrP ps j)) 0 false]⟩, ?_, gc_le (Nat.le_refl 2)⟩
      cases lg <;>
        simp only [fn94L0, strV, h1, h2, h4, h5, h16', hpc, Bool.not_true, List.take, List.map_cons, List.map_nil, freeze_nil, reachV, reachC, ite_self, List.flatMap_cons, List.flatMap_nil, ↓sp_ixa, evs]
  · rw [if_neg hb] at hpc
    rw [decide_eq_false hb]
    by_cases h16 : j < 16
    · have h16' : (j : Int) < 16 := by omega
      have hset := hset h16
      rw [if_pos h16]
      refine ⟨⟨[.any, .c (.ptr 0 0 0), .any, .any, .c (.ptr 1 0 0), bl (lg || false), i64 (j : Int), strV (ps.getD j []), .c (.d (.int .u64 (v : Int))), .c (.d .nili), .any, .any, .c (.d (slS ps)), i64 (ps.length : Int), i64 ((j + 1 : Nat) : Int), bl true, bl false, bl true, .any, .any], [.cells zC 0 false, .cells (oC (n, (arrP ps j).set j v)) 0 false]⟩, ?_, gc_le (Nat.le_refl 2)⟩
      have h17 : 1 + j + 1 ≤ 17 := by omega
      cases lg <;>
        simp only [fn94L0, ob?, strV, h1, h2, h4, h5, h16, h16', h17, hpc, hw, hset, hlo, Bool.not_true, List.take, List.map_cons, List.map_nil, List.set_cons_zero, List.set_cons_succ, freeze_nil, reachV, reachC, ite_self, List.flatMap_cons, List.flatMap_nil, ↓sp_ixa, evs]
    · have h16' : ¬ (j : Int) < 16 := by omega
      rw [if_neg h16]
      refine ⟨⟨[.any, .c (.ptr 0 0 0), .any, .any, .c (.ptr 1 0 0), bl (lg || false), i64 (j : Int), strV (ps.getD j []), .c (.d (.int .u64 (v : Int))), .c (.d .nili), .any, .any, .c (.d (slS ps)), i64 (ps.length : Int), i64 ((j + 1 : Nat) : Int), bl true, bl false, bl false, .any, .any], [.cells zC 0 false, .cells (oC (n, arrP ps j)) 0 false]⟩, ?_, gc_le (Nat.le_refl 2)⟩
      cases lg <;>
        simp only [fn94L0, strV, h1, h2, h4, h5, h16', hpc, Bool.not_true, List.take, List.map_cons, List.map_nil, freeze_nil, reachV, reachC, ite_self, List.flatMap_cons, List.flatMap_nil, ↓sp_ixa, evs]
theorem f94 (hX : XOk m X) {N : Nat} {s : List Nat} (hN : s.length + 60 ≤ N) (hs : s.length < 10000000) : vcallN X N 94 [strV s] = some (.tup [.agg (oC (parseO s).1), i64 ((parseO s).2 : Nat)]) := by
  obtain ⟨N, rfl⟩ : ∃ M, N = M + 1 := ⟨N - 1, by omega⟩
  have hF : fnsA 94 = some fn94' := rfl
  obtain ⟨hl1, hl2⟩ := splitN_len 46 s
  have hpc : (zenv X N).prim 92 [.c (.d (.str s)), .c (.d (.str [46]))] = some (.c (.d (slS (splitN 46 s)))) := by
    rw [zenv_pr]
    refine hX.prim _ _ _ ?_
    have e : ∀ x : List Nat, prim0 92 [.c (.d (.str x)), .c (.d (.str [46]))] = if x.length < 4294967281 then some (.c (.d (.sl ((splitN 46 x).map .str) (splitN 46 x).length))) else none := fun _ => rfl
    rw [e, if_pos (by omega)]
    rfl
  unfold parseO
  generalize hps : splitN 46 s = ps at *
  have h116 := hX.vc (k := 116) (F := fn116) rfl (f116 hX (N := N) (ps := ps) (by omega) (fun x hx => by have := hl2 x hx; omega) (by omega))
  have hlw := slS_len ps
  suffices h : ∃ H, callN X (N + 1) (.d (.fn 94 [] [])) [strV s] [] = some (.tup [.agg (oC (if ps.all decB = false then (o0, 6) else if 16 < ps.length then (o0, 3) else if largeP ps ps.length = true then (o0, 3) else if chkO (ps.length, arrP ps ps.length) ≠ 0 then (o0, chkO (ps.length, arrP ps ps.length)) else ((ps.length, arrP ps ps.length), 0)).1), i64 ((if ps.all decB = false then (o0, 6) else if 16 < ps.length then (o0, 3) else if largeP ps ps.length = true then (o0, 3) else if chkO (ps.length, arrP ps ps.length) ≠ 0 then (o0, chkO (ps.length, arrP ps ps.length)) else ((ps.length, arrP ps ps.length), 0)).2 : Nat)], H) by
    obtain ⟨H, h⟩ := h
    refine vcall_of h ?_
    simp only [deepV, mapO, deepV1, i64]
    rw [show ∀ (H : Heap) (o : Oid), mapO (deepC H deepMax) (oC o) = some (oD o) from fun H o => mapO_d H _ _]
    rfl
  rw [hX.fn hF]
  have hz0 : oC o0 = zC := rfl
  have hdp : ∀ H : Heap, deepC H deepMax (.d (slS ps)) = some (slS ps) := fun _ => rfl
  have hmem : ∀ j, j < ps.length → ps.getD j [] ∈ ps := fun j hj => by
    rw [List.getD_eq_getElem?_getD, List.getElem?_eq_getElem hj]
    exact List.getElem_mem hj
  have hwu : IntKind.u8.wrap (ps.length : Int) = ((ps.length % 256 : Nat) : Int) := by
    simp only [IntKind.wrap, IntKind.bits, IntKind.signed]
    simp
  have hsc := iter_find (js := some [1, 4, 5, 12, 13, 14]) (hl := 2) (body := exec (zenv X N) N false fn94L0) (fun j => decB (ps.getD j []) = false) ps.length (fun i => ⟨R94 ps i, [.cells zC 0 false, .cells (oC (ps.length % 256, arrP ps i)) 0 false]⟩) (b := 0) (s1 := ⟨[.any, .c (.ptr 0 0 0), .any, .any, .c (.ptr 1 0 0), bl (largeP ps ps.length), .any, .any, .any, .any, .any, .any, .c (.d (slS ps)), i64 (ps.length : Int), i64 (ps.length : Int), bl false, .any, .any, .any, .any], [.cells zC 0 false, .cells (oC (ps.length % 256, arrP ps ps.length)) 0 false]⟩) (Q := fun k s => ∃ o, nth s.regs 1 = .c (.ptr 0 0 0) ∧ nth s.regs 2 = i64 6 ∧ s.heap = [.cells zC 0 false, o]) (fuel := N) (by omega)
    (by
      intro j hj hp
      exact r94 hX (by omega) hj (by omega) (by have := hl2 _ (hmem j hj); omega) (by simpa using hp))
    (by simp only [fn94L0, R94, evs])
    (by
      intro j hj hp
      have h1 := slS_at ps hj
      have h2 := hX.vc (k := 118) (F := fn118) rfl (f118 hX (N := N) (by omega) (s := ps.getD j []) (by have := hl2 _ (hmem j hj); omega))
      have h4 : (j : Int) < (ps.length : Int) := by omega
      rw [hp] at h2
      simp only [strV, bl] at h2
      refine ⟨⟨[.any, .c (.ptr 0 0 0), i64 6, .any, .c (.ptr 1 0 0), bl (largeP ps j), i64 (j : Int), strV (ps.getD j []), .any, .any, .any, .any, .c (.d (slS ps)), i64 (ps.length : Int), i64 (j : Int), bl true, bl true, .any, .any, .any], [.cells zC 0 false, .cells (oC (ps.length % 256, arrP ps j)) 0 false]⟩, ?_, _, rfl, rfl, rfl⟩
      simp only [fn94L0, R94, ob?, strV, h1, h2, h4, lay, splice, Bool.not_false, List.take, List.drop, List.map_cons, List.map_nil, List.set_cons_zero, ↓sp_ixa, evs, Nat.reduceAdd, Nat.reduceLeDiff])
  simp only [i64, bl, R94, Int.natCast_zero] at hsc h116
  have hlay : lay [.d (.int .u8 0), .d (.int .u32 0), .d (.int .u32 0), .d (.int .u32 0), .d (.int .u32 0), .d (.int .u32 0), .d (.int .u32 0), .d (.int .u32 0), .d (.int .u32 0), .d (.int .u32 0), .d (.int .u32 0), .d (.int .u32 0), .d (.int .u32 0), .d (.int .u32 0), .d (.int .u32 0), .d (.int .u32 0), .d (.int .u32 0)] [(0, 1, .c (.d (.int .u8 ((ps.length % 256 : Nat) : Int))))] = some (oC (ps.length % 256, arrP ps 0)) := rfl
  have hlo0 : (oC (ps.length % 256, arrP ps 0)).length = 17 := rfl
  by_cases ca : ps.all decB = true
  · rw [ca] at h116
    rw [if_neg (by simp [ca])]
    simp only [Bool.not_true] at h116
    rcases hsc with ⟨hno, hit⟩ | ⟨k, s', hk, hp, hno, _, _⟩
    case inr =>
      exfalso
      rw [List.all_eq_true] at ca
      have := ca _ (hmem k hk)
      rw [hp] at this; cases this
    have h00 : largeP ps 0 = false := rfl
    rw [h00] at hit
    by_cases c16 : 16 < ps.length
    · rw [if_pos c16]
      have c16' : (ps.length : Int) > 16 := by omega
      refine ⟨[.cells zC 0 false], (rf_fin _ _ _ _ _ _ _ _ _ (by rfl)).trans ?_⟩
      simp only [ob?, strV, hpc, h116, hlw, hdp, c16', hz0, lay, splice, Bool.not_false, List.take, List.drop, List.map_cons, List.map_nil, List.set_cons_zero, freeze_nil, reachV, reachC, ite_self, List.flatMap_cons, List.flatMap_nil, Int.cast_ofNat_Int, ↓sp_len, evs, Nat.reduceAdd, Nat.reduceLeDiff, Nat.reduceSub]
    · have c16' : ¬ (ps.length : Int) > 16 := by omega
      rw [if_neg c16]
      have hm : ps.length % 256 = ps.length := Nat.mod_eq_of_lt (by omega)
      rw [hm] at hit hlay hwu hlo0
      cases hL : largeP ps ps.length
      · rw [hL] at hit
        rw [if_neg (by simp)]
        have hwf : wfO (ps.length, arrP ps ps.length) := ⟨by simp only; omega, arrP_len ps _, arrP_lt ps _⟩
        have h53 := hX.vc (k := 53) (F := fn53) rfl (chkO_ok (hX.fns _ _ rfl) hwf (N := N) (by omega))
        have hlo := oC_len hwf
        have hdD : mapO (deepC [Ob.cells zC 0 false, .cells (oC (ps.length, arrP ps ps.length)) 0 false] deepMax) (oC (ps.length, arrP ps ps.length)) = some (oD (ps.length, arrP ps ps.length)) := mapO_d _ _ _
        have hd : List.map C.d (oD (ps.length, arrP ps ps.length)) = oC (ps.length, arrP ps ps.length) := rfl
        have hsp : splice zC 0 (oC (ps.length, arrP ps ps.length)) = oC (ps.length, arrP ps ps.length) := by
          unfold splice
          rw [List.take_zero, List.nil_append, Nat.zero_add, hlo, List.drop_of_length_le (Nat.le_refl 17), List.append_nil]
        generalize (ps.length, arrP ps ps.length) = oo at *
        simp only [i64] at h53
        by_cases hck : chkO oo = 0
        · rw [if_neg (by rw [hck]; simp)]
          rw [hck] at h53
          refine ⟨[.cells (oC oo) 0 false, .cells (oC oo) 0 false], (rf_fin _ _ _ _ _ _ _ _ _ (by rfl)).trans ?_⟩
          simp only [ob?, strV, hpc, h116, hlw, hdp, c16', hwu, hlay, hlo0, hit, h53, hlo, hd, hdD, hsp, Bool.not_false, List.drop_zero, List.take_of_length_le (Nat.le_of_eq hlo), List.map_cons, List.map_nil, List.set_cons_zero, freeze_nil, reachV, reachC, ite_self, List.flatMap_cons, List.flatMap_nil, Int.cast_ofNat_Int, ↓sp_len, evs, Nat.reduceAdd, Nat.reduceLeDiff, Nat.reduceBEq, Nat.reduceSub]
        · rw [if_pos hck]
          have g1 : ((chkO oo : Int) != 0) = true := by rw [bne_iff_ne]; omega
          refine ⟨[.cells zC 0 false, .cells (oC oo) 0 false], (rf_fin _ _ _ _ _ _ _ _ _ (by rfl)).trans ?_⟩
          simp only [ob?, strV, hpc, h116, hlw, hdp, c16', hz0, hwu, hlay, hlo0, hit, h53, g1, hlo, hd, hdD, lay, splice, Bool.not_false, List.take, List.drop, List.take_of_length_le (Nat.le_of_eq hlo), List.map_cons, List.map_nil, List.set_cons_zero, freeze_nil, reachV, reachC, ite_self, List.flatMap_cons, List.flatMap_nil, ↓sp_len, evs, Nat.reduceAdd, Nat.reduceLeDiff, Nat.reduceBEq, Nat.reduceSub]
      · rw [hL] at hit
        rw [if_pos rfl]
        refine ⟨[.cells zC 0 false, .cells (oC (ps.length, arrP ps ps.length)) 0 false], (rf_fin _ _ _ _ _ _ _ _ _ (by rfl)).trans ?_⟩
        simp only [ob?, strV, hpc, h116, hlw, hdp, c16', hz0, hwu, hlay, hlo0, hit, lay, splice, Bool.not_false, List.take, List.drop, List.map_cons, List.map_nil, List.set_cons_zero, freeze_nil, reachV, reachC, ite_self, List.flatMap_cons, List.flatMap_nil, Int.cast_ofNat_Int, ↓sp_len, evs, Nat.reduceAdd, Nat.reduceLeDiff, Nat.reduceBEq, Nat.reduceSub]
  · have ca : ps.all decB = false := by simpa using ca
    rw [ca] at h116
    rw [if_pos ca]
    simp only [Bool.not_false] at h116
    rcases hsc with ⟨hno, hit⟩ | ⟨k, s', hk, hp, hno, ⟨o, hq1, hq2, hqh⟩, hit⟩
    · exfalso
      rw [List.all_eq_false] at ca
      obtain ⟨x, hx, hxb⟩ := ca
      obtain ⟨i, hi, rfl⟩ := List.getElem_of_mem hx
      have := hno i hi
      rw [List.getD_eq_getElem?_getD, List.getElem?_eq_getElem hi, Option.getD_some] at this
      exact this (by simpa using hxb)
    · obtain ⟨r, H⟩ := s'
      simp only at hq1 hq2 hqh
      subst hqh
      have h00 : largeP ps 0 = false := rfl
      rw [h00] at hit
      refine ⟨[.cells zC 0 false, o], (rf_fin _ _ _ _ _ _ _ _ _ (by rfl)).trans ?_⟩
      simp only [ob?, strV, hpc, h116, hlw, hdp, hz0, hwu, hlay, hlo0, hit, hq1, hq2, Bool.not_true, List.take, List.drop, List.map_cons, List.map_nil, freeze_nil, reachV, reachC, ite_self, List.flatMap_cons, List.flatMap_nil, Int.cast_ofNat_Int, ↓sp_len, evs, Nat.reduceAdd, Nat.reduceBEq, Nat.reduceSub]
end Mini
end Go.Proofs.YtgjlofpfbhioaaaGreatDoor
namespace Go.Proofs.YtgjlofpfbhioaaaGreatDoor
namespace Mini
open Go
variable {m : Int} {X : Ctx}
theorem callN_fnc {X : Ctx} {n : Nat} {f : FuncId} {F : Fn} {first caps : List C} {args : List V} {H : Heap} (h : X.fns f = some F) : callN X (n + 1) (.fn f first caps) args H = runFn (zenv X n) n F (first.map .c ++ args ++ caps.map .c) H := by
  have : callN X (n + 1) (.fn f first caps) args H = match X.fns f with
      | some F => runFn (zenv X n) n F (first.map .c ++ args ++ caps.map .c) H
      | none => X.hprim f (first.map .c ++ args ++ caps.map .c) H := rfl
  rw [this, h]
end Mini
end Go.Proofs.YtgjlofpfbhioaaaGreatDoor
namespace Go.Proofs.YtgjlofpfbhioaaaGreatDoor
namespace Mini
open Go
variable {m : Int} {X : Ctx}
theorem idx_none {c : Nat} : ∀ {s : List Nat}, idxN c s = none → splitN c s = [s]
  | [], _ => rfl
  | x :: s, h => by
    unfold idxN at h
    split at h
    · cases h
    · rename_i hx
      cases hi : idxN c s with
      | none => rw [splitN, if_neg hx, idx_none hi]
      | some k => rw [hi] at h; cases h
theorem idx_some {c : Nat} : ∀ {s : List Nat} {k : Nat}, idxN c s = some k → k < s.length ∧ splitN c s = s.take k :: splitN c (s.drop (k + 1))
  | [], _, h => by cases h
  | x :: s, k, h => by
    unfold idxN at h
    split at h
    · rename_i hx
      cases h
      exact ⟨by simp, by rw [splitN, if_pos hx]; rfl⟩
    · rename_i hx
      cases hi : idxN c s with
      | none => rw [hi] at h; cases h
      | some i =>
        rw [hi] at h
        obtain ⟨h1, h2⟩ := idx_some hi
        simp only [Option.some.injEq] at h
        subst h
        refine ⟨by simp only [List.length_cons]; omega, ?_⟩
        rw [splitN, if_neg hx, h2]
        rfl
def restN (c : Nat) (s : List Nat) : Nat → List Nat
  | 0 => s
  | j + 1 => match idxN c (restN c s j) with
    | some i => (restN c s j).drop (i + 1)
    | none => []
theorem restN_len (c : Nat) (s : List Nat) : ∀ j, (restN c s j).length ≤ s.length
  | 0 => Nat.le_refl _
  | j + 1 => by
    have := restN_len c s j
    unfold restN
    split
    · rw [List.length_drop]; omega
    · simp
theorem restN_split (c : Nat) (s : List Nat) : ∀ j, j < (splitN c s).length → splitN c (restN c s j) = (splitN c s).drop j
  | 0, _ => by simp [restN]
  | j + 1, h => by
    have ih := restN_split c s j (by omega)
    cases hi : idxN c (restN c s j) with
    | none =>
      rw [idx_none hi] at ih
      have := congrArg List.length ih
      rw [List.length_drop] at this
      simp only [List.length_cons, List.length_nil] at this
      omega
    | some i =>
      obtain ⟨_, h2⟩ := idx_some hi
      rw [restN, hi]
      simp only
      rw [h2] at ih
      rw [show (splitN c s).drop (j + 1) = ((splitN c s).drop j).drop 1 by rw [List.drop_drop], ← ih]
      rfl
theorem restN_round (c : Nat) (s : List Nat) (j : Nat) (h : j + 1 < (splitN c s).length) : ∃ i, idxN c (restN c s j) = some i ∧ i < (restN c s j).length ∧ (restN c s j).take i = (splitN c s).getD j [] ∧ (restN c s j).drop (i + 1) = restN c s (j + 1) := by
  have hs := restN_split c s j (by omega)
  cases hi : idxN c (restN c s j) with
  | none =>
    rw [idx_none hi] at hs
    have := congrArg List.length hs
    rw [List.length_drop] at this
    simp only [List.length_cons, List.length_nil] at this
    omega
  | some i =>
    obtain ⟨h1, h2⟩ := idx_some hi
    refine ⟨i, rfl, h1, ?_, by rw [restN, hi]⟩
    rw [h2] at hs
    have : ((splitN c s).drop j)[0]? = some ((restN c s j).take i) := by rw [← hs]; rfl
    rw [List.getElem?_drop, Nat.add_zero] at this
    rw [List.getD_eq_getElem?_getD, this]; rfl
theorem restN_last (c : Nat) (s : List Nat) : idxN c (restN c s ((splitN c s).length - 1)) = none ∧ restN c s ((splitN c s).length - 1) = (splitN c s).getD ((splitN c s).length - 1) [] := by
  have hp : 0 < (splitN c s).length := by
    rcases Nat.eq_zero_or_pos (splitN c s).length with h | h
    · exact absurd (List.length_eq_zero_iff.1 h) (splitN_neq c s)
    · exact h
  have hs := restN_split c s ((splitN c s).length - 1) (by omega)
  cases hi : idxN c (restN c s ((splitN c s).length - 1)) with
  | none =>
    refine ⟨rfl, ?_⟩
    rw [idx_none hi] at hs
    have : ((splitN c s).drop ((splitN c s).length - 1))[0]? = some (restN c s ((splitN c s).length - 1)) := by rw [← hs]; rfl
    rw [List.getElem?_drop, Nat.add_zero] at this
    rw [List.getD_eq_getElem?_getD, this]; rfl
  | some i =>
    obtain ⟨_, h2⟩ := idx_some hi
    rw [h2] at hs
    have := congrArg List.length hs
    have hq : 0 < (splitN c ((restN c s ((splitN c s).length - 1)).drop (i + 1))).length := by
      rcases Nat.eq_zero_or_pos (splitN c ((restN c s ((splitN c s).length - 1)).drop (i + 1))).length with h | h
      · exact absurd (List.length_eq_zero_iff.1 h) (splitN_neq c _)
      · exact h
    rw [List.length_cons, List.length_drop] at this
    omega
theorem callN_yld {n id : Nat} {v : V} {H : Heap} {regs regs1 regs2 : List V} {p : Nat} {ps1 ps2 : List Nat} {asg body asg1 body1 asg2 body2 : I} {s1 s2 : St} {e : Ex} (ho : H[id]? = some (.loop true none regs [p] asg body))
    (h1 : exec (zenv X n) n true asg ⟨put regs p v, H⟩ = some (.nrm, s1)) (ho1 : s1.heap[id]? = some (.loop true none regs1 ps1 asg1 body1))
    (h2 : exec (zenv X n) n true body ⟨s1.regs, s1.heap.set id (.loop false none regs1 ps1 asg1 body1)⟩ = some (e, s2)) (ho2 : s2.heap[id]? = some (.loop false none regs2 ps2 asg2 body2)) :
    callN X (n + 1) (.yld id) [v] H = some (.c (.d (.bool (e == .nrm))), s2.heap.set id (.loop (e == .nrm) (if e == .nrm then none else some e) regs2 ps2 asg2 body2)) := by
  have : callN X (n + 1) (.yld id) [v] H = match ob? H id with
      | some (.loop true none regs ps asg body) =>
        if [v].length = ps.length then
          match exec (zenv X n) n true asg ⟨putAll regs ps [v], H⟩ with
          | some (.nrm, s) =>
            match ob? s.heap id with
            | some (.loop true none regs1 ps1 asg1 body1) =>
              match exec (zenv X n) n true body ⟨s.regs, setOb s.heap id (.loop false none regs1 ps1 asg1 body1)⟩ with
              | some (e, s') =>
                match ob? s'.heap id with
                | some (.loop false none regs2 ps2 asg2 body2) =>
                  some (.c (.d (.bool (e == .nrm))), setOb s'.heap id (.loop (e == .nrm) (if e == .nrm then none else some e) regs2 ps2 asg2 body2))
                | _ => none
              | none => none
            | _ => none
          | _ => none
        else none
      | _ => none := rfl
  rw [this, ob_eq, ho]
  simp only [List.length_cons, List.length_nil, if_true, putAll, h1, ob_eq, ho1, setOb_eq, h2, ho2]
def osP (ps : List (List Nat)) (j : Nat) : List Oid := (ps.take j).map fun x => (parseO x).1
theorem osP_succ (ps : List (List Nat)) {j : Nat} (h : j < ps.length) : osP ps (j + 1) = osP ps j ++ [(parseO (ps.getD j [])).1] := by
  have hx : ps[j]? = some (ps.getD j []) := by rw [List.getD_eq_getElem?_getD, List.getElem?_eq_getElem h]; rfl
  unfold osP
  rw [List.take_add_one, hx, Option.toList_some, List.map_append]
  rfl
theorem osP_len (ps : List (List Nat)) {j : Nat} (h : j ≤ ps.length) : (osP ps j).length = j := by
  simp [osP]; omega
theorem parseO_wf (s : List Nat) : wfO (parseO s).1 := by
  have h0 : wfO o0 := by unfold wfO o0; decide
  unfold parseO
  split
  · exact h0
  split
  · exact h0
  rename_i h1 h2
  split
  · exact h0
  split
  · exact h0
  · exact ⟨by simp only; omega, arrP_len _ _, arrP_lt _ _⟩
theorem osP_wf (ps : List (List Nat)) (j : Nat) : wfS (osP ps j) := fun o ho => by
  obtain ⟨x, _, rfl⟩ := List.mem_map.1 ho
  exact parseO_wf x
theorem flC_d (l : List Oid) : (flC l).all C.isD = true := by
  rw [List.all_eq_true]
  intro c hc
  obtain ⟨d, _, rfl⟩ := List.mem_map.1 hc
  rfl
theorem p147 (hX : XOk m X) {N : Nat} {s : List Nat} {c : Nat} : (zenv X N).prim 147 [.c (.d (.str s)), .c (.d (.str [c]))] = some (.c (.d (.int .i64 (oInt (idxN c s))))) := by
  rw [zenv_pr]
  exact hX.prim _ _ _ rfl
end Mini
end Go.Proofs.YtgjlofpfbhioaaaGreatDoor
namespace Go.Proofs.YtgjlofpfbhioaaaGreatDoor
namespace Mini
open Go
variable {m : Int} {X : Ctx}
theorem seqLen (c : Nat) (s : List Nat) : 0 < (splitN c s).length := by
  rcases Nat.eq_zero_or_pos (splitN c s).length with h | h
  · exact absurd (List.length_eq_zero_iff.1 h) (splitN_neq c s)
  · exact h
theorem f93 (hX : XOk m X) {N : Nat} (hN : 2 ≤ N) {s c : List Nat} {H : Heap} : callN X N (.d (.fn 93 [] [])) [strV s, strV c] H = some (.c (.fn 148 [] [.ptr (H.length + 1) 0 0, .ptr H.length 0 0, .ptr (H.length + 2) 0 0]), H ++ [.cells [.d (.str s)] 0 false, .cells [.d (.str c)] 0 false, .cells [.d (.int .i64 0)] 0 false]) := by
  obtain ⟨N, rfl⟩ : ∃ M, N = M + 2 := ⟨N - 2, by omega⟩
  have h115 : callN X (N + 1) (.d (.fn 115 [] [])) [strV s, strV c, i64 0] H = some (.c (.fn 148 [] [.ptr (H.length + 1) 0 0, .ptr H.length 0 0, .ptr (H.length + 2) 0 0]), H ++ [.cells [.d (.str s)] 0 false, .cells [.d (.str c)] 0 false, .cells [.d (.int .i64 0)] 0 false]) := by
    rw [hX.fn (F := fn115) rfl]
    refine (rf_fin _ _ _ _ _ _ _ _ _ (by rfl)).trans ?_
    simp only [strV, V.one, List.length_append, List.append_assoc, evs, Nat.reduceAdd, Nat.reduceSub]
  rw [hX.fn (F := fn93) rfl]
  refine (rf_fin _ _ _ _ _ _ _ _ _ (by rfl)).trans ?_
  simp only [strV, i64] at h115
  simp only [strV, h115, List.map_cons, List.map_nil, evs, Nat.reduceAdd, Nat.reduceSub]
end Mini
end Go.Proofs.YtgjlofpfbhioaaaGreatDoor
namespace Go.Proofs.YtgjlofpfbhioaaaGreatDoor
namespace Mini
open Go
variable {m : Int} {X : Ctx}
def itemsOk (ps : List (List Nat)) : Prop := ∀ j, j < ps.length → (parseO (ps.getD j [])).2 = 0
instance (ps : List (List Nat)) : Decidable (itemsOk ps) := by unfold itemsOk; infer_instance
theorem ex_rf {E : Env} {N : Nat} {f : A} {ps : List Nat} {asg body : I} {regs : List V} {H H2 : Heap} {x : C} {r : V} {regs2 : List V} {ps2 : List Nat} {asg2 body2 : I} (hx : look E regs [] f = .c x) (hf : x.isFn = true) (hc : E.call x [.c (.yld H.length)] (H ++ [.loop true none regs ps asg body]) = some (r, H2)) (ho : H2[H.length]? = some (.loop true none regs2 ps2 asg2 body2)) :
    exec E N false (.rf f ps asg body) ⟨regs, H⟩ = some (.nrm, ⟨regs, H2.set H.length .dead⟩) := by
  simp only [exec, hx, hf, hc, ob_eq, ho, setOb_eq]
  simp
theorem ex_rf_out {E : Env} {N : Nat} {f : A} {ps : List Nat} {asg body : I} {regs : List V} {H H2 : Heap} {x : C} {r : V} {e : Ex} {regs2 : List V} {ps2 : List Nat} {asg2 body2 : I} (hx : look E regs [] f = .c x) (hf : x.isFn = true) (hc : E.call x [.c (.yld H.length)] (H ++ [.loop true none regs ps asg body]) = some (r, H2)) (ho : H2[H.length]? = some (.loop false (some e) regs2 ps2 asg2 body2)) :
    exec E N false (.rf f ps asg body) ⟨regs, H⟩ = some (e, ⟨regs, H2.set H.length .dead⟩) := by
  simp only [exec, hx, hf, hc, ob_eq, ho, setOb_eq]
  simp
end Mini
end Go.Proofs.YtgjlofpfbhioaaaGreatDoor
namespace Go.Proofs.YtgjlofpfbhioaaaGreatDoor
namespace Mini
open Go
variable {m : Int} {X : Ctx}
theorem f33g (hX : XOk m X) {N : Nat} {s : List Nat} {w : D} {u : List Oid} {b1 b2 b3 : Bool} (hN : s.length + 400 ≤ N) (hs : s.length < 1000000) (hu : isSet w u) (hul : wfS u) (hlen : u.length < 1000000) : vcallN X N 33 [.agg (anC s w b1 b2 b3)] = some (i64 (chkA s u)) := by
  obtain ⟨N, rfl⟩ : ∃ M, N = M + 1 := ⟨N - 1, by omega⟩
  have h1 := hX.vc (k := 70) (F := fn70) rfl (f70 hX (N := N) (s := s) (by omega) (by omega))
  have h2 := hX.vc (k := 19) (F := fn19) rfl (f19 hX (N := N) (by omega) hu hul hlen)
  have h3 := hu.len
  simp only [i64, bl] at h1 h2
  refine vcall_of (r := i64 (chkA s u)) (H := [.cells (anC s w b1 b2 b3) 0 false]) ?_ rfl
  rw [hX.fn (F := fn33) rfl]
  refine (rf_fin _ _ _ _ _ _ _ _ _ (by rfl)).trans ?_
  unfold chkA
  cases hn : nameB s
  · rw [hn] at h1
    simp only [anC, ob?, h1, Bool.not_false, List.take, List.drop, Int.cast_ofNat_Int, evs, Nat.reduceSub]
  · rw [hn] at h1
    by_cases c1 : chkS u = 0
    · rw [c1] at h2 ⊢
      by_cases c2 : u.length = 0
      · simp only [anC, ob?, h1, h2, h3, c2, Bool.not_true, ne_eq, not_true_eq_false, List.take, List.drop, Int.cast_ofNat_Int, ↓sp_len, evs, Nat.reduceSub, reduceCtorEq]
      · have g2 : ((u.length : Int) == 0) = false := by rw [beq_eq_false_iff_ne]; omega
        simp only [anC, ob?, h1, h2, h3, g2, c2, Bool.not_true, ne_eq, not_true_eq_false, List.take, List.drop, Int.natCast_zero, ↓sp_len, evs, Nat.reduceSub, reduceCtorEq]
    · have g1 : ((chkS u : Int) != 0) = true := by rw [bne_iff_ne]; omega
      simp only [anC, ob?, h1, h2, g1, c1, Bool.not_true, ne_eq, not_false_eq_true, List.take, List.drop, evs, Nat.reduceSub, reduceCtorEq]
section
variable {N j : Nat} {s a b : List Nat} {H : Heap} {l : List An}
end
end Mini
end Go.Proofs.YtgjlofpfbhioaaaGreatDoor
namespace Go.Proofs.YtgjlofpfbhioaaaGreatDoor
namespace Mini
open Go
variable {m : Int} {X : Ctx}
theorem getD_len (q : List (List Nat)) (b j : Nat) (h : ∀ x ∈ q, x.length ≤ b) : (q.getD j []).length ≤ b := by
  rw [List.getD_eq_getElem?_getD]
  cases hx : q[j]? with
  | none => simp
  | some x => exact h x (List.mem_of_getElem? hx)
end Mini
end Go.Proofs.YtgjlofpfbhioaaaGreatDoor
namespace Go.Proofs.YtgjlofpfbhioaaaGreatDoor
namespace Mini
open Go
variable {m : Int} {X : Ctx}
def sumS (a x : Nat) : Nat := (a * 31 + x) % 65521
def sumN (a : Nat) (s : List Nat) : Nat := s.foldl sumS a
theorem sumN_lt : ∀ (s : List Nat) {a : Nat}, a < 65521 → sumN a s < 65521
  | [], _, h => h
  | x :: s, a, _ => sumN_lt s (a := sumS a x) (Nat.mod_lt _ (by decide))
theorem sumN_at {s : List Nat} {a j : Nat} (h : j < s.length) : sumN a (s.take (j + 1)) = sumS (sumN a (s.take j)) (s.getD j 0) := by
  have hx : s[j]? = some (s.getD j 0) := by rw [List.getD_eq_getElem?_getD, List.getElem?_eq_getElem h]; rfl
  rw [List.take_add_one, hx, Option.toList_some]
  simp [sumN]
theorem step_sum {a x : Nat} (ha : a < 65521) (hx : x < 256) : IntKind.i64.wrap ((a : Int) * 31) = ((a * 31 : Nat) : Int) ∧ IntKind.i64.wrap (x : Int) = (x : Int) ∧ IntKind.i64.wrap (((a * 31 : Nat) : Int) + (x : Int)) = ((a * 31 + x : Nat) : Int) ∧ ((a * 31 + x : Nat) : Int).tmod 65521 = ((sumS a x : Nat) : Int) := by
  refine ⟨?_, wrap_nat (by omega), ?_, ?_⟩
  · rw [← wrap_nat (k := a * 31) (by omega)]; simp
  · rw [← wrap_nat (k := a * 31 + x) (by omega)]; simp
  · rw [Int.tmod_eq_emod_of_nonneg (by omega)]; simp only [sumS]; omega
abbrev R74 (s : List Nat) (x0 : V) (a j : Nat) : List V := [x0, strV s, .any, i64 (sumN a (s.take j)), .any, i64 (s.length : Int), i64 (j : Int), .any]
theorem f74 (hX : XOj m X) {N : Nat} {s : List Nat} {a : Nat} (hN : s.length + 10 ≤ N) (ha : a < 65521) (hb : ∀ c ∈ s, c < 256) (hs : s.length < 1000000000) : vcallN X N 74 [i64 a, strV s] = some (i64 (sumN a s)) := by
  obtain ⟨N, rfl⟩ : ∃ M, N = M + 1 := ⟨N - 1, by omega⟩
  have hF : fnsX 74 = some fn74' := rfl
  have hit : iter (some [1, 3, 5, 6]) 0 (exec (zenv X N) N false fn74L0) N ⟨R74 s .any a 0, []⟩ = some (.exit 0, ⟨[.any, strV s, .any, i64 (sumN a s), .any, i64 (s.length : Int), i64 (s.length : Int), bl false], []⟩) := by
    refine iter_to (fun j => ⟨R74 s .any a j, []⟩) (e := .exit 0) (fun h => by cases h) s.length 0 N (fun j _ hj => ?_) ?_ (by omega)
    · have hj' : j < s.length := by omega
      have h4 : (j : Int) < (s.length : Int) := by omega
      have h6 := wrap_succ (k := j) (by omega)
      have hx : s[j]? = some (s.getD j 0) := by rw [List.getD_eq_getElem?_getD, List.getElem?_eq_getElem hj']; rfl
      have hxb : s.getD j 0 < 256 := hb _ (List.mem_of_getElem? hx)
      have hA := sumN_lt (s.take j) ha
      obtain ⟨e1, e2, e3, e4⟩ := step_sum hA hxb
      have hst := sumN_at (a := a) hj'
      refine ⟨⟨[.any, strV s, .any, i64 (sumN a (s.take (j + 1))), i64 (j : Int), i64 (s.length : Int), i64 ((j + 1 : Nat) : Int), bl true], []⟩, ?_, ?_⟩
      · rw [hst]
        simp only [fn74L0, R74, strV, h4, h6, hx, e1, e2, e3, e4, evs, Int.reduceEq]
      · show gc 0 ⟨_, _⟩ = _
        rw [gc_le (by simp)]
        rfl
    · rw [Nat.zero_add]
      have h4 : ¬ (s.length : Int) < (s.length : Int) := by omega
      have ht : s.take s.length = s := List.take_length
      unfold R74
      rw [ht]
      simp only [fn74L0, strV, h4, evs]
  have h0 : sumN a (s.take 0) = a := rfl
  unfold R74 at hit
  rw [h0] at hit
  simp only [strV, i64, bl, Int.natCast_zero] at hit
  refine vcall_of (r := i64 (sumN a s)) (H := []) ?_ rfl
  rw [hX.fn hF]
  refine (rf_fin _ _ _ _ _ _ _ _ _ (by rfl)).trans ?_
  simp only [strV, hit, evs, Nat.reduceAdd, Nat.reduceBEq, Nat.reduceSub]
abbrev R46 (s : List Nat) (a j : Nat) : List V := [i64 (sumN a (s.take j)), strV s, .any, i64 (j : Int), .any]
theorem f46 (hX : XOj m X) {N : Nat} {s : List Nat} {a : Nat} (hN : s.length + 10 ≤ N) (ha : a < 65521) (hb : ∀ c ∈ s, c < 256) (hs : s.length < 1000000000) : vcallN X N 46 [i64 a, strV s] = some (i64 (sumN a s)) := by
  obtain ⟨N, rfl⟩ : ∃ M, N = M + 1 := ⟨N - 1, by omega⟩
  have hF : fnsX 46 = some fn46' := rfl
  have hit : iter (some [0, 1, 3]) 0 (exec (zenv X N) N false fn46L0) N ⟨R46 s a 0, []⟩ = some (.exit 0, ⟨[i64 (sumN a s), strV s, .any, i64 (s.length : Int), bl false], []⟩) := by
    refine iter_to (fun j => ⟨R46 s a j, []⟩) (e := .exit 0) (fun h => by cases h) s.length 0 N (fun j _ hj => ?_) ?_ (by omega)
    · have hj' : j < s.length := by omega
      have h4 : (j : Int) < (s.length : Int) := by omega
      have h6 := wrap_succ (k := j) (by omega)
      have hx : s[j]? = some (s.getD j 0) := by rw [List.getD_eq_getElem?_getD, List.getElem?_eq_getElem hj']; rfl
      have hxb : s.getD j 0 < 256 := hb _ (List.mem_of_getElem? hx)
      have hA := sumN_lt (s.take j) ha
      obtain ⟨e1, e2, e3, e4⟩ := step_sum hA hxb
      have hst := sumN_at (a := a) hj'
      refine ⟨⟨[i64 (sumN a (s.take (j + 1))), strV s, .any, i64 ((j + 1 : Nat) : Int), bl true], []⟩, ?_, ?_⟩
      · rw [hst]
        simp only [fn46L0, R46, strV, h4, h6, hx, e1, e2, e3, e4, evs, Int.reduceEq]
      · show gc 0 ⟨_, _⟩ = _
        rw [gc_le (by simp)]
        rfl
    · rw [Nat.zero_add]
      have h4 : ¬ (s.length : Int) < (s.length : Int) := by omega
      have ht : s.take s.length = s := List.take_length
      unfold R46
      rw [ht]
      simp only [fn46L0, strV, h4, evs]
  have h0 : sumN a (s.take 0) = a := rfl
  unfold R46 at hit
  rw [h0] at hit
  simp only [strV, i64, bl, Int.natCast_zero] at hit
  refine vcall_of (r := i64 (sumN a s)) (H := []) ?_ rfl
  rw [hX.fn hF]
  refine (rf_fin _ _ _ _ _ _ _ _ _ (by rfl)).trans ?_
  simp only [strV, hit, evs, Nat.reduceAdd, Nat.reduceBEq, Nat.reduceSub]
def reasT (k : Nat) : List Nat := if k = 1 then [109, 97, 112, 112, 101, 100] else if k = 2 then [118, 97, 108, 105, 100] else if k = 3 then [117, 115, 101, 114] else []
theorem f101 (hX : XOj m X) {N : Nat} (hN : 1 ≤ N) {k : Nat} (hk : k < 4) : vcallN X N 101 [.c (.d (.int .u8 (k : Int)))] = some (strV (reasT k)) := by
  obtain ⟨N, rfl⟩ : ∃ M, N = M + 1 := ⟨N - 1, by omega⟩
  refine vcall_of (r := strV (reasT k)) (H := []) ?_ rfl
  rw [hX.fn (F := fn101) rfl]
  have : k = 0 ∨ k = 1 ∨ k = 2 ∨ k = 3 := by omega
  rcases this with rfl | rfl | rfl | rfl <;> rfl
def reasD : D := .sl [.str [], .str [109, 97, 112, 112, 101, 100], .str [118, 97, 108, 105, 100], .str [117, 115, 101, 114]] 4
theorem f77 (hX : XOj m X) {N : Nat} (hN : 1 ≤ N) : vcallN X N 77 [] = some (.c (.d reasD)) := by
  obtain ⟨N, rfl⟩ : ∃ M, N = M + 1 := ⟨N - 1, by omega⟩
  refine vcall_of (r := .c (.os 0 0 0 4 1 (some 4))) (H := [.cells [.d (.str []), .d (.str [109, 97, 112, 112, 101, 100]), .d (.str [118, 97, 108, 105, 100]), .d (.str [117, 115, 101, 114])] 0 false]) ?_ rfl
  rw [hX.fn (F := fn77) rfl]
  rfl
end Mini
end Go.Proofs.YtgjlofpfbhioaaaGreatDoor
namespace Go.Proofs.YtgjlofpfbhioaaaGreatDoor
namespace Mini
open Go
variable {m : Int} {X : Ctx}
structure En where
  s : List Nat
  acc : Bool
  r : Nat
  t : Int
  w : D
  l : List Oid
def enC (s : List Nat) (acc : Bool) (r : Nat) (t : Int) (w : D) : List C := [.d (.str s), .d (.bool acc), .d (.int .u8 (r : Int)), .d (.int .i64 t), .d w]
def badE (acc : Bool) (r : Nat) (t : Int) (n : Nat) : Prop := (acc = true ∧ (r ≠ 0 ∨ t ≠ 0)) ∨ (acc = false ∧ (r < 1 ∨ 3 < r ∨ t < 0 ∨ 63 < t ∨ 0 < n))
instance (acc : Bool) (r : Nat) (t : Int) (n : Nat) : Decidable (badE acc r t n) := by unfold badE; infer_instance
def chkE (s : List Nat) (acc : Bool) (r : Nat) (t : Int) (l : List Oid) : Nat := if nameB s = false then 18 else if badE acc r t l.length then 1 else chkS l
theorem f48 (hX : XOj m X) {N : Nat} {s : List Nat} {acc : Bool} {r : Nat} {t : Int} {w : D} {l : List Oid} (hN : s.length + 500 ≤ N) (hs : s.length < 1000000) (hw : isSet w l) (hl : wfS l) (hlen : l.length < 1000000) : vcallN X N 48 [.agg (enC s acc r t w)] = some (i64 (chkE s acc r t l)) := by
  obtain ⟨N, rfl⟩ : ∃ M, N = M + 1 := ⟨N - 1, by omega⟩
  have hF : fnsX 48 = some fn48' := rfl
  have hx := hX.x
  have h83 := hx.vc (k := 83) (F := fn83) rfl (f83 hx (N := N) (by omega))
  have h19 := hx.vc (k := 19) (F := fn19) rfl (f19 hx (N := N) (by omega) hw hl hlen)
  have hln := hw.len
  have hcA : chkA s [anyO] = if nameB s = false then 18 else 0 := by
    unfold chkA
    rw [if_neg (show ¬ chkS [anyO] ≠ 0 by decide), if_neg (show ¬ [anyO].length = 0 by decide)]
  have hso : slO [anyO] = .sl (oD anyO) 1 := by simp [slO]
  have h33 := hx.vc (k := 33) (F := fn33) rfl (f33g hx (N := N) (s := s) (w := slO [anyO]) (u := [anyO]) (b1 := false) (b2 := false) (b3 := false) (by omega) hs (.inr rfl) (fun o ho => by
    rw [List.mem_singleton] at ho
    subst ho
    exact ⟨by decide, rfl, by decide⟩) (by decide))
  rw [hcA, hso] at h33
  have hoc : ∀ H k, mapO (deepC H k) (oC anyO) = some (oD anyO) := fun H k => mapO_d H k _
  have hol : (oC anyO).length = 17 := rfl
  have hot : (oC anyO).take 17 = oC anyO := rfl
  have hfl : (oC anyO).all C.flat = true := rfl
  have rep1 : ∀ z : List C, rep z 1 = z := fun z => by simp [rep]
  have hd83 := h83
  clear h83 hcA hso
  generalize oC anyO = oc at *
  generalize oD anyO = od at *
  refine vcall_of (r := i64 (chkE s acc r t l)) (H := [.cells (enC s acc r t w) 0 false, .cells oc 0 false]) ?_ rfl
  rw [hX.fn hF]
  simp only [i64, anC] at h19 h33
  unfold chkE
  cases hn : nameB s
  · rw [hn] at h33
    simp only [if_true, Int.cast_ofNat_Int] at h33
    rw [if_pos rfl]
    have g1 : ((18 : Int) != 0) = true := rfl
    refine (rf_fin _ _ _ _ _ _ _ _ _ (by rfl)).trans ?_
    simp only [g1, Int.cast_ofNat_Int, ob?, enC, lay, rep1, splice, hd83, h33, hfl, hoc, hot, hol, deepMax, List.take, List.drop, List.map_cons, List.map_nil, evs, Nat.reduceAdd, Nat.reduceLeDiff, Nat.reduceSub]
  rw [hn] at h33
  simp only [Bool.true_eq_false, if_false, Int.natCast_zero] at h33
  rw [if_neg (by simp)]
  have g0 : ((0 : Int) != 0) = false := rfl
  cases acc
  · by_cases c1 : (r : Int) < 1
    · rw [if_pos (show badE false r t l.length by unfold badE; simp only [reduceCtorEq, false_and, true_and, false_or]; omega)]
      refine (rf_fin _ _ _ _ _ _ _ _ _ (by rfl)).trans ?_
      simp only [g0, Int.cast_ofNat_Int, c1, ob?, enC, lay, rep1, splice, hd83, h33, hfl, hoc, hot, hol, deepMax, List.take, List.drop, List.map_cons, List.map_nil, Bool.not_false, evs, Nat.reduceAdd, Nat.reduceLeDiff, Nat.reduceSub]
    by_cases c2 : (r : Int) > 3
    · rw [if_pos (show badE false r t l.length by unfold badE; simp only [reduceCtorEq, false_and, true_and, false_or]; omega)]
      refine (rf_fin _ _ _ _ _ _ _ _ _ (by rfl)).trans ?_
      simp only [g0, Int.cast_ofNat_Int, c1, c2, ob?, enC, lay, rep1, splice, hd83, h33, hfl, hoc, hot, hol, deepMax, List.take, List.drop, List.map_cons, List.map_nil, Bool.not_false, evs, Nat.reduceAdd, Nat.reduceLeDiff, Nat.reduceSub]
    by_cases c3 : t < 0
    · rw [if_pos (show badE false r t l.length by unfold badE; simp only [reduceCtorEq, false_and, true_and, false_or]; omega)]
      refine (rf_fin _ _ _ _ _ _ _ _ _ (by rfl)).trans ?_
      simp only [g0, Int.cast_ofNat_Int, c1, c2, c3, ob?, enC, lay, rep1, splice, hd83, h33, hfl, hoc, hot, hol, deepMax, List.take, List.drop, List.map_cons, List.map_nil, Bool.not_false, evs, Nat.reduceAdd, Nat.reduceLeDiff, Nat.reduceSub]
    by_cases c4 : t ≥ 64
    · rw [if_pos (show badE false r t l.length by unfold badE; simp only [reduceCtorEq, false_and, true_and, false_or]; omega)]
      refine (rf_fin _ _ _ _ _ _ _ _ _ (by rfl)).trans ?_
      simp only [g0, Int.cast_ofNat_Int, c1, c2, c3, c4, ob?, enC, lay, rep1, splice, hd83, h33, hfl, hoc, hot, hol, deepMax, List.take, List.drop, List.map_cons, List.map_nil, Bool.not_false, evs, Nat.reduceAdd, Nat.reduceLeDiff, Nat.reduceSub]
    by_cases c5 : (l.length : Int) > 0
    · rw [if_pos (show badE false r t l.length by unfold badE; simp only [reduceCtorEq, false_and, true_and, false_or]; omega)]
      refine (rf_fin _ _ _ _ _ _ _ _ _ (by rfl)).trans ?_
      simp only [g0, Int.cast_ofNat_Int, c1, c2, c3, c4, c5, ob?, enC, lay, rep1, splice, hd83, h33, hfl, hln, hoc, hot, hol, deepMax, List.take, List.drop, List.map_cons, List.map_nil, Bool.not_false, ↓sp_len, evs, Nat.reduceAdd, Nat.reduceLeDiff, Nat.reduceSub]
    rw [if_neg (show ¬ badE false r t l.length by unfold badE; simp only [reduceCtorEq, false_and, true_and, false_or]; omega)]
    refine (rf_fin _ _ _ _ _ _ _ _ _ (by rfl)).trans ?_
    simp only [g0, h19, c1, c2, c3, c4, c5, ob?, enC, lay, rep1, splice, hd83, h33, hfl, hln, hoc, hot, hol, deepMax, List.take, List.drop, List.map_cons, List.map_nil, Bool.not_false, ↓sp_len, evs, Nat.reduceAdd, Nat.reduceLeDiff, Nat.reduceSub]
  · by_cases c1 : r = 0
    · subst c1
      have g1 : (((0 : Nat) : Int) != 0) = false := rfl
      by_cases c2 : t = 0
      · subst c2
        rw [if_neg (show ¬ badE true 0 0 l.length by unfold badE; simp only [reduceCtorEq, false_and, true_and, or_false]; omega)]
        refine (rf_fin _ _ _ _ _ _ _ _ _ (by rfl)).trans ?_
        simp only [g0, h19, Int.cast_ofNat_Int, ob?, enC, lay, rep1, splice, hd83, h33, hfl, hoc, hot, hol, deepMax, List.take, List.drop, List.map_cons, List.map_nil, Bool.not_true, evs, Nat.reduceAdd, Nat.reduceLeDiff, Nat.reduceSub]
      · have g2 : (t != 0) = true := by rw [bne_iff_ne]; exact c2
        rw [if_pos (show badE true 0 t l.length by unfold badE; simp only [reduceCtorEq, false_and, true_and, or_false]; omega)]
        refine (rf_fin _ _ _ _ _ _ _ _ _ (by rfl)).trans ?_
        simp only [g0, g2, Int.cast_ofNat_Int, ob?, enC, lay, rep1, splice, hd83, h33, hfl, hoc, hot, hol, deepMax, List.take, List.drop, List.map_cons, List.map_nil, evs, Nat.reduceAdd, Nat.reduceLeDiff, Nat.reduceSub]
    · have g2 : ((r : Int) != 0) = true := by rw [bne_iff_ne]; omega
      rw [if_pos (show badE true r t l.length by unfold badE; simp only [reduceCtorEq, false_and, true_and, or_false]; omega)]
      refine (rf_fin _ _ _ _ _ _ _ _ _ (by rfl)).trans ?_
      simp only [g0, g2, Int.cast_ofNat_Int, ob?, enC, lay, rep1, splice, hd83, h33, hfl, hoc, hot, hol, deepMax, List.take, List.drop, List.map_cons, List.map_nil, evs, Nat.reduceAdd, Nat.reduceLeDiff, Nat.reduceSub]
theorem f45 (hX : XOj m X) {N : Nat} {s : List Nat} {acc : Bool} {r : Nat} {t : Int} {w : D} {l : List Oid} (hN : s.length + 500 ≤ N) (hs : s.length < 1000000) (hw : isSet w l) (hl : wfS l) (hlen : l.length < 1000000) : vcallN X N 45 [.agg (enC s acc r t w)] = some (i64 (chkE s acc r t l)) := by
  obtain ⟨N, rfl⟩ : ∃ M, N = M + 1 := ⟨N - 1, by omega⟩
  have hF : fnsX 45 = some fn45' := rfl
  have hx := hX.x
  have h56 := hx.vc (k := 56) (F := fn56) rfl (f56 hx (N := N) (s := s) (by omega) hs)
  have h19 := hx.vc (k := 19) (F := fn19) rfl (f19 hx (N := N) (by omega) hw hl hlen)
  have hln := hw.len
  refine vcall_of (r := i64 (chkE s acc r t l)) (H := [.cells (enC s acc r t w) 0 false]) ?_ rfl
  rw [hX.fn hF]
  simp only [i64, bl] at h19 h56
  unfold chkE
  cases hn : nameB s
  · rw [hn] at h56
    rw [if_pos rfl]
    refine (rf_fin _ _ _ _ _ _ _ _ _ (by rfl)).trans ?_
    simp only [Int.cast_ofNat_Int, ob?, enC, h56, List.take, List.drop, Bool.not_false, evs, Nat.reduceSub]
  rw [hn] at h56
  rw [if_neg (by simp)]
  cases acc
  · by_cases c1 : (r : Int) < 1
    · rw [if_pos (show badE false r t l.length by unfold badE; simp only [reduceCtorEq, false_and, true_and, false_or]; omega)]
      refine (rf_fin _ _ _ _ _ _ _ _ _ (by rfl)).trans ?_
      simp only [Int.cast_ofNat_Int, c1, ob?, enC, h56, List.take, List.drop, Bool.not_true, Bool.not_false, evs, Nat.reduceSub]
    by_cases c2 : (r : Int) > 3
    · rw [if_pos (show badE false r t l.length by unfold badE; simp only [reduceCtorEq, false_and, true_and, false_or]; omega)]
      refine (rf_fin _ _ _ _ _ _ _ _ _ (by rfl)).trans ?_
      simp only [Int.cast_ofNat_Int, c1, c2, ob?, enC, h56, List.take, List.drop, Bool.not_true, Bool.not_false, evs, Nat.reduceSub]
    by_cases c3 : t < 0
    · rw [if_pos (show badE false r t l.length by unfold badE; simp only [reduceCtorEq, false_and, true_and, false_or]; omega)]
      refine (rf_fin _ _ _ _ _ _ _ _ _ (by rfl)).trans ?_
      simp only [Int.cast_ofNat_Int, c1, c2, c3, ob?, enC, h56, List.take, List.drop, Bool.not_true, Bool.not_false, evs, Nat.reduceSub]
    by_cases c4 : t > 63
    · rw [if_pos (show badE false r t l.length by unfold badE; simp only [reduceCtorEq, false_and, true_and, false_or]; omega)]
      refine (rf_fin _ _ _ _ _ _ _ _ _ (by rfl)).trans ?_
      simp only [Int.cast_ofNat_Int, c1, c2, c3, c4, ob?, enC, h56, List.take, List.drop, Bool.not_true, Bool.not_false, evs, Nat.reduceSub]
    by_cases c5 : (l.length : Int) > 0
    · rw [if_pos (show badE false r t l.length by unfold badE; simp only [reduceCtorEq, false_and, true_and, false_or]; omega)]
      refine (rf_fin _ _ _ _ _ _ _ _ _ (by rfl)).trans ?_
      simp only [Int.cast_ofNat_Int, c1, c2, c3, c4, c5, ob?, enC, h56, hln, List.take, List.drop, Bool.not_true, Bool.not_false, ↓sp_len, evs, Nat.reduceSub]
    rw [if_neg (show ¬ badE false r t l.length by unfold badE; simp only [reduceCtorEq, false_and, true_and, false_or]; omega)]
    refine (rf_fin _ _ _ _ _ _ _ _ _ (by rfl)).trans ?_
    simp only [h19, c1, c2, c3, c4, c5, ob?, enC, h56, hln, List.take, List.drop, Bool.not_true, Bool.not_false, ↓sp_len, evs, Nat.reduceSub]
  · by_cases c1 : r = 0
    · subst c1
      have g1 : (((0 : Nat) : Int) != 0) = false := rfl
      have g0 : ((0 : Int) != 0) = false := rfl
      by_cases c2 : t = 0
      · subst c2
        rw [if_neg (show ¬ badE true 0 0 l.length by unfold badE; simp only [reduceCtorEq, false_and, true_and, or_false]; omega)]
        refine (rf_fin _ _ _ _ _ _ _ _ _ (by rfl)).trans ?_
        simp only [g0, h19, Int.cast_ofNat_Int, ob?, enC, h56, List.take, List.drop, Bool.not_true, evs, Nat.reduceSub]
      · have g2 : (t != 0) = true := by rw [bne_iff_ne]; exact c2
        rw [if_pos (show badE true 0 t l.length by unfold badE; simp only [reduceCtorEq, false_and, true_and, or_false]; omega)]
        refine (rf_fin _ _ _ _ _ _ _ _ _ (by rfl)).trans ?_
        simp only [g0, g2, Int.cast_ofNat_Int, ob?, enC, h56, List.take, List.drop, Bool.not_true, evs, Nat.reduceSub]
    · have g2 : ((r : Int) != 0) = true := by rw [bne_iff_ne]; omega
      rw [if_pos (show badE true r t l.length by unfold badE; simp only [reduceCtorEq, false_and, true_and, or_false]; omega)]
      refine (rf_fin _ _ _ _ _ _ _ _ _ (by rfl)).trans ?_
      simp only [g2, Int.cast_ofNat_Int, ob?, enC, h56, List.take, List.drop, Bool.not_true, evs, Nat.reduceSub]
end Mini
end Go.Proofs.YtgjlofpfbhioaaaGreatDoor
namespace Go.Proofs.YtgjlofpfbhioaaaGreatDoor
namespace Mini
open Go
variable {m : Int} {X : Ctx}
abbrev i64D (n : Nat) : D := .int .i64 (n : Int)
theorem r50 {E : Env} {N : Nat} {n : Nat} {s : List Nat} (hn : n < 4294967296) (hs : s.length < 1000) : exec E N false fn50L0 ⟨[.c (.d (i64D n)), .any, strV s, bl true, .any], []⟩ = some (.nrm, ⟨[.c (.d (i64D (n / 10))), .any, strV ((48 + n % 10) :: s), bl (decide (((n / 10 : Nat) : Int) > 0)), bl true], [.cells [.d (.int .u8 ((48 + n % 10 : Nat) : Int))] 0 false]⟩) := by
  have h1 : (n : Int).tmod 10 = ((n % 10 : Nat) : Int) := (Int.ofNat_tmod n 10).symm
  have h2 : (n : Int).tdiv 10 = ((n / 10 : Nat) : Int) := (Int.ofNat_tdiv n 10).symm
  have h3 : IntKind.i64.wrap (48 + ((n % 10 : Nat) : Int)) = ((48 + n % 10 : Nat) : Int) := by
    rw [← wrap_nat (k := 48 + n % 10) (by omega)]; rfl
  have h4 : IntKind.u8.wrap ((48 + n % 10 : Nat) : Int) = ((48 + n % 10 : Nat) : Int) := wrap_u8 (by omega)
  have h5 : IntKind.i64.wrap ((n / 10 : Nat) : Int) = ((n / 10 : Nat) : Int) := wrap_nat (by omega)
  have h6 : bytesOf [C.d (.int .u8 ((48 + n % 10 : Nat) : Int))] = some [48 + n % 10] := bytesOf_of (s := [48 + n % 10]) (fun b hb => by rw [List.mem_singleton] at hb; omega)
  have h7 : 1 + s.length ≤ 1073741824 := by omega
  have h8 : ((10 : Int) = 0) = False := by simp
  generalize 48 + n % 10 = d at *
  generalize n / 10 = q at *
  simp only [fn50L0, strV, i64D, ob?, h1, h2, h3, h4, h5, h6, h7, h8, binStr, elems, lay, rep, splice, List.take, List.drop, List.map_cons, List.map_nil, evs, Nat.reduceLeDiff]
theorem it50 {E : Env} {N : Nat} : ∀ (f n : Nat) (s : List Nat) (fuel : Nat), n < 10 ^ (f + 1) → n < 4294967296 → s.length + f < 1000 → f + 2 ≤ fuel → iter (some [0, 2, 3]) 0 (exec E N false fn50L0) fuel ⟨[.c (.d (i64D n)), .any, strV s, bl true, .any], []⟩ = some (.exit 0, ⟨[.c (.d (i64D 0)), .any, strV (decF f n ++ s), bl false, bl false], []⟩) := by
  have hend : ∀ (s : List Nat), exec E N false fn50L0 ⟨[.c (.d (i64D 0)), .any, strV s, bl false, .any], []⟩ = some (.exit 0, ⟨[.c (.d (i64D 0)), .any, strV s, bl false, bl false], []⟩) := fun s => by
    simp only [fn50L0, evs]
  intro f
  induction f with
  | zero =>
    intro n s fuel hn hn2 hs hf
    obtain ⟨fuel, rfl⟩ : ∃ k, fuel = k + 2 := ⟨fuel - 2, by omega⟩
    have hq : n / 10 = 0 := by omega
    have hr := r50 (E := E) (N := N) hn2 (s := s) (by omega)
    rw [hq] at hr
    rw [iter_step hr]
    have ht : tidy 0 (some [0, 2, 3]) ⟨[.c (.d (i64D 0)), .any, strV ((48 + n % 10) :: s), bl (decide (((0 : Nat) : Int) > 0)), bl true], [.cells [.d (.int .u8 ((48 + n % 10 : Nat) : Int))] 0 false]⟩ = ⟨[.c (.d (i64D 0)), .any, strV ((48 + n % 10) :: s), bl false, .any], []⟩ := gc_yes rfl rfl
    rw [ht, iter_stop (hend _)]
    rfl
  | succ f ih =>
    intro n s fuel hn hn2 hs hf
    obtain ⟨fuel, rfl⟩ : ∃ k, fuel = k + 1 := ⟨fuel - 1, by omega⟩
    have hr := r50 (E := E) (N := N) hn2 (s := s) (by omega)
    rw [iter_step hr]
    by_cases hq : n < 10
    · have hq0 : n / 10 = 0 := by omega
      obtain ⟨fuel, rfl⟩ : ∃ k, fuel = k + 1 := ⟨fuel - 1, by omega⟩
      rw [hq0]
      have ht : tidy 0 (some [0, 2, 3]) ⟨[.c (.d (i64D 0)), .any, strV ((48 + n % 10) :: s), bl (decide (((0 : Nat) : Int) > 0)), bl true], [.cells [.d (.int .u8 ((48 + n % 10 : Nat) : Int))] 0 false]⟩ = ⟨[.c (.d (i64D 0)), .any, strV ((48 + n % 10) :: s), bl false, .any], []⟩ := gc_yes rfl rfl
      rw [ht, iter_stop (hend _), decF, if_pos hq, Nat.mod_eq_of_lt hq]
      rfl
    · have hd : decide (((n / 10 : Nat) : Int) > 0) = true := decide_eq_true (by omega)
      rw [hd]
      have ht : tidy 0 (some [0, 2, 3]) ⟨[.c (.d (i64D (n / 10))), .any, strV ((48 + n % 10) :: s), bl true, bl true], [.cells [.d (.int .u8 ((48 + n % 10 : Nat) : Int))] 0 false]⟩ = ⟨[.c (.d (i64D (n / 10))), .any, strV ((48 + n % 10) :: s), bl true, .any], []⟩ := gc_yes rfl rfl
      rw [ht, ih (n / 10) _ fuel (by rw [Nat.pow_succ] at hn; omega) (by omega) (by simp only [List.length_cons]; omega) (by omega), decF, if_neg hq, List.append_assoc]
      rfl
theorem f50 (hX : XOj m X) {N : Nat} (hN : 40 ≤ N) {n : Nat} (hn : n < 4294967296) : vcallN X N 50 [.c (.d (i64D n))] = some (strV (decN n)) := by
  obtain ⟨N, rfl⟩ : ∃ M, N = M + 1 := ⟨N - 1, by omega⟩
  have hF : fnsX 50 = some fn50' := rfl
  have hit := it50 (E := zenv X N) (N := N) 20 n [] N (Nat.lt_of_lt_of_le hn (by decide)) hn (by simp) (by omega)
  refine vcall_of (r := strV (decN n)) (H := []) ?_ rfl
  rw [hX.fn hF]
  refine (rf_fin _ _ _ _ _ _ _ _ _ (by rfl)).trans ?_
  simp only [strV, bl, List.append_nil] at hit ⊢
  simp only [decN, hit, evs, Nat.reduceAdd, Nat.reduceBEq, Nat.reduceSub]
def wRej : List Nat := [32, 114, 101, 106, 101, 99, 116, 101, 100, 32]
def wAcc : List Nat := [32, 97, 99, 99, 101, 112, 116, 101, 100, 32]
def bodyE (s : List Nat) (acc : Bool) (r : Nat) (t : Int) (l : List Oid) : List Nat := if acc = false then s ++ wRej ++ reasT r ++ [32] ++ decN t.toNat else if l.length = 0 then s ++ wAcc ++ [45] else s ++ wAcc ++ setT l
theorem chkE_parts {s : List Nat} {acc : Bool} {r : Nat} {t : Int} {l : List Oid} (h : chkE s acc r t l = 0) : nameB s = true ∧ ¬ badE acc r t l.length ∧ chkS l = 0 := by
  unfold chkE at h
  by_cases h1 : nameB s = false
  · rw [if_pos h1] at h; cases h
  · rw [if_neg h1] at h
    by_cases h2 : badE acc r t l.length
    · rw [if_pos h2] at h; cases h
    · rw [if_neg h2] at h
      exact ⟨by simpa using h1, h2, h⟩
theorem chkE_rej {s : List Nat} {r : Nat} {t : Int} {l : List Oid} (h : chkE s false r t l = 0) : 1 ≤ r ∧ r ≤ 3 ∧ 0 ≤ t ∧ t ≤ 63 ∧ l.length = 0 := by
  have := (chkE_parts h).2.1
  simp only [badE, reduceCtorEq, false_and, true_and, false_or] at this
  omega
theorem reas_at {r : Nat} (h : r < 4) : ixac 1 r (.c (.d reasD)) = some (.c (.d (.ip (D.str (reasT r) :: ([D.str [], D.str [109, 97, 112, 112, 101, 100], D.str [118, 97, 108, 105, 100], D.str [117, 115, 101, 114]].drop (r + 1))))), []) := by
  have : r = 0 ∨ r = 1 ∨ r = 2 ∨ r = 3 := by omega
  rcases this with rfl | rfl | rfl | rfl <;> rfl
theorem reasT_len (r : Nat) : (reasT r).length ≤ 6 := by
  unfold reasT
  split
  · decide
  split
  · decide
  split
  · decide
  · decide
theorem f49 (hX : XOj m X) {N : Nat} (hN : 400 ≤ N) {s : List Nat} {acc : Bool} {r : Nat} {t : Int} {w : D} {l : List Oid} (hw : isSet w l) (hl : wfS l) (hc : chkE s acc r t l = 0) : vcallN X N 49 [.agg (enC s acc r t w)] = some (strV (bodyE s acc r t l)) := by
  obtain ⟨N, rfl⟩ : ∃ M, N = M + 1 := ⟨N - 1, by omega⟩
  have hF : fnsX 49 = some fn49' := rfl
  obtain ⟨p1, p2, p3⟩ := chkE_parts hc
  have k1 := nameB_ok p1
  have k3 := chkS_len p3
  have k4 := chkS_ok p3
  have hx := hX.x
  have hln := hw.len
  refine vcall_of (r := strV (bodyE s acc r t l)) (H := [.cells (enC s acc r t w) 0 false]) ?_ rfl
  rw [hX.fn hF]
  unfold bodyE
  cases acc
  · rw [if_pos rfl]
    obtain ⟨e1, e2, e3, e4, e5⟩ := chkE_rej hc
    obtain ⟨n, rfl⟩ := Int.eq_ofNat_of_zero_le e3
    have h77 := hX.vc (k := 77) (F := fn77) rfl (f77 hX (N := N) (by omega))
    have h50 := hX.vc (k := 50) (F := fn50) rfl (f50 hX (N := N) (by omega) (n := n) (by omega))
    have hra := reas_at (r := r) (by omega)
    have hrf : reasD.flat = false := rfl
    have hrl := reasT_len r
    have hdl := (decF_len 20 n).1
    have an : asNat (.c (.d (.int .u8 (r : Int)))) = some r := by simp [asNat, asInt]
    have hto : (n : Int).toNat = n := Int.toNat_natCast n
    rw [hto]
    have g1 : s.length + 10 ≤ 1073741824 := by omega
    have g2 : s.length + 10 + (reasT r).length ≤ 1073741824 := by omega
    have g3 : s.length + 10 + (reasT r).length + 1 ≤ 1073741824 := by omega
    have g4 : s.length + 10 + (reasT r).length + 1 + (decN n).length ≤ 1073741824 := by unfold decN; omega
    generalize reasT r = rt at *
    generalize decN n = dn at *
    generalize reasD = rd at *
    simp only [i64D, strV] at h50
    refine (rf_fin _ _ _ _ _ _ _ _ _ (by rfl)).trans ?_
    simp only [enC, ob?, strV, wRej, binStr, h50, h77, hra, hrf, an, g1, g2, g3, g4, List.length_append, List.take, List.drop, List.map_cons, List.map_nil, freeze_nil, List.flatMap_nil, Bool.not_false, ↓sp_ixa, evs, Nat.reduceAdd, Nat.reduceSub]
  rw [if_neg (by simp)]
  have hst := setT_take l (fun o ho => (chkO_n (k4 o ho)).2)
  have hit : iter (some [1, 3, 4]) 1 (exec (zenv X N) N false fn49L0) N ⟨[.any, .c (.ptr 0 0 0), .any, strV (s ++ wAcc ++ setT (l.take 0)), i64 ((0 : Nat) : Int), .any, .any, .any, .any], [.cells (enC s true r t w) 0 false]⟩ = some (.exit 0, ⟨[.any, .c (.ptr 0 0 0), .any, strV (s ++ wAcc ++ setT (l.take l.length)), i64 (l.length : Int), .any, .any, bl false, .any], [.cells (enC s true r t w) 0 false]⟩) := by
    refine iter_to (fun j => ⟨[.any, .c (.ptr 0 0 0), .any, strV (s ++ wAcc ++ setT (l.take j)), i64 (j : Int), .any, .any, .any, .any], [.cells (enC s true r t w) 0 false]⟩) (e := .exit 0) (fun h => by cases h) l.length 0 N (fun j _ hj => ?_) ?_ (by omega)
    · have hj1 : j < l.length := by omega
      have ho := hl.at hj1
      have h1 := hw.at hl hj1
      have h2 := flatO_at hl hj1
      have h4 : (j : Int) < (l.length : Int) := by omega
      have h6 := wrap_succ (k := j) (by omega)
      have hon := chkO_n (k4 _ (getD_mem hj1))
      have h58 := hx.vc (k := 58) (F := fn58) rfl (f58 hx (N := N) (by omega) ho hon.2)
      have hto := textO_len _ hon.2
      have hlo := oC_len ho
      have hsl := hst j
      have hsu := setT_succ l hj1
      rw [hsu]
      have hlen : (s ++ wAcc ++ setT (l.take j)).length ≤ 200000 := by
        simp only [wAcc, List.length_append, List.length_cons, List.length_nil]; omega
      have hm : ∀ H : Heap, mapO (deepC H deepMax) (oC (l.getD j o0)) = some (oD (l.getD j o0)) := fun H => mapO_d H _ _
      have hd : List.map C.d (oD (l.getD j o0)) = oC (l.getD j o0) := rfl
      rw [show s ++ wAcc ++ (setT (l.take j) ++ (if j = 0 then [] else [44]) ++ textO (l.getD j o0)) = s ++ wAcc ++ setT (l.take j) ++ (if j = 0 then [] else [44]) ++ textO (l.getD j o0) by simp only [List.append_assoc]]
      generalize s ++ wAcc ++ setT (l.take j) = T at *
      generalize l.getD j o0 = o at *
      simp only [strV] at h58
      simp only [enC]
      by_cases hz : j = 0
      · have g1 : ¬ (j : Int) > 0 := by omega
        have g2 : T.length + (textO o).length ≤ 1073741824 := by omega
        rw [if_pos hz, List.append_nil]
        refine ⟨⟨[.any, .c (.ptr 0 0 0), .any, strV (T ++ textO o), i64 ((j + 1 : Nat) : Int), .any, .any, bl true, bl false], [.cells (enC s true r t w) 0 false]⟩, ?_, gc_le (Nat.le_refl 1)⟩
        simp only [fn49L0, enC, ob?, strV, binStr, hln, h1, h2, h4, h6, h58, hm, hd, hlo, g1, g2, List.take, List.drop, ↓sp_len, ↓sp_ixa, evs]
      · have g1 : (j : Int) > 0 := by omega
        have g3 : T.length + 1 + (textO o).length ≤ 1073741824 := by omega
        have g4 : T.length ≤ 1073741823 := by omega
        rw [if_neg hz]
        refine ⟨⟨[.any, .c (.ptr 0 0 0), .any, strV (T ++ [44] ++ textO o), i64 ((j + 1 : Nat) : Int), .any, .any, bl true, bl true], [.cells (enC s true r t w) 0 false]⟩, ?_, gc_le (Nat.le_refl 1)⟩
        simp only [fn49L0, enC, ob?, strV, binStr, hln, h1, h2, h4, h6, h58, hm, hd, hlo, g1, g3, g4, List.length_append, List.take, List.drop, ↓sp_len, ↓sp_ixa, evs, Nat.reduceLeDiff]
    · rw [Nat.zero_add]
      simp only [fn49L0, enC, ob?, hln, List.take, List.drop, ↓sp_len, evs]
  rw [List.take_length] at hit
  have hs0 : s ++ wAcc ++ setT (l.take 0) = s ++ wAcc := by rw [List.take_zero]; simp [setT, joinN]
  rw [hs0] at hit
  have g1 : s.length + 10 ≤ 1073741824 := by omega
  by_cases c1 : l.length = 0
  · rw [if_pos c1]
    have g0 : ((l.length : Int) == 0) = true := by rw [beq_iff_eq]; omega
    have g2 : s.length + 10 + 1 ≤ 1073741824 := by omega
    refine (rf_fin _ _ _ _ _ _ _ _ _ (by rfl)).trans ?_
    simp only [enC, ob?, strV, wAcc, binStr, hln, g0, g1, g2, List.length_append, List.take, List.drop, Bool.not_true, ↓sp_len, evs, Nat.reduceAdd, Nat.reduceSub]
  · rw [if_neg c1]
    have g0 : ((l.length : Int) == 0) = false := by rw [beq_eq_false_iff_ne]; omega
    simp only [strV, i64, bl, wAcc, enC, Int.natCast_zero] at hit
    refine (rf_fin _ _ _ _ _ _ _ _ _ (by rfl)).trans ?_
    simp only [enC, ob?, strV, wAcc, binStr, hln, g0, g1, hit, List.take, List.drop, Bool.not_true, ↓sp_len, evs, Nat.reduceAdd, Nat.reduceBEq, Nat.reduceSub]
end Mini
end Go.Proofs.YtgjlofpfbhioaaaGreatDoor
namespace Go.Proofs.YtgjlofpfbhioaaaGreatDoor
namespace Mini
open Go
variable {m : Int} {X : Ctx}
theorem wordsC_u (n : Nat) (l : List (List Nat)) (i : Nat) : (wordsC l i).all (uC n) = true := by
  rw [List.all_eq_true]
  intro c hc
  obtain ⟨d, _, rfl⟩ := List.mem_map.1 hc
  rfl
theorem f72 (hX : XOj m X) {N : Nat} (hN : 400 ≤ N) {s : List Nat} {acc : Bool} {r : Nat} {t : Int} {w : D} {l : List Oid} (hw : isSet w l) (hl : wfS l) (hc : chkE s acc r t l = 0) : vcallN X N 72 [.agg (enC s acc r t w)] = some (strV (bodyE s acc r t l)) := by
  obtain ⟨N, rfl⟩ : ∃ M, N = M + 1 := ⟨N - 1, by omega⟩
  have hF : fnsX 72 = some fn72' := rfl
  obtain ⟨p1, p2, p3⟩ := chkE_parts hc
  have k1 := nameB_ok p1
  have k3 := chkS_len p3
  have k4 := chkS_ok p3
  have hx := hX.x
  have hln := hw.len
  suffices h : ∃ (H : Heap), callN X (N + 1) (.d (.fn 72 [] [])) [.agg (enC s acc r t w)] [] = some (strV (bodyE s acc r t l), H) by
    obtain ⟨H, h⟩ := h
    exact vcall_of h rfl
  rw [hX.fn hF]
  unfold bodyE
  have g1 : s.length + 10 ≤ 1073741824 := by omega
  cases acc
  · rw [if_pos rfl]
    obtain ⟨e1, e2, e3, e4, e5⟩ := chkE_rej hc
    obtain ⟨n, rfl⟩ := Int.eq_ofNat_of_zero_le e3
    have h101 := hX.vc (k := 101) (F := fn101) rfl (f101 hX (N := N) (by omega) (k := r) (by omega))
    have h73 : (zenv X N).prim 73 [.c (.d (.int .i64 (n : Int)))] = some (.c (.d (.str (decN n)))) := by
      rw [zenv_pr]
      refine hX.prim ?_
      show (if -9223372036854775808 ≤ (n : Int) ∧ (n : Int) ≤ 9223372036854775807 then some (Str (itoaN n)) else none) = _
      rw [if_pos ⟨by omega, by omega⟩, itoaN, if_neg (by omega), Int.toNat_natCast]
    have hrl := reasT_len r
    have hdl := (decF_len 20 n).1
    have hto : (n : Int).toNat = n := Int.toNat_natCast n
    rw [hto]
    have g2 : s.length + 10 + (reasT r).length ≤ 1073741824 := by omega
    have g3 : s.length + 10 + (reasT r).length + 1 ≤ 1073741824 := by omega
    have g4 : s.length + 10 + (reasT r).length + 1 + (decN n).length ≤ 1073741824 := by unfold decN; omega
    generalize reasT r = rt at *
    generalize decN n = dn at *
    simp only [strV] at h101
    refine ⟨[.cells (enC s false r n w) 0 false], (rf_fin _ _ _ _ _ _ _ _ _ (by rfl)).trans ?_⟩
    simp only [enC, ob?, strV, wRej, binStr, h101, h73, g1, g2, g3, g4, List.length_append, List.take, List.drop, Bool.not_false, evs, Nat.reduceAdd, Nat.reduceSub]
  rw [if_neg (by simp)]
  by_cases c1 : l.length = 0
  · rw [if_pos c1]
    have g0 : ((l.length : Int) == 0) = true := by rw [beq_iff_eq]; omega
    have g2 : s.length + 11 ≤ 1073741824 := by omega
    have ha : s ++ wAcc ++ [45] = s ++ [32, 97, 99, 99, 101, 112, 116, 101, 100, 32, 45] := by simp [wAcc]
    rw [ha]
    refine ⟨[.cells (enC s true r t w) 0 false], (rf_fin _ _ _ _ _ _ _ _ _ (by rfl)).trans ?_⟩
    simp only [enC, ob?, strV, binStr, hln, g0, g2, List.take, List.drop, Bool.not_true, ↓sp_len, evs, Nat.reduceAdd, Nat.reduceSub]
  rw [if_neg c1]
  have g0 : ((l.length : Int) == 0) = false := by rw [beq_eq_false_iff_ne]; omega
  have hwl : (l.map textO).length = l.length := List.length_map _
  have hit : iter (some [1, 3, 8, 9, 10]) 2 (exec (zenv X N) N false fn72L0) N ⟨[.any, .c (.ptr 0 0 0), .any, .c (.os 1 0 0 l.length 1 (some l.length)), .any, .any, .any, .any, .c (.d w), i64 (l.length : Int), i64 ((0 : Nat) : Int), .any], [.cells (enC s true r t w) 0 false, .cells (wordsC (l.map textO) 0) 0 false]⟩ = some (.exit 0, ⟨[.any, .c (.ptr 0 0 0), .any, .c (.os 1 0 0 l.length 1 (some l.length)), .any, .any, .any, .any, .c (.d w), i64 (l.length : Int), i64 (l.length : Int), bl false], [.cells (enC s true r t w) 0 false, .cells (wordsC (l.map textO) l.length) 0 false]⟩) := by
    refine iter_to (fun j => ⟨[.any, .c (.ptr 0 0 0), .any, .c (.os 1 0 0 l.length 1 (some l.length)), .any, .any, .any, .any, .c (.d w), i64 (l.length : Int), i64 (j : Int), .any], [.cells (enC s true r t w) 0 false, .cells (wordsC (l.map textO) j) 0 false]⟩) (e := .exit 0) (fun h => by cases h) l.length 0 N (fun j _ hj => ?_) ?_ (by omega)
    · have hj1 : j < l.length := by omega
      have ho := hl.at hj1
      have h1 := hw.at hl hj1
      have h2 := flatO_at hl hj1
      have h4 : (j : Int) < (l.length : Int) := by omega
      have h6 := wrap_succ (k := j) (by omega)
      have hco := k4 _ (getD_mem hj1)
      have h61 := hx.vc (k := 61) (F := fn61) rfl (f61 hx (N := N) (by omega) ho hco)
      have hlo := oC_len ho
      have hm : ∀ H : Heap, mapO (deepC H deepMax) (oC (l.getD j o0)) = some (oD (l.getD j o0)) := fun H => mapO_d H _ _
      have hd : List.map C.d (oD (l.getD j o0)) = oC (l.getD j o0) := rfl
      have q2 : (l.map textO).getD j [] = textO (l.getD j o0) := by
        rw [List.getD_eq_getElem?_getD, List.getElem?_map, List.getElem?_eq_getElem hj1, List.getD_eq_getElem?_getD, List.getElem?_eq_getElem hj1]; rfl
      have q3 := wordsC_set (l.map textO) (i := j) (by omega)
      rw [q2] at q3
      have q4 := wordsC_len (l.map textO) (i := j) (by omega)
      rw [hwl] at q4
      have q5 : j + 1 ≤ l.length := by omega
      have hot : (oC (l.getD j o0)).take 17 = oC (l.getD j o0) := List.take_of_length_le (by omega)
      have hu := wordsC_u 2 (l.map textO) (j + 1)
      generalize wordsC (l.map textO) j = cs at *
      generalize wordsC (l.map textO) (j + 1) = ct at *
      generalize l.getD j o0 = o at *
      simp only [strV] at h61
      simp only [enC]
      refine ⟨⟨[.any, .c (.ptr 0 0 0), .any, .c (.os 1 0 0 l.length 1 (some l.length)), i64 (j : Int), .c (.ptr 2 0 0), .any, .any, .c (.d w), i64 (l.length : Int), i64 ((j + 1 : Nat) : Int), bl true], [.cells (enC s true r t w) 0 false, .cells ct 0 false] ++ [.cells (oC o) 0 false]⟩, ?_, ?_⟩
      · simp only [fn72L0, enC, ob?, h1, h2, h4, h6, h61, hm, hd, hlo, hot, q3, q4, q5, hj1, List.drop, List.set_cons_succ, List.set_cons_zero, ↓sp_ixa, evs, Nat.reduceAdd]
      · exact tidy_back (by simp) rfl (by rfl) (Hp.cons (by rfl) (Hp.cons hu Hp.nil))
    · rw [Nat.zero_add]
      simp only [fn72L0, evs]
  have hw0 : rep [C.d (.str [])] l.length = wordsC (l.map textO) 0 := by
    rw [rep_flat]
    simp [wordsC]
  have h1i : l.length * 16 ≤ 1099511627776 := by omega
  have h1j : l.length ≤ 1099511627776 := by omega
  have hwn : wordsC (l.map textO) l.length = ((l.map textO).map D.str).map .d := by
    unfold wordsC
    rw [List.take_of_length_le (by rw [hwl]; exact Nat.le_refl _), hwl, Nat.sub_self]
    simp
  have hlw : (wordsC (l.map textO) l.length).length = l.length := by
    rw [wordsC_len _ (by rw [hwl]; exact Nat.le_refl _), hwl]
  have hdp : deepC [.cells (enC s true r t w) 0 false, .cells (wordsC (l.map textO) l.length) 0 false] deepMax (.os 1 0 0 l.length 1 (some l.length)) = some (.sl ((l.map textO).map D.str) l.length) := by
    have p1 : 0 + l.length * 1 ≤ (wordsC (l.map textO) l.length).length := by omega
    have p2 : ((wordsC (l.map textO) l.length).drop 0).take (l.length * 1) = ((l.map textO).map D.str).map .d := by
      rw [List.drop_zero, List.take_of_length_le (by omega), hwn]
    simp only [deepMax, deepC, ob?, if_true, if_pos p1, p2, mapO_d, Option.map_some]
  have hsl := setT_len l (fun o ho => (chkO_n (k4 o ho)).2)
  have hj : (zenv X N).prim 90 [.c (.d (.sl ((l.map textO).map D.str) l.length)), .c (.d (.str [44]))] = some (.c (.d (.str (setT l)))) := by
    rw [zenv_pr]
    refine hX.prim ?_
    have e : ∀ vs, primJ 90 vs = joinV vs := fun _ => rfl
    rw [e]
    unfold joinV
    simp only [strsOf_words]
    have hb2 : (joinN [44] (l.map textO)).length ≤ 1073741824 := by
      have : (joinN [44] (l.map textO)).length = (setT l).length := rfl
      omega
    rw [if_pos ⟨hwl, by omega, by omega, hb2⟩]
    rfl
  have g2 : s.length + 10 + (setT l).length ≤ 1073741824 := by omega
  simp only [i64, bl, enC, Int.natCast_zero] at hit hdp
  rw [← hw0] at hit
  generalize setT l = st at *
  generalize (l.map textO).map D.str = ws at *
  generalize wordsC (l.map textO) l.length = ct at *
  refine ⟨[.cells (enC s true r t w) 0 false, .cells ct 0 false], (rf_fin _ _ _ _ _ _ _ _ _ (by rfl)).trans ?_⟩
  simp only [enC, ob?, strV, wAcc, binStr, hln, g0, g1, g2, h1i, h1j, hit, hdp, hj, Nat.le_refl, List.length_append, List.take, List.drop, List.map_cons, List.map_nil, Bool.not_true, ↓sp_len, evs, Nat.reduceAdd, Nat.reduceBEq, Nat.reduceSub]
end Mini
end Go.Proofs.YtgjlofpfbhioaaaGreatDoor
namespace Go.Proofs.YtgjlofpfbhioaaaGreatDoor
namespace Mini
open Go
variable {m : Int} {X : Ctx}
def En.ds (e : En) : List D := [.str e.s, .bool e.acc, .int .u8 (e.r : Int), .int .i64 e.t, e.w]
def En.body (e : En) : List Nat := bodyE e.s e.acc e.r e.t e.l
def En.chk (e : En) : Nat := chkE e.s e.acc e.r e.t e.l
def e0 : En := ⟨[], false, 0, 0, .nils, []⟩
def isEns (w : D) (l : List En) : Prop := w = .nils ∧ l = [] ∨ w = .sl (l.flatMap En.ds) l.length
def wfE (e : En) : Prop := isSet e.w e.l ∧ wfS e.l
def wfEs (l : List En) : Prop := ∀ e ∈ l, wfE e
theorem getE_mem {l : List En} {i : Nat} (h : i < l.length) : l.getD i e0 ∈ l := by
  rw [List.getD_eq_getElem?_getD, List.getElem?_eq_getElem h]
  exact List.getElem_mem h
theorem isEns.len {w : D} {l : List En} (h : isEns w l) : lenc (.c (.d w)) = some (.c (.d (.int .i64 (l.length : Int))), []) := by
  rcases h with ⟨rfl, rfl⟩ | rfl <;> rfl
theorem dropE {l : List En} {i : Nat} (h : i < l.length) : l.drop i = l.getD i e0 :: l.drop (i + 1) := by
  rw [List.getD_eq_getElem?_getD, List.getElem?_eq_getElem h]
  exact List.drop_eq_getElem_cons h
theorem isEns.at {w : D} {l : List En} (h : isEns w l) {i : Nat} (hi : i < l.length) : ∃ t, ixac 5 i (.c (.d w)) = some (.c (.d (.ip (En.ds (l.getD i e0) ++ t))), []) := by
  rcases h with ⟨rfl, rfl⟩ | rfl
  · exact absurd hi (Nat.not_lt_zero _)
  · refine ⟨(l.drop (i + 1)).flatMap En.ds, ?_⟩
    have hl : (l.flatMap En.ds).length = l.length * 5 := flD_len (fun _ _ => rfl)
    rw [ixac, if_pos ⟨hi, by rw [hl]; omega⟩, flD_drop (f := En.ds) (k := 5) (fun _ _ => rfl), dropE hi, List.flatMap_cons]
theorem takeE {l : List En} {j : Nat} (hj : j < l.length) : l.take (j + 1) = l.take j ++ [l.getD j e0] := by
  have hx : l[j]? = some (l.getD j e0) := by rw [List.getD_eq_getElem?_getD, List.getElem?_eq_getElem hj]; rfl
  rw [List.take_add_one, hx, Option.toList_some]
theorem reasT_byte (r : Nat) : ∀ c ∈ reasT r, c < 256 := by
  unfold reasT
  split
  · decide
  split
  · decide
  split
  · decide
  · decide
theorem body_ok {e : En} (h : e.chk = 0) : (∀ c ∈ e.body, c < 256) ∧ e.body.length ≤ 91000 := by
  obtain ⟨p1, p2, p3⟩ := chkE_parts h
  have k1 := nameB_ok p1
  have k3 := chkS_len p3
  have k4 := setT_len e.l (fun o ho => (chkO_n (chkS_ok p3 o ho)).2)
  have hn : ∀ c ∈ e.s, c < 256 := fun c hc => okB_byte (k1.2.2 c hc)
  have hrl := reasT_len e.r
  have hdl := (decF_len 20 e.t.toNat).1
  have hdb := decF_byte 20 e.t.toNat
  have hr : ∀ c ∈ wRej, c < 256 := by decide
  have ha : ∀ c ∈ wAcc, c < 256 := by decide
  have hst := setT_byte e.l
  have hre := reasT_byte e.r
  have l1 : wRej.length = 10 := rfl
  have l2 : wAcc.length = 10 := rfl
  unfold En.body bodyE
  by_cases c1 : e.acc = false
  · rw [if_pos c1]
    refine ⟨fun c hc => ?_, by simp only [List.length_append, List.length_cons, List.length_nil, decN]; omega⟩
    simp only [List.mem_append, List.mem_cons, List.not_mem_nil, or_false] at hc
    rcases hc with (((hc | hc) | hc) | rfl) | hc
    · exact hn c hc
    · exact hr c hc
    · exact hre c hc
    · omega
    · exact hdb c hc
  · rw [if_neg c1]
    by_cases c2 : e.l.length = 0
    · rw [if_pos c2]
      refine ⟨fun c hc => ?_, by simp only [List.length_append, List.length_cons, List.length_nil]; omega⟩
      simp only [List.mem_append, List.mem_cons, List.not_mem_nil, or_false] at hc
      rcases hc with (hc | hc) | rfl
      · exact hn c hc
      · exact ha c hc
      · omega
    · rw [if_neg c2]
      refine ⟨fun c hc => ?_, by simp only [List.length_append]; omega⟩
      simp only [List.mem_append] at hc
      rcases hc with (hc | hc) | hc
      · exact hn c hc
      · exact ha c hc
      · exact hst c hc
def lineE (a : Nat) (e : En) : List Nat := e.body ++ [32] ++ decN (sumN a e.body) ++ [10]
def lastJ (a : Nat) (l : List En) : Nat := l.foldl (fun a e => sumN a e.body) a
def textJ (a : Nat) : List En → List Nat
  | [] => []
  | e :: l => lineE a e ++ textJ (sumN a e.body) l
theorem lastJ_snoc (a : Nat) (l : List En) (e : En) : lastJ a (l ++ [e]) = sumN (lastJ a l) e.body := by simp [lastJ]
theorem textJ_snoc (e : En) : ∀ (l : List En) (a : Nat), textJ a (l ++ [e]) = textJ a l ++ lineE (lastJ a l) e
  | [], a => by simp [textJ, lastJ]
  | x :: l, a => by
    rw [List.cons_append, textJ, textJ, textJ_snoc e l, List.append_assoc]
    rfl
theorem lastJ_lt : ∀ (l : List En) {a : Nat}, a < 65521 → lastJ a l < 65521
  | [], _, h => h
  | e :: l, a, h => lastJ_lt l (a := sumN a e.body) (sumN_lt _ h)
theorem line_len {e : En} (h : e.chk = 0) (a : Nat) : (lineE a e).length ≤ 91100 := by
  have h1 := (body_ok h).2
  have h2 := (decF_len 20 (sumN a e.body)).1
  simp only [lineE, List.length_append, List.length_cons, List.length_nil, decN]; omega
theorem textJ_len : ∀ {l : List En} (a : Nat), (∀ e ∈ l, e.chk = 0) → (textJ a l).length ≤ 91100 * l.length
  | [], _, _ => Nat.le_refl _
  | e :: l, a, h => by
    have h1 := line_len (h e List.mem_cons_self) a
    have h2 := textJ_len (l := l) (sumN a e.body) (fun x hx => h x (List.mem_cons_of_mem _ hx))
    rw [textJ, List.length_append, List.length_cons]
    omega
end Mini
end Go.Proofs.YtgjlofpfbhioaaaGreatDoor
namespace Go.Proofs.YtgjlofpfbhioaaaGreatDoor
namespace Mini
open Go
variable {m : Int} {X : Ctx}
abbrev R38 (w : D) (l : List En) (j : Nat) : List V := [.c (.d w), .any, strV (textJ 0 (l.take j)), i64 (lastJ 0 (l.take j)), i64 (j : Int), .any, .any]
theorem f38 (hX : XOj m X) {N : Nat} (hN : 100000 ≤ N) {w : D} {l : List En} (hw : isEns w l) (hl : wfEs l) (hc : ∀ e ∈ l, e.chk = 0) (hlen : l.length ≤ 4096) : vcallN X N 38 [.c (.d w)] = some (strV (textJ 0 l)) := by
  obtain ⟨N, rfl⟩ : ∃ M, N = M + 1 := ⟨N - 1, by omega⟩
  have hF : fnsX 38 = some fn38' := rfl
  have hln := hw.len
  have hit : iter (some [0, 2, 3, 4]) 0 (exec (zenv X N) N false fn38L0) N ⟨R38 w l 0, []⟩ = some (.exit 0, ⟨[.c (.d w), .any, strV (textJ 0 l), i64 (lastJ 0 l), i64 (l.length : Int), .any, bl false], []⟩) := by
    refine iter_to (fun j => ⟨R38 w l j, []⟩) (e := .exit 0) (fun h => by cases h) l.length 0 N (fun j _ hj => ?_) ?_ (by omega)
    · have hj' : j < l.length := by omega
      have h4 : (j : Int) < (l.length : Int) := by omega
      have h6 := wrap_succ (k := j) (by omega)
      obtain ⟨t, h1⟩ := hw.at hj'
      have hmem := getE_mem hj'
      have hce := hc _ hmem
      obtain ⟨w1, w2⟩ := hl _ hmem
      obtain ⟨b1, b2⟩ := body_ok hce
      have h49 := hX.vc (k := 49) (F := fn49) rfl (f49 hX (N := N) (by omega) w1 w2 hce)
      have hla := lastJ_lt (l.take j) (a := 0) (by decide)
      have h46 := hX.vc (k := 46) (F := fn46) rfl (f46 hX (N := N) (s := (l.getD j e0).body) (a := lastJ 0 (l.take j)) (by omega) hla b1 (by omega))
      have hsl := sumN_lt (l.getD j e0).body hla
      have h50 := hX.vc (k := 50) (F := fn50) rfl (f50 hX (N := N) (by omega) (n := sumN (lastJ 0 (l.take j)) (l.getD j e0).body) (by omega))
      have htl := textJ_len (l := l.take j) 0 (fun e he => hc e (List.mem_of_mem_take he))
      have hdl := (decF_len 20 (sumN (lastJ 0 (l.take j)) (l.getD j e0).body)).1
      have htk : (l.take j).length ≤ 4096 := by rw [List.length_take]; omega
      have hs1 : textJ 0 (l.take (j + 1)) = textJ 0 (l.take j) ++ (l.getD j e0).body ++ [32] ++ decN (sumN (lastJ 0 (l.take j)) (l.getD j e0).body) ++ [10] := by
        rw [takeE hj', textJ_snoc, lineE]
        simp only [List.append_assoc]
      have hs2 : lastJ 0 (l.take (j + 1)) = sumN (lastJ 0 (l.take j)) (l.getD j e0).body := by rw [takeE hj', lastJ_snoc]
      have hbd : bodyE (l.getD j e0).s (l.getD j e0).acc (l.getD j e0).r (l.getD j e0).t (l.getD j e0).l = (l.getD j e0).body := rfl
      rw [hbd] at h49
      unfold R38
      rw [hs1, hs2]
      have g1 : (textJ 0 (l.take j)).length + (l.getD j e0).body.length ≤ 1073741824 := by omega
      have g2 : (textJ 0 (l.take j)).length + (l.getD j e0).body.length + 1 ≤ 1073741824 := by omega
      have g3 : (textJ 0 (l.take j)).length + (l.getD j e0).body.length + 1 + (decN (sumN (lastJ 0 (l.take j)) (l.getD j e0).body)).length ≤ 1073741824 := by unfold decN; omega
      have g4 : (textJ 0 (l.take j)).length + (l.getD j e0).body.length + 1 + (decN (sumN (lastJ 0 (l.take j)) (l.getD j e0).body)).length + 1 ≤ 1073741824 := by unfold decN; omega
      generalize decN (sumN (lastJ 0 (l.take j)) (l.getD j e0).body) = dn at *
      generalize sumN (lastJ 0 (l.take j)) (l.getD j e0).body = sn at *
      generalize lastJ 0 (l.take j) = la at *
      generalize textJ 0 (l.take j) = tt at *
      generalize (l.getD j e0).body = bo at *
      generalize l.getD j e0 = e at *
      simp only [En.ds] at h1
      simp only [enC, strV, i64, i64D] at h49 h46 h50
      refine ⟨⟨[.c (.d w), .any, strV (tt ++ bo ++ [32] ++ dn ++ [10]), i64 (sn : Int), i64 ((j + 1 : Nat) : Int), strV bo, bl true], []⟩, ?_, gc_le (Nat.le_refl 0)⟩
      simp only [fn38L0, strV, binStr, hln, h1, h4, h6, h49, h46, h50, g1, g2, g3, g4, List.length_append, List.take, List.map_cons, List.map_nil, List.cons_append, List.nil_append, ↓sp_len, ↓sp_ixa, evs, Nat.reduceAdd]
    · rw [Nat.zero_add]
      unfold R38
      rw [List.take_length]
      simp only [fn38L0, hln, ↓sp_len, evs]
  have h0 : textJ 0 (l.take 0) = [] := rfl
  have h00 : lastJ 0 (l.take 0) = 0 := rfl
  unfold R38 at hit
  rw [h0, h00] at hit
  simp only [strV, i64, bl, Int.natCast_zero] at hit
  refine vcall_of (r := strV (textJ 0 l)) (H := []) ?_ rfl
  rw [hX.fn hF]
  refine (rf_fin _ _ _ _ _ _ _ _ _ (by rfl)).trans ?_
  simp only [strV, hit, evs, Nat.reduceAdd, Nat.reduceBEq, Nat.reduceSub]
end Mini
end Go.Proofs.YtgjlofpfbhioaaaGreatDoor
namespace Go.Proofs.YtgjlofpfbhioaaaGreatDoor
namespace Mini
open Go
variable {m : Int} {X : Ctx}
def eqE (a b : En) : Prop := a.s = b.s ∧ a.acc = b.acc ∧ a.r = b.r ∧ a.t = b.t ∧ a.l = b.l
instance (a b : En) : Decidable (eqE a b) := by unfold eqE; infer_instance
def alikeE (u v : List En) : Prop := u.length = v.length ∧ ∀ j, j < u.length → eqE (u.getD j e0) (v.getD j e0)
instance (u v : List En) : Decidable (alikeE u v) := by unfold alikeE; infer_instance
set_option maxHeartbeats 2000000 in
theorem f39 (hX : XOj m X) {N : Nat} {w w' : D} {u v : List En} (hN : u.length + 400 ≤ N) (hw : isEns w u) (hw' : isEns w' v) (hu : wfEs u) (hv : wfEs v) (hlen : u.length < 1000000) (hul : ∀ a ∈ u, a.l.length ≤ 300) : vcallN X N 39 [.c (.d w), .c (.d w')] = some (i64 (if alikeE u v then 1 else 0)) := by
  obtain ⟨N, rfl⟩ : ∃ M, N = M + 1 := ⟨N - 1, by omega⟩
  have hF : fnsX 39 = some fn39' := rfl
  suffices h : ∃ H, callN X (N + 1) (.d (.fn 39 [] [])) [.c (.d w), .c (.d w')] [] = some (i64 (if alikeE u v then 1 else 0), H) by
    obtain ⟨H, h⟩ := h
    exact vcall_of h rfl
  rw [hX.fn hF]
  have hlw := hw.len
  have hlw' := hw'.len
  by_cases c0 : u.length = v.length
  case neg =>
    have g0 : ((u.length : Int) != (v.length : Int)) = true := by rw [bne_iff_ne]; omega
    have : ¬ alikeE u v := fun h => c0 h.1
    rw [if_neg this]
    refine ⟨[], (rf_fin _ _ _ _ _ _ _ _ _ (by rfl)).trans ?_⟩
    simp only [hlw, hlw', g0, ↓sp_len, evs, Nat.reduceAdd, Nat.reduceSub]
  have g0 : ((u.length : Int) != (v.length : Int)) = false := by rw [bne_eq_false_iff_eq]; omega
  have hsm : ∀ a b, a ∈ u → b ∈ v → (zenv X N).vcall 20 [.c (.d a.w), .c (.d b.w)] = some (i64 (if a.l = b.l then 1 else 0)) := fun a b ha hb => hX.x.vc (k := 20) (F := fn20) rfl (f20 hX.x (by have := hul a ha; omega) (hu a ha).1 (hv b hb).1 (hu a ha).2 (hv b hb).2 (by have := hul a ha; omega))
  simp only [i64] at hsm
  have b1 : (true ^^ (true == true)) = false := rfl
  have b2 : (true ^^ (true == false)) = true := rfl
  have b3 : (true ^^ (false == true)) = true := rfl
  have b4 : (true ^^ (false == false)) = false := rfl
  have b5 : ((1 : Int) == 0) = false := rfl
  have hsc := iter_find (js := some [0, 1, 3]) (hl := 0) (body := exec (zenv X N) N false fn39L0) (fun j => ¬ eqE (u.getD j e0) (v.getD j e0)) u.length (fun i => ⟨[.c (.d w), .c (.d w'), .any, i64 (i : Int), .any, .any, .any], []⟩) (b := 0) (s1 := ⟨[.c (.d w), .c (.d w'), .any, i64 (u.length : Int), .any, bl false, .any], []⟩) (Q := fun k s => nth s.regs 2 = i64 0 ∧ s.heap = []) (fuel := N) (by omega)
    (by
      intro j hj hp
      have hp := Decidable.not_not.1 hp
      obtain ⟨t, h1⟩ := hw.at hj
      obtain ⟨t', h2⟩ := hw'.at (i := j) (by omega)
      have h3 := hsm _ _ (getE_mem hj) (getE_mem (l := v) (i := j) (by omega))
      have h4 : (j : Int) < (u.length : Int) := by omega
      have h5 := wrap_succ (k := j) (by omega)
      generalize u.getD j e0 = a at *
      generalize v.getD j e0 = b at *
      obtain ⟨sa, ae, an, aa, aw, al⟩ := a
      obtain ⟨sb, be, bn, ba, bw, bl'⟩ := b
      obtain ⟨p1, p2, p3, p4, p5⟩ := hp
      simp only at p1 p2 p3 p4 p5
      subst p1; subst p2; subst p3; subst p4; subst p5
      simp only [En.ds, if_true] at h1 h2 h3
      refine ⟨⟨[.c (.d w), .c (.d w'), .any, i64 ((j + 1 : Nat) : Int), .any, bl true, bl false], []⟩, ?_, gc_le (Nat.le_refl 0)⟩
      have bb : ∀ x : Bool, (true ^^ (x == x)) = false := fun x => by cases x <;> rfl
      simp only [fn39L0, binStr, hlw, h1, h2, h3, h4, h5, b5, Bool.not_true, List.take, List.drop, List.map_cons, List.map_nil, lt5_0, lt5_1, lt5_2, lt5_3, lt5_4, ↓sp_len, ↓sp_ixa, evs])
    (by simp only [fn39L0, hlw, ↓sp_len, evs])
    (by
      intro j hj hp
      obtain ⟨t, h1⟩ := hw.at hj
      obtain ⟨t', h2⟩ := hw'.at (i := j) (by omega)
      have h3 := hsm _ _ (getE_mem hj) (getE_mem (l := v) (i := j) (by omega))
      have h4 : (j : Int) < (u.length : Int) := by omega
      generalize u.getD j e0 = a at *
      generalize v.getD j e0 = b at *
      obtain ⟨sa, ae, an, aa, aw, al⟩ := a
      obtain ⟨sb, be, bn, ba, bw, bl'⟩ := b
      simp only [En.ds] at h1 h2 h3
      refine ⟨⟨[.c (.d w), .c (.d w'), i64 0, i64 (j : Int), .any, bl true, bl true], []⟩, ?_, rfl, rfl⟩
      have bb : ∀ x : Bool, (true ^^ (x == x)) = false := fun x => by cases x <;> rfl
      have bn' : ∀ x y : Bool, x ≠ y → (true ^^ (x == y)) = true := fun x y h => by cases x <;> cases y <;> first | rfl | exact absurd rfl h
      by_cases p1 : sa = sb
      · subst p1
        by_cases p2 : ae = be
        · subst p2
          by_cases p3 : an = bn
          · subst p3
            by_cases p4 : aa = ba
            · subst p4
              have p5 : ¬ al = bl' := fun h => hp ⟨rfl, rfl, rfl, rfl, h⟩
              simp only [if_neg p5] at h3
              simp only [fn39L0, binStr, hlw, h1, h2, h3, h4, Bool.not_true, List.take, List.drop, List.map_cons, List.map_nil, lt5_0, lt5_1, lt5_2, lt5_3, lt5_4, ↓sp_len, ↓sp_ixa, evs]
            · have q : (aa != ba) = true := by rw [bne_iff_ne]; exact p4
              simp only [fn39L0, binStr, hlw, h1, h2, h4, q, Bool.not_true, List.take, List.drop, List.map_cons, List.map_nil, lt5_0, lt5_1, lt5_2, lt5_3, ↓sp_len, ↓sp_ixa, evs]
          · have q : ((an : Int) != (bn : Int)) = true := by rw [bne_iff_ne]; omega
            simp only [fn39L0, binStr, hlw, h1, h2, h4, q, Bool.not_true, List.take, List.drop, List.map_cons, List.map_nil, lt5_0, lt5_1, lt5_2, ↓sp_len, ↓sp_ixa, evs]
        · have q := bn' _ _ p2
          simp only [fn39L0, binStr, hlw, h1, h2, h4, q, Bool.not_true, List.take, List.drop, List.map_cons, List.map_nil, lt5_0, lt5_1, ↓sp_len, ↓sp_ixa, evs]
      · have q : (sa == sb) = false := by rw [beqS]; exact decide_eq_false p1
        simp only [fn39L0, binStr, hlw, h1, h2, h4, q, Bool.not_false, List.take, List.drop, List.map_cons, List.map_nil, lt5_0, ↓sp_len, ↓sp_ixa, evs])
  simp only [i64, bl, Int.natCast_zero] at hsc
  rcases hsc with ⟨hno, hit⟩ | ⟨k, s', hk, hp, hno, ⟨hq, hqh⟩, hit⟩
  · have : alikeE u v := ⟨c0, fun j hj => Decidable.not_not.1 (hno j hj)⟩
    rw [if_pos this]
    refine ⟨[], (rf_fin _ _ _ _ _ _ _ _ _ (by rfl)).trans ?_⟩
    simp only [hlw, hlw', g0, hit, ↓sp_len, evs, Nat.reduceAdd, Nat.reduceBEq, Nat.reduceSub]
  · have : ¬ alikeE u v := fun h => hp (h.2 k hk)
    rw [if_neg this]
    refine ⟨s'.heap, (rf_fin _ _ _ _ _ _ _ _ _ (by rfl)).trans ?_⟩
    obtain ⟨r, H⟩ := s'
    simp only [] at hq
    simp only [hlw, hlw', g0, hit, hq, ↓sp_len, evs, Nat.reduceAdd, Nat.reduceBEq, Nat.reduceSub]
end Mini
end Go.Proofs.YtgjlofpfbhioaaaGreatDoor
