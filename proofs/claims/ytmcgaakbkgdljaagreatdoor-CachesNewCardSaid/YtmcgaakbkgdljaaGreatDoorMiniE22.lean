/-
  The step to the next entry of a map that is ranged over.
-/
import Derived.Test.YtmcgaakbkgdljaaGreatDoorMiniE18
namespace Go.Proofs.YtmcgaakbkgdljaaGreatDoor
namespace Mini
open Go

section
variable {P : Program} {tm : List Nat} {nt : Nat} {M0 M : MM} {w0 w : World} {H : Heap} {E : Env}

theorem leftOf_push (xs : Array MapEntry) (seen : Array Nat) (b : Nat) : (leftOf xs (seen.push b)).toList = (leftOf xs seen).toList.filter fun e => e.born != b := by
  unfold leftOf
  rw [Array.toList_filter, Array.toList_filter, List.filter_filter]
  congr 1
  funext e
  simp only [Array.contains_push, Bool.not_or]
  rw [Bool.and_comm]
  rfl

/-- One of the entries taken away. -/
theorem relM_take : ∀ {left : List (V × V)} {ys : List MapEntry}, RelM M left ys → ∀ (j : Nat) (y : MapEntry), ys[j]? = some y → ∃ k v, left[j]? = some (k, v) ∧ RelV M k y.key ∧ RelV M v y.val ∧ RelM M (left.eraseIdx j) (ys.eraseIdx j)
  | [], [], _, j, y, h => by simp at h
  | [], _ :: _, r, _, _, _ => by simp only [RelM] at r
  | _ :: _, [], r, _, _, _ => by simp only [RelM] at r
  | (k, v) :: left, x :: ys, r, 0, y, h => by
    simp only [RelM] at r
    simp only [List.getElem?_cons_zero, Option.some.injEq] at h
    subst h
    exact ⟨k, v, rfl, r.1, r.2.1, by simpa using r.2.2.2.2⟩
  | e :: left, x :: ys, r, j + 1, y, h => by
    simp only [RelM] at r
    obtain ⟨k, v, h1, h2, h3, h4⟩ := relM_take r.2.2.2.2 j y (by simpa using h)
    refine ⟨k, v, by simpa using h1, h2, h3, ?_⟩
    simp only [List.eraseIdx_cons_succ, RelM]
    exact ⟨r.1, r.2.1, r.2.2.1, r.2.2.2.1, h4⟩
theorem relM_len : ∀ {left : List (V × V)} {ys : List MapEntry}, RelM M left ys → left.length = ys.length
  | [], [], _ => rfl
  | [], _ :: _, r => by simp only [RelM] at r
  | _ :: _, [], r => by simp only [RelM] at r
  | _ :: _, _ :: _, r => by
    simp only [RelM] at r
    simp [relM_len r.2.2.2.2]

theorem perm_take {ys L : List MapEntry} (hp : ys.Perm L) (hn : (L.map (·.born)).Nodup) {j : Nat} {y : MapEntry} (hj : ys[j]? = some y) : (ys.eraseIdx j).Perm (L.filter fun e => e.born != y.born) := by
  have hny : (ys.map (·.born)).Nodup := (hp.map _).nodup_iff.2 hn
  have h1 : ys.eraseIdx j = ys.filter fun e => e.born != y.born := by
    clear hp hn
    induction ys generalizing j with
    | nil => simp at hj
    | cons a ys ih =>
      simp only [List.map_cons, List.nodup_cons, List.mem_map, not_exists, not_and] at hny
      cases j with
      | zero =>
        simp only [List.getElem?_cons_zero, Option.some.injEq] at hj
        subst hj
        simp only [List.eraseIdx_cons_zero, List.filter_cons, bne_self_eq_false, Bool.false_eq_true, if_false]
        exact (List.filter_eq_self.2 fun b hb => by simpa using hny.1 b hb).symm
      | succ j =>
        simp only [List.getElem?_cons_succ] at hj
        have hne : (a.born != y.born) = true := by
          simp only [bne_iff_ne, ne_eq]
          exact fun he => hny.1 y (List.mem_of_getElem? hj) he.symm
        rw [List.eraseIdx_cons_succ, List.filter_cons, if_pos hne, ih hj hny.2]
  rw [h1]
  exact hp.filter _

/-- The step: nothing is left; or an entry, whichever, comes out. -/
theorem nxm_step {o : Oper} {ρ : Operand → Value} {x : Operand} {id : Nat} {left : List (V × V)} {cur : Option (V × V)} (hs : Sat P M H 0 w) (ho : ob? H id = some (.mit left cur)) (hop : o.op = .next x false) (hr : RelV M (.c (.ptr id 0 0)) (ρ x)) :
    (left = [] ∧ (execOp ρ o).run P w = .ok (.value (.tuple #[.bool false])) w) ∨
    ∃ (j : Nat) (k v : V) (kv vv : Value) (w' : World), left[j]? = some (k, v) ∧ (execOp ρ o).run P w = .ok (.value (.tuple #[.bool true, kv, vv])) w' ∧ Sat P M (setOb H id (.mit (left.eraseIdx j) (some (k, v)))) 0 w' ∧ Fr M M w w' := by
  obtain ⟨B, c, hv, hl, hg, m, since, seen, stp, k1, k2, k3, k4⟩ := live_mit hs ho hr
  rcases k4 with ⟨rfl, rfl, rfl⟩ | ⟨bm, xs, clock, ys, rfl, q2, q3, rfl, q5, q6, q7, q8⟩
  · left
    refine ⟨rfl, ?_⟩
    have hget : (getObj B).run P w = .ok (.mapIter none since seen stp) w := by simp [getObj, Sem.run, k1]
    simp [execOp, hop, hv, Instr.next, hget, Result.andThen]
  · have hmap := hs.imm _ _ q2
    rcases run_next_at (P := P) w o.type B bm since stp seen xs since k1 hmap (fun x hx => q3.1 x hx) q5 with ⟨h1, h2⟩ | ⟨e, he, w1, hw1, h2⟩
    · left
      have hz : (leftOf xs seen).toList = [] := by rw [Array.eq_empty_of_size_eq_zero h1]
      rw [hz, List.perm_nil] at q6
      subst q6
      refine ⟨by have := relM_len q7; simpa using this, ?_⟩
      simp [execOp, hop, hv, h2, Result.andThen]
    · right
      have hey : e ∈ ys := q6.mem_iff.2 he
      obtain ⟨j, hj⟩ := List.mem_iff_getElem?.1 hey
      obtain ⟨k, v, e1, e2, e3, e4⟩ := relM_take q7 j e hj
      have hs1 : Sat P M H 0 w1 := by rcases hw1 with rfl | rfl; exact hs; exact hs.drew
      have hf1 : Fr M M w w1 := by rcases hw1 with rfl | rfl; exact Fr.refl M _; exact Fr.drew M _
      have hk1 : w1.heap[B]? = some (.mapIter (some bm) since seen stp) := by rcases hw1 with rfl | rfl <;> exact k1
      have hin : e ∈ xs.toList := by
        unfold leftOf at he
        rw [Array.toList_filter, List.mem_filter] at he
        exact he.1
      have hnd : ((leftOf xs seen).toList.map (·.born)).Nodup := by
        unfold leftOf
        rw [Array.toList_filter]
        exact List.Nodup.sublist (List.Sublist.map _ List.filter_sublist) q3.2.1
      obtain ⟨s1, s2⟩ := ob_turn (ob' := .mit (left.eraseIdx j) (some (k, v))) (x' := .mapIter (some bm) since (seen.push e.born) since) hs1 hl k3 ho hk1 (fun _ _ _ h => by cases h) (fun h => by cases h) fun w' hw => by
        simp only [ObSat]
        refine ⟨hg, trivial, some bm, since, seen.push e.born, since, hw, Nat.zero_le _, k3, .inr ⟨bm, xs, since, ys.eraseIdx j, rfl, q2, q3, rfl, Nat.le_refl _, ?_, e4, fun k' v' hc => ?_⟩⟩
        · rw [leftOf_push]
          exact perm_take q6 hnd hj
        · cases hc
          exact ⟨e, hin, by simp, rfl, e2, e3⟩
      refine ⟨j, k, v, e.key, e.val, _, e1, ?_, s1, hf1.trans s2⟩
      have h3 : (Instr.next (ρ x) false o.type).run P w = .ok (.tuple #[.bool true, e.key, e.val]) (ChangeMaps.setBlock w1 B (.mapIter (some bm) since (seen.push e.born) since)) := by rw [hv]; exact h2
      simp only [execOp, hop, Sem.run_bind, h3, Result.andThen_ok, Sem.run_pure]
      rfl

/-- An operand between two regions. -/
theorem operand1 {regs : List V} {a : Act} (hG : GlobOk E.glob M.imm) (hr : RelRegs M tm regs a.tmps) {x : Operand} {b : A} (hok : okA ⟨0, tm, [], [], fun _ => true⟩ x b = true) : RelV M (look E regs [] b) (a.eval x) := by
  unfold okA at hok
  split at hok <;> try (cases hok; done)
  · rename_i t j
    simp only [Bool.and_eq_true, beq_iff_eq] at hok
    simp only [look, Act.eval]
    exact hr j t hok.1
  · simp only [look, Act.eval]; exact okV_rel hok
  · rename_i g b'
    simp only [beq_iff_eq] at hok
    subst hok
    simp only [look, Act.eval]
    split
    · rename_i cs hg
      rw [relV_d]
      exact (hG _ _ hg).1
    · exact relV_any
  · rename_i f f'
    simp only [beq_iff_eq] at hok
    subst hok
    simp only [look, Act.eval]
    rw [relV_d]
    simp only [RelD]
    exact ⟨#[], #[], rfl, RelDs.nil _ _, rfl, RelDs.nil _ _, rfl⟩
theorem wpOps_value {ops : Array Oper} {i : Nat} {rest : List Nat} {o : Oper} {v : Value} {w' : World} {a : Act} {Q : Exit → Act → World → Prop} {rd : Option Nat} (ho : ops[i]? = some o) (hd : ∀ c, o.op ≠ .defer c) (hg : o.guard = none)
    (hrun : (execOp a.eval o).run P w = .ok (.value v) w') (h : wpOpsIn (rnd rd) 0 P ops Q rest (a.put o.dst v) w') : wpOpsIn (rnd rd) 0 P ops Q (i :: rest) a w := by
  simp only [wpOpsIn, ho]
  rw [if_pos (by simp [Region.wanted, hg])]
  refine ⟨fun _ _ => trivial, ?_⟩
  rw [semAt_rnd hd, hrun]
  exact h
/-- The region that takes the step. -/
theorem nxm_ok {it : A} {jt jb : Nat} {s : St} {a : Act} {Q : Exit → Act → World → Prop} {c : Code} {id : Nat} {left : List (V × V)} {cur : Option (V × V)} {rd : Option Nat}
    (hok : okI P tm nt (.nxm it jt jb) c = true) (hG : GlobOk E.glob M0.imm) (hs : StRel P tm nt M0 w0 s a w) (hit : look E s.regs [] it = .c (.ptr id 0 0)) (ho : ob? s.heap id = some (.mit left cur))
    (hend : left = [] → ∀ a' w', StRel P tm nt M0 w0 ⟨put (put s.regs jt .any) jb (.c (.d (.bool false))), s.heap⟩ a' w' → Q .normal a' w')
    (hgo : ∀ j k v, left[j]? = some (k, v) → ∀ a' w', StRel P tm nt M0 w0 ⟨put (put s.regs jt .any) jb (.c (.d (.bool true))), setOb s.heap id (.mit (left.eraseIdx j) (some (k, v)))⟩ a' w' → Q .normal a' w') :
    c.wpIn (rnd rd) 0 P Q a w := by
  cases c <;> try (simp [okI] at hok; done)
  rename_i rid ops draw
  cases draw with
  | true => simp [okI] at hok
  | false =>
  simp only [okI] at hok
  split at hok <;> try (cases hok; done)
  rename_i o1 o2 hops
  split at hok <;> try (cases hok; done)
  rename_i x t1 t1' t2 e1 e2 e3 e4
  simp only [Bool.and_eq_true, beq_iff_eq, decide_eq_true_eq, Option.isNone_iff_eq_none] at hok
  obtain ⟨⟨⟨⟨⟨⟨⟨⟨⟨⟨⟨⟨rfl, k1⟩, k2⟩, k3⟩, k4⟩, k5⟩, k6⟩, k7⟩, k8⟩, k9⟩, _⟩, _⟩, _⟩ := hok
  have hne : t1' ≠ t2 := by simpa using k4
  have hops' : ops = #[o1, o2] := Array.ext' hops
  subst hops'
  obtain ⟨M, s1, s2, s3, s4, s5⟩ := hs
  have hx := operand1 (E := E) (hG.mono s2.ext.imm) s3 k1
  rw [hit] at hx
  -- both operations
  have both : ∀ (b : Bool) (vs : List Value) (w' : World), (execOp a.eval o1).run P w = .ok (.value (.tuple (.bool b :: vs).toArray)) w' → Q .normal ((a.put (some t1') (.tuple (.bool b :: vs).toArray)).put (some t2) (.bool b)) w' → (Code.region rid #[o1, o2] false).wpIn (rnd rd) 0 P Q a w := by
    intro b vs w' hrun hq
    refine wpIn_region ?_
    show wpOpsIn (rnd rd) 0 P #[o1, o2] Q [0, 1] a w
    refine wpOps_value (o := o1) rfl (fun c hc => by rw [e1] at hc; cases hc) k7 hrun ?_
    rw [e2]
    refine wpOps_value (w' := w') (o := o2) (v := .bool b) rfl (fun c hc => by rw [e3] at hc; cases hc) k8 ?_ ?_
    · have hget : (a.tmps.setIfInBounds t1' (.tuple (.bool b :: vs).toArray)).getD t1' undef = .tuple (.bool b :: vs).toArray := by
        simp [Array.getD_eq_getD_getElem?, s4, k5]
      simp [execOp, e3, Act.put, Act.eval, hget, Instr.extract]
    · rw [e4]
      exact hq
  have regs' : ∀ (M' : MM) (b : Bool) (u : Value), Ext M M' → RelRegs M' tm (put (put s.regs jt .any) jb (.c (.d (.bool b)))) ((a.put (some t1') u).put (some t2) (.bool b)).tmps := by
    intro M' b u he j t hj
    have hjl : j < tm.length := (List.getElem?_eq_some_iff.1 hj).1
    have hk := List.all_eq_true.1 k9 j (List.mem_range.2 hjl)
    simp only [hj, Bool.and_eq_true, Bool.or_eq_true, Bool.not_eq_true', beq_eq_false_iff_ne, ne_eq, Option.some.injEq, beq_iff_eq] at hk
    rw [nth_put]
    split
    · rename_i hjb
      subst hjb
      rw [k3, Option.some.injEq] at hj
      subst hj
      split
      · rw [relV_bool]
        simp [Act.put, Array.getD_eq_getD_getElem?, s4, k6]
      · exact relV_any
    · rename_i hjb
      rw [nth_put]
      split
      · split <;> exact relV_any
      · rename_i hjt
        have ht2 : t ≠ t2 := fun h => hk.2.elim (fun h' => h' h) hjb
        have ht1 : t ≠ t1' := fun h => hk.1.elim (fun h' => h' h) hjt
        have := RelV.mono he (s3 j t hj)
        simp only [Act.put, Array.getD_eq_getD_getElem?, Array.getElem?_setIfInBounds]
        rw [if_neg (fun h => ht2 h.symm), if_neg (fun h => ht1 h.symm)]
        rw [← Array.getD_eq_getD_getElem?]
        exact this
  rcases nxm_step s1 ho e1 hx with ⟨hl, hrun⟩ | ⟨j, k, v, kv, vv, w', hj, hrun, hsat, hfr⟩
  · refine both false [] w hrun (hend hl _ _ ⟨M, s1, s2, regs' M false _ (Ext.refl M), by simp [Act.put, s4], s5⟩)
  · exact both true [kv, vv] w' hrun (hgo j k v hj _ _ ⟨M, hsat, s2.trans hfr, regs' M true _ (Ext.refl M), by simp [Act.put, s4], s5.keep hfr⟩)
end
end Mini
end Go.Proofs.YtmcgaakbkgdljaaGreatDoor
