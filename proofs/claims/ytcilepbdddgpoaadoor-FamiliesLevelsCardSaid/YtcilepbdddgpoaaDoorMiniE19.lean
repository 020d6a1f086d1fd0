/-
  The code of a function, carried out: every form; what the function hands back.
-/
import Derived.Test.YtcilepbdddgpoaaDoorMiniE18
namespace Go.Proofs.YtcilepbdddgpoaaDoor
namespace Mini
open Go

section
variable {P : Program} {tm : List Nat} {nt : Nat} {M0 : MM} {w0 : World} {d0 : List Deferred} {E : Env}

/-- An operand between two regions. -/
theorem operand0 {M : MM} {regs : List V} {a : Act} (hG : GlobOk E.glob M.imm) (hr : RelRegs M tm regs a.tmps) {x : Operand} {b : A} (hok : okA ⟨0, tm, [], [], fun _ => true⟩ x b = true) : RelV M (look E regs [] b) (a.eval x) := by
  unfold okA at hok
  split at hok <;> try (cases hok; done)
  · rename_i t j
    simp only [Bool.and_eq_true, beq_iff_eq] at hok
    simp only [look, Act.eval]
    exact hr j t hok.1
  · simp only [look, Act.eval]; exact okV_rel hok
  · rename_i g b'
    simp only [beq_iff_eq] at hok
    subst hok
    simp only [look, Act.eval]
    split
    · rename_i cs hg
      rw [relV_d]
      exact hG _ _ hg
    · exact relV_any
  · rename_i f f'
    simp only [beq_iff_eq] at hok
    subst hok
    simp only [look, Act.eval]
    rw [relV_d]
    simp only [RelD]
    exact ⟨#[], #[], rfl, RelDs.nil _ _, rfl, RelDs.nil _ _, rfl⟩

def Holds (P : Program) (tm : List Nat) (nt : Nat) (E : Env) (fuel : Nat) (i : I) : Prop :=
  ∀ (M0 : MM) (w0 : World) (d0 : List Deferred) (c : Code) (s s' : St) (e : Ex) (a : Act) (w : World) (Q : Exit → Act → World → Prop), exec E fuel false i s = some (e, s') → okI P tm nt i c = true → GlobOk E.glob M0.imm → StRel P tm nt M0 w0 d0 s a w →
    (∀ a' w', StRel P tm nt M0 w0 d0 s' a' w' → Q (exitOf e) a' w') → c.wpIn Fence.wide 0 P Q a w

theorem least {p : Nat → Prop} (h : ∃ n, p n) : ∃ n, p n ∧ ∀ m, p m → n ≤ m := by
  obtain ⟨n, hn⟩ := h
  induction n using Nat.strongRecOn with
  | _ n ih =>
    by_cases hx : ∃ m, m < n ∧ p m
    · obtain ⟨m, h1, h2⟩ := hx
      exact ih m h1 h2
    · exact ⟨n, hn, fun m hm => Nat.le_of_not_lt fun hlt => hx ⟨m, hlt, hm⟩⟩
open Classical in
noncomputable def leastOf (p : Nat → Prop) : Nat := if h : ∃ n, p n then Classical.choose (least h) else 0
theorem leastOf_spec {p : Nat → Prop} (h : ∃ n, p n) : p (leastOf p) ∧ ∀ m, p m → leastOf p ≤ m := by
  unfold leastOf
  rw [dif_pos h]
  exact Classical.choose_spec (least h)

theorem exec_loop {fuel : Nat} {js : Option (List Nat)} {i : I} (ih : Holds P tm nt E fuel i) : Holds P tm nt E fuel (.loop js i) := by
  intro M0 w0 d0 c s s' e a w Q h hok hG hs hQ
  cases c <;> simp only [okI] at hok <;> try (cases hok; done)
  rename_i c
  simp only [exec] at h
  have hle : M0.n ≤ s.heap.length := by
    obtain ⟨M, h1, h2, _⟩ := hs
    rw [← h1.n]
    exact h2.ext.n
  let I : Nat → Act → World → Prop := fun n a w => ∃ s1, iter js s.heap.length (exec E fuel false i) n s1 = some (e, s') ∧ StRel P tm nt M0 w0 d0 s1 a w
  refine wpIn_loop (fun a w => ∃ n, I n a w) (fun a w => leastOf fun n => I n a w) ⟨fuel, _, h, hs.tidy hle js⟩ ?_
  intro a w hI
  obtain ⟨s1, h1, h2⟩ := (leastOf_spec hI).1
  generalize hn : (leastOf fun n => I n a w) = m at h1 ⊢
  cases m with
  | zero => simp [iter] at h1
  | succ n =>
    simp only [iter] at h1
    cases hb : exec E fuel false i s1 with
    | none => rw [hb] at h1; simp at h1
    | some r =>
      obtain ⟨e1, s2⟩ := r
      rw [hb] at h1
      refine ih M0 w0 d0 c s1 s2 e1 a w _ hb hok hG h2 fun a' w' h3 => ?_
      cases e1 with
      | nrm =>
        simp only at h1
        show (∃ n, I n a' w') ∧ (leastOf fun n => I n a' w') < n + 1
        have hI' : I n a' w' := ⟨_, h1, h3.tidy hle js⟩
        exact ⟨⟨n, hI'⟩, Nat.lt_succ_of_le ((leastOf_spec ⟨n, hI'⟩).2 n hI')⟩
      | exit id =>
        simp only [Option.some.injEq, Prod.mk.injEq] at h1
        obtain ⟨rfl, rfl⟩ := h1
        exact hQ a' w' h3
      | ret =>
        simp only [Option.some.injEq, Prod.mk.injEq] at h1
        obtain ⟨rfl, rfl⟩ := h1
        exact hQ a' w' h3

theorem exec_ok (hE : EnvOk P E) (fuel : Nat) : ∀ i : I, Holds P tm nt E fuel i
  | .skip => by
    intro M0 w0 d0 c s s' e a w Q h hok hG hs hQ
    cases c <;> simp only [okI] at hok <;> try (cases hok; done)
    simp only [exec, Option.some.injEq, Prod.mk.injEq] at h
    obtain ⟨rfl, rfl⟩ := h
    exact wpIn_skip (hQ _ _ hs)
  | .exit id => by
    intro M0 w0 d0 c s s' e a w Q h hok hG hs hQ
    cases c <;> simp only [okI] at hok <;> try (cases hok; done)
    simp only [beq_iff_eq] at hok
    subst hok
    simp only [exec, Option.some.injEq, Prod.mk.injEq] at h
    obtain ⟨rfl, rfl⟩ := h
    exact wpIn_exit (hQ _ _ hs)
  | .ret => by
    intro M0 w0 d0 c s s' e a w Q h hok hG hs hQ
    cases c <;> simp only [okI] at hok <;> try (cases hok; done)
    simp only [exec, Option.some.injEq, Prod.mk.injEq] at h
    obtain ⟨rfl, rfl⟩ := h
    exact wpIn_ret (hQ _ _ hs)
  | .keep js => by
    intro M0 w0 d0 c s s' e a w Q h hok hG hs hQ
    cases c <;> simp [okI] at hok
  | .fresh _ _ _ => by
    intro M0 w0 d0 c s s' e a w Q h hok hG hs hQ
    cases c <;> simp [okI] at hok
  | .rf _ _ _ _ => by
    intro M0 w0 d0 c s s' e a w Q h hok hG hs hQ
    cases c <;> simp [okI] at hok
  | .reg draw ops exp aps => by
    intro M0 w0 d0 c s s' e a w Q h hok hG hs hQ
    cases c <;> simp only [okI] at hok <;> try (cases hok; done)
    simp only [Bool.and_eq_true, beq_iff_eq] at hok
    obtain ⟨rfl, hok⟩ := hok
    simp only [exec] at h
    split at h <;> try (cases h; done)
    rename_i ts H hrun
    split at h <;> try (cases h; done)
    rename_i hap
    simp only [Option.some.injEq, Prod.mk.injEq] at h
    obtain ⟨rfl, rfl⟩ := h
    obtain ⟨M, h1, h2, h3, h4, h5⟩ := hs
    exact region_ok hE (hG.mono h2.ext.imm) hok hrun hap h1 h3 h4 fun M' a' w' k1 k2 k3 k4 k5 => hQ a' w' ⟨M', k1, h2.trans k2, k3, k4, by rw [k5]; exact h5⟩
  | .cond x i j => by
    intro M0 w0 d0 c s s' e a w Q h hok hG hs hQ
    cases c <;> simp only [okI] at hok <;> try (cases hok; done)
    simp only [Bool.and_eq_true] at hok
    obtain ⟨⟨h1, h2⟩, h3⟩ := hok
    simp only [exec] at h
    split at h <;> try (cases h; done)
    rename_i t hx
    obtain ⟨M, k1, k2, k3, k4⟩ := hs
    have hrel := operand0 (E := E) (hG.mono k2.ext.imm) k3 h1
    rw [hx, relV_bool] at hrel
    refine wpIn_cond hrel ?_
    cases t with
    | true => exact exec_ok hE fuel i M0 w0 d0 _ s s' e a w Q h h2 hG ⟨M, k1, k2, k3, k4⟩ hQ
    | false => exact exec_ok hE fuel j M0 w0 d0 _ s s' e a w Q h h3 hG ⟨M, k1, k2, k3, k4⟩ hQ
  | .block id i => by
    intro M0 w0 d0 c s s' e a w Q h hok hG hs hQ
    cases c <;> simp only [okI] at hok <;> try (cases hok; done)
    simp only [Bool.and_eq_true, beq_iff_eq] at hok
    obtain ⟨rfl, hok⟩ := hok
    simp only [exec] at h
    refine wpIn_block ?_
    cases hb : exec E fuel false i s with
    | none => rw [hb] at h; simp at h
    | some r =>
      obtain ⟨e1, s1⟩ := r
      rw [hb] at h
      refine exec_ok hE fuel i M0 w0 d0 _ s s1 e1 a w _ hb hok hG hs fun a' w' h3 => ?_
      cases e1 with
      | nrm =>
        simp only [Option.some.injEq, Prod.mk.injEq] at h
        obtain ⟨rfl, rfl⟩ := h
        exact hQ a' w' h3
      | ret =>
        simp only [Option.some.injEq, Prod.mk.injEq] at h
        obtain ⟨rfl, rfl⟩ := h
        exact hQ a' w' h3
      | exit id' =>
        simp only at h
        simp only [exitOf, Exit.inBlock]
        split at h
        · rename_i he
          simp only [Option.some.injEq, Prod.mk.injEq] at h
          obtain ⟨rfl, rfl⟩ := h
          rw [if_pos he]
          exact hQ a' w' h3
        · rename_i he
          simp only [Option.some.injEq, Prod.mk.injEq] at h
          obtain ⟨rfl, rfl⟩ := h
          rw [if_neg he]
          exact hQ a' w' h3
  | .loop js i => exec_loop (exec_ok hE fuel i)
  | .seq i j => by
    intro M0 w0 d0 c s s' e a w Q h hok hG hs hQ
    have hj := exec_ok hE fuel j
    have plain : ∀ c d, c = c → okI P tm nt i c = true → okI P tm nt j d = true → (Code.seq c d).wpIn Fence.wide 0 P Q a w := by
      intro c d _ h1 h2
      refine wpIn_seq ?_
      simp only [exec] at h
      cases hb : exec E fuel false i s with
      | none => rw [hb] at h; simp at h
      | some r =>
        obtain ⟨e1, s1⟩ := r
        rw [hb] at h
        refine exec_ok hE fuel i M0 w0 d0 c s s1 e1 a w _ hb h1 hG hs fun a' w' h3 => ?_
        cases e1 with
        | nrm => exact hj M0 w0 d0 d s1 s' e a' w' Q h h2 hG h3 hQ
        | exit id =>
          simp only [Option.some.injEq, Prod.mk.injEq] at h
          obtain ⟨rfl, rfl⟩ := h
          exact hQ a' w' h3
        | ret =>
          simp only [Option.some.injEq, Prod.mk.injEq] at h
          obtain ⟨rfl, rfl⟩ := h
          exact hQ a' w' h3
    cases i with
    | keep js =>
      simp only [okI] at hok
      simp only [exec] at h
      exact hj M0 w0 d0 c _ s' e a w Q h hok hG (hs.keep js) hQ
    | fresh jj off sz =>
      simp only [okI] at hok
      simp only [exec] at h
      exact hj M0 w0 d0 c _ s' e a w Q h hok hG (hs.fresh jj off sz) hQ
    | _ =>
      cases c <;> simp only [okI] at hok <;> try (cases hok; done)
      all_goals (rw [Bool.and_eq_true] at hok; exact plain _ _ rfl hok.1 hok.2)

/-! ### What a function hands back -/
def resV (tmps : Array Value) : ResultVar → Sem Value
  | .tmp t => pure (tmps.getD t undef)
  | .cell a t => do loadVar t (← asAddr (tmps.getD a undef))

theorem result_rel {M : MM} {regs : List V} {H : Heap} {w : World} {tmps : Array Value} (hs : Sat P M H 0 w) (hr : RelRegs M tm regs tmps) {rv : Rv} {x : ResultVar} {v : V} (h : result regs H rv = some v) (hok : okRv P tm rv x = true) :
    ∃ u, (resV tmps x).run P w = .ok u w ∧ RelV M v u := by
  unfold okRv at hok
  split at hok <;> try (cases hok; done)
  · rename_i j t
    simp only [beq_iff_eq] at hok
    simp only [result] at h
    split at h <;> try (cases h; done)
    simp only [Option.some.injEq] at h
    subst h
    exact ⟨_, rfl, hr j t hok⟩
  · rename_i j n g t ty
    simp only [Bool.and_eq_true, beq_iff_eq, decide_eq_true_eq] at hok
    obtain ⟨⟨⟨h1, h2⟩, h3⟩, h4⟩ := hok
    simp only [result] at h
    split at h <;> try (cases h; done)
    rename_i id gen off hx
    split at h <;> try (cases h; done)
    rename_i cs g' fz ho
    split at h <;> try (cases h; done)
    rename_i hg
    subst hg
    have r1 := hr j t h1
    rw [hx, relV_c] at r1
    obtain ⟨B, b0, bs, fz', hl, hv', arr, T, fr, e1, e2, e3, e4, _⟩ := live_ptr hs (Sub.refl H) ho r1
    have hlen : n ≤ (cs.drop off).length := ofCells_len h
    have hd := e4.drop off
    rw [List.drop_drop] at hd
    obtain ⟨u, hu, hru⟩ := run_loadVar_row (P := P) h3 h2 e1 (by simp at hlen; omega) hd h
    refine ⟨u, ?_, hru⟩
    simp only [resV, hv', Sem.run_bind, asAddr, Sem.run_pure, Result.andThen_ok]
    exact hu

theorem results_rel {M : MM} {regs : List V} {H : Heap} {w : World} {tmps : Array Value} (hs : Sat P M H 0 w) (hr : RelRegs M tm regs tmps) : ∀ {rvs : List Rv} {xs : List ResultVar} {vs : List V}, mapO (result regs H) rvs = some vs → okRvs P tm rvs xs = true →
    ∃ us : List Value, (xs.mapM (resV tmps)).run P w = .ok us w ∧ RelVs M vs us ∧ vs.length = us.length
  | [], [], vs, h, _ => by
    simp only [mapO, Option.some.injEq] at h
    subst h
    exact ⟨[], rfl, RelVs.nil _ _, rfl⟩
  | [], _ :: _, _, _, hok => by simp [okRvs] at hok
  | _ :: _, [], _, _, hok => by simp [okRvs] at hok
  | rv :: rvs, x :: xs, vs, h, hok => by
    simp only [okRvs, Bool.and_eq_true] at hok
    simp only [mapO] at h
    split at h <;> try (cases h; done)
    rename_i y hy
    split at h <;> try (cases h; done)
    rename_i ys hys
    simp only [Option.some.injEq] at h
    subst h
    obtain ⟨u, h1, h2⟩ := result_rel hs hr hy hok.1
    obtain ⟨us, h3, h4, h5⟩ := results_rel hs hr hys hok.2
    refine ⟨u :: us, ?_, by simp only [RelVs]; exact ⟨h2, h4⟩, by simp [h5]⟩
    rw [List.mapM_cons, Sem.run_bind, h1]
    simp only [Result.andThen_ok, Sem.run_bind, h3, Sem.run_pure]

theorem results_ok {M : MM} {regs : List V} {H : Heap} {w : World} {tmps : Array Value} {fn : Func} {rvs : List Rv} {v : V} (hs : Sat P M H 0 w) (hr : RelRegs M tm regs tmps) (h : Mini.results regs H rvs = some v) (hok : okRvs P tm rvs fn.results.toList = true) :
    ∃ u, (Go.results fn tmps).run P w = .ok u w ∧ RelV M v u := by
  unfold Mini.results at h
  cases hm : mapO (result regs H) rvs with
  | none => rw [hm] at h; simp at h
  | some vs =>
    rw [hm] at h
    obtain ⟨us, h1, h2, h3⟩ := results_rel hs hr hm hok
    have hrun : ∀ u, (if h : us.toArray.size = 1 then us.toArray[0] else Value.tuple us.toArray) = u → (Go.results fn tmps).run P w = .ok u w := by
      intro u hu
      have e : Go.results fn tmps = (do let vs ← fn.results.mapM (resV tmps); pure (if h : vs.size = 1 then vs[0] else .tuple vs)) := by
        unfold Go.results
        congr 1
      rw [e, Array.mapM_eq_mapM_toList]
      simp only [Sem.run_bind, Sem.run_map, h1, Result.andThen_ok, Sem.run_pure]
      rw [← hu]
    split at h
    · rename_i v' e
      cases e
      simp only [Option.some.injEq] at h
      subst h
      obtain ⟨u, rfl⟩ : ∃ u, us = [u] := by
        match us, h3 with
        | [u], _ => exact ⟨u, rfl⟩
      simp only [RelVs] at h2
      exact ⟨u, hrun u (by simp), h2.1⟩
    · rename_i vs' hne e
      cases e
      simp only [Option.some.injEq] at h
      subst h
      have hl : us.length ≠ 1 := by
        intro e
        rw [e] at h3
        obtain ⟨x, rfl⟩ : ∃ x, vs = [x] := by
          match vs, h3 with
          | [x], _ => exact ⟨x, rfl⟩
        exact hne x rfl
      refine ⟨.tuple us.toArray, hrun _ (by simp [hl]), ?_⟩
      rw [relV_tup]
      exact ⟨_, rfl, by simp [h3], h2⟩
    · cases h
end
end Mini
end Go.Proofs.YtcilepbdddgpoaaDoor
