/-
  A region, in whatever order: one operation more.
-/
import Derived.TacticsIn
import Derived.Test.YtmcgaakbkgdljaaGreatDoorMiniE13
namespace Go.Proofs.YtmcgaakbkgdljaaGreatDoor
namespace Mini
open Go

theorem Same.symm {a b : Ob} (h : Same a b) : Same b a := by
  cases a <;> cases b <;> simp_all [Same]

def isVal : O → Bool
  | .vc .. | .pc .. => true
  | _ => false

section
variable {X : Cx} {E : Env} {regs : List V} {val : Nat → V} {hp : Nat → Heap} {M0 M M' : MM} {w0 w w' : World} {d0 : List Deferred} {S : Nat → Prop} {c : Nat} {a : Act} {rd : Option Nat}

theorem step_quiet {lk : A → V} {H : Heap} {p : O} (h : p.eff = false) (hv : isVal p = false) : step E lk H p = (stepP lk H p).map fun x => (x.1, H ++ x.2) := by
  cases p <;> simp [O.eff] at h <;> simp [isVal] at hv <;> rfl
theorem step_eff {lk : A → V} {H : Heap} {p : O} (h : p.eff = true) : step E lk H p = stepE E lk H p := by
  cases p <;> simp [O.eff] at h <;> rfl

theorem wide_append (H n : Heap) : Wide H (H ++ n) := ⟨by simp, fun id o ho => ⟨o, by rw [ob?_eq] at ho ⊢; rw [List.getElem?_append_left (List.getElem?_eq_some_iff.1 ho).1]; exact ho, Frz.refl o⟩⟩

theorem byValue_wide {f : List V → Option V} {lk : A → V} {H H1 : Heap} {args : List A} {r : V} (h : byValue f lk H args = some (r, H1)) : Wide H H1 ∧ H1.length = H.length := by
  unfold byValue at h
  split at h <;> try (cases h; done)
  split at h <;> try (cases h; done)
  simp only [Option.some.injEq, Prod.mk.injEq] at h
  obtain ⟨rfl, rfl⟩ := h
  split
  · exact ⟨Wide.refl _, rfl⟩
  · exact ⟨freeze_wide _ _, freeze_length _ _⟩

theorem ran_wide {i : Nat} {p : Gp} (h : Ran1 E regs val hp i p) (he : p.op.eff = false) : Wide (hp i) (hp (i + 1)) := by
  rcases h with ⟨_, _, h⟩ | ⟨_, h⟩
  · rw [h]; exact Wide.refl _
  · by_cases hv : isVal p.op = true
    · cases hop : p.op <;> rw [hop] at hv h <;> simp [isVal] at hv
      · exact (byValue_wide h).1
      · exact (byValue_wide h).1
    · rw [step_quiet he (by simpa using hv)] at h
      simp only [Option.map_eq_some_iff, Prod.mk.injEq] at h
      obtain ⟨⟨v, n⟩, _, _, h⟩ := h
      rw [← h]
      exact wide_append _ _

/-- What lays an object looks at the heap. -/
theorem push_kind {i : Nat} {p : Gp} (h : Ran1 E regs val hp i p) (he : p.op.eff = false) (hl : (hp i).length < (hp (i + 1)).length) : noHeap p.op = false ∧ ∀ g m b, p.op ≠ .ld g m b := by
  rcases h with ⟨_, _, h⟩ | ⟨_, h⟩
  · rw [h] at hl; omega
  · by_cases hv : isVal p.op = true
    · cases hop : p.op <;> rw [hop] at hv h <;> simp [isVal] at hv
      · have := (byValue_wide h).2; omega
      · have := (byValue_wide h).2; omega
    · rw [step_quiet he (by simpa using hv)] at h
      simp only [Option.map_eq_some_iff, Prod.mk.injEq] at h
      obtain ⟨⟨v, n⟩, h1, _, h⟩ := h
      rcases stepP_news h1 with rfl | h2
      · simp only [List.append_nil] at h; rw [h] at hl; omega
      · exact h2.2

theorem wides (hX : Rg X E regs val hp) : ∀ (b a : Nat), a ≤ b → b ≤ X.n → (∀ e p, a ≤ e → e < b → X.ps[e]? = some p → p.op.eff = false) → Wide (hp a) (hp b)
  | 0, a, h, _, _ => by have : a = 0 := by omega
                        subst this; exact Wide.refl _
  | b + 1, a, h, hb, hn => by
    rcases Nat.eq_or_lt_of_le h with rfl | h
    · exact Wide.refl _
    · obtain ⟨p, hp'⟩ := ps_of hX (show b < X.n by omega)
      exact (wides hX b a (by omega) (by omega) (fun e p h1 h2 => hn e p h1 (by omega))).trans (ran_wide (hX.ran b p hp') (hn b p (by omega) (by omega) hp'))

/-- The first operation from c on that writes. -/
theorem nextEff (hX : Rg X E regs val hp) : ∀ (d c : Nat), c + d = X.n → ∃ c', c ≤ c' ∧ c' ≤ X.n ∧ (∀ e p, c ≤ e → e < c' → X.ps[e]? = some p → p.op.eff = false) ∧ ∀ p, X.ps[c']? = some p → p.op.eff = true
  | 0, c, h => ⟨c, Nat.le_refl _, by omega, fun e p h1 h2 => by omega, fun p hp => by have := ps_lt hX hp; omega⟩
  | d + 1, c, h => by
    obtain ⟨p, hp'⟩ := ps_of hX (show c < X.n by omega)
    by_cases he : p.op.eff = true
    · exact ⟨c, Nat.le_refl _, by omega, fun e p h1 h2 => by omega, fun q hq => by rw [hp'] at hq; cases hq; exact he⟩
    · obtain ⟨c', h1, h2, h3, h4⟩ := nextEff hX d (c + 1) (by omega)
      refine ⟨c', by omega, h2, fun e q h5 h6 hq => ?_, h4⟩
      rcases Nat.eq_or_lt_of_le h5 with rfl | h5
      · rw [hp'] at hq; cases hq; simpa using he
      · exact h3 e q h5 h6 hq

/-- Nothing that writes elsewhere touches an object. -/
theorem obs_same (hX : Rg X E regs val hp) (id : Nat) : ∀ (b a : Nat), a ≤ b → b ≤ X.n →
    (∀ e p, a ≤ e → e < b → X.ps[e]? = some p → p.op.eff = true → (∃ m x y, p.op = .st m x y ∧ (wants (tsOf val e) p.guard = some true → ∀ id' g off, look E regs (tsOf val e) x = .c (.ptr id' g off) → id' ≠ id)) ∨ ∀ o, ob? (hp e) id = some o → ∃ o', ob? (hp (e + 1)) id = some o' ∧ Same o o') →
    ∀ o, ob? (hp a) id = some o → ∃ o', ob? (hp b) id = some o' ∧ Same o o'
  | 0, a, h, _, _, o, ho => by
    have : a = 0 := by omega
    subst this; exact ⟨o, ho, Same.refl o⟩
  | b + 1, a, h, hb, hn, o, ho => by
    rcases Nat.eq_or_lt_of_le h with rfl | h
    · exact ⟨o, ho, Same.refl o⟩
    · obtain ⟨p, hp'⟩ := ps_of hX (show b < X.n by omega)
      obtain ⟨o1, h1, h2⟩ := obs_same hX id b a (by omega) (by omega) (fun e p h1 h2 => hn e p h1 (by omega)) o ho
      by_cases he : p.op.eff = true
      · rcases hn b p (by omega) (by omega) hp' he with ⟨m, x, y, hop, hne⟩ | hst
        case inr =>
          obtain ⟨o2, h3, h4⟩ := hst o1 h1
          exact ⟨o2, h3, h2.trans h4⟩
        rcases hX.ran b p hp' with ⟨_, _, hr⟩ | ⟨hw, hr⟩
        · exact ⟨o1, by rw [hr]; exact h1, h2⟩
        · rw [step_eff he, hop] at hr
          simp only [stepE] at hr
          split at hr <;> try (cases hr; done)
          rename_i id' g off new hx hnew
          split at hr <;> try (cases hr; done)
          split at hr <;> try (cases hr; done)
          simp only [Option.some.injEq, Prod.mk.injEq] at hr
          rw [← hr.2]
          exact ⟨o1, by rw [ob?_setOb_ne (Ne.symm (hne hw id' g off hx))]; exact h1, h2⟩
      · obtain ⟨o2, h3, h4⟩ := (ran_wide (hX.ran b p hp') (by simpa using he)).ob id o1 h1
        exact ⟨o2, h3, h2.trans h4.same⟩

theorem look_atEnd {i n : Nat} (h : i ≤ n) (b : A) : look E regs (tsOf val n) (atEnd n i b) = look E regs (tsOf val i) b := by
  cases b with
  | l k =>
    simp only [atEnd, look, nth_tsOf]
    by_cases hk : k < i
    · rw [if_pos (by omega), if_pos hk]; congr 1; omega
    · rw [if_neg (by omega), if_neg hk]
  | _ => rfl

theorem eqA_look {ts : List V} {x y : A} (h : inAps.eqA x y = true) : look E regs ts x = look E regs ts y := by
  unfold inAps.eqA at h
  split at h <;> first | (simp only [beq_iff_eq] at h; subst h; rfl) | cases h

theorem inAps_ld {ps : List Gp} {n i j : Nat} {p q : O} {aps : List (A × A)} (h : inAps ps n i j p q aps = true) : ∃ g m b, p = .ld g m b := by
  unfold inAps at h
  split at h <;> try (cases h; done)
  exact ⟨_, _, _, rfl⟩
theorem isMark_spec {k : Nat} {x : A × A} (h : isMark k x = true) : x = (.r k, .v .any) := by
  unfold isMark at h
  split at h <;> try (cases h; done)
  simp only [beq_iff_eq] at h
  subst h
  rfl
/-- The address and the register that it is made of name one object. -/
theorem baseOf_spec (hX : Rg X E regs val hp) {k : Nat} : ∀ (f i : Nat) (a : A), baseOf X.ps f i a = some k → i ≤ X.n → ∀ id g off, look E regs (tsOf val i) a = .c (.ptr id g off) → ∃ off', nth regs k = .c (.ptr id g off') := by
  intro f
  induction f with
  | zero =>
    intro i a h hi id g off hl
    cases a <;> simp [baseOf] at h
    subst h
    exact ⟨off, hl⟩
  | succ f ih =>
    intro i a h hi id g off hl
    cases a with
    | r j => simp only [baseOf, Option.some.injEq] at h; subst h; exact ⟨off, hl⟩
    | v _ => simp [baseOf] at h
    | g _ => simp [baseOf] at h
    | l j =>
      simp only [baseOf] at h
      split at h <;> try (cases h; done)
      rename_i hj
      simp only [look, nth_tsOf, if_pos hj] at hl
      have ran : ∀ (q : O), X.ps[i - 1 - j]? = some ⟨none, q⟩ → q.eff = false → isVal q = false → ∃ n, stepP (look E regs (tsOf val (i - 1 - j))) (hp (i - 1 - j)) q = some (.c (.ptr id g off), n) := by
        intro q hq h1 h2
        rcases hX.ran _ _ hq with ⟨hw, _⟩ | ⟨_, hr⟩
        · simp [wants] at hw
        · rw [step_quiet h1 h2, hl] at hr
          simp only [Option.map_eq_some_iff, Prod.mk.injEq] at hr
          obtain ⟨⟨v, n⟩, hr, hv, _⟩ := hr
          simp only at hv
          subst hv
          exact ⟨n, hr⟩
      split at h <;> try (cases h; done)
      · rename_i o b hq
        obtain ⟨n, hr⟩ := ran _ hq rfl rfl
        simp only [stepP] at hr
        split at hr <;> try (cases hr; done)
        · rename_i id' g' o' hb
          simp only [Option.some.injEq, Prod.mk.injEq, V.c.injEq, C.ptr.injEq] at hr
          obtain ⟨⟨rfl, rfl, _⟩, _⟩ := hr
          exact ih _ _ h (by omega) _ _ _ hb
        · split at hr <;> simp at hr
      · rename_i b hq
        obtain ⟨n, hr⟩ := ran _ hq rfl rfl
        simp only [stepP] at hr
        split at hr <;> try (cases hr; done)
        all_goals first
          | (simp only [Option.some.injEq, Prod.mk.injEq] at hr
             refine ih _ _ h (by omega) id g off ?_
             simp_all)
          | simp_all
      · rename_i b hq
        obtain ⟨n, hr⟩ := ran _ hq rfl rfl
        simp only [stepP, Option.some.injEq, Prod.mk.injEq] at hr
        exact ih _ _ h (by omega) _ _ _ hr.1
/-- A load and an effect that go in any order: a store elsewhere, or the object stays as it is. -/
theorem inAps_spec (hX : Rg X E regs val hp) {i j : Nat} {p q : O} (hi : i ≤ X.n) (hj : j ≤ X.n) (h : inAps X.ps X.n i j p q X.aps = true) : ∃ g m b, p = .ld g m b ∧ ((∃ m' x y, q = .st m' x y ∧ apart (look E regs (tsOf val i) b) (look E regs (tsOf val j) x) = true) ∨
    ∀ id g off, look E regs (tsOf val i) b = .c (.ptr id g off) → ∀ e r, X.ps[e]? = some r → r.op = q → ∀ o, ob? (hp e) id = some o → ∃ o', ob? (hp (e + 1)) id = some o' ∧ Same o o') := by
  unfold inAps at h
  split at h <;> try (cases h; done)
  rename_i g m b
  refine ⟨g, m, b, rfl, ?_⟩
  simp only [Bool.or_eq_true] at h
  have noip : ∀ x : V, apart x .any = true → ∀ id g off, x ≠ .c (.ptr id g off) := by
    intro x h2 id g off e
    subst e
    simp [apart] at h2
  rcases h with ((h | h) | h) | h
  · simp only [Bool.and_eq_true, Bool.not_eq_true'] at h
    obtain ⟨hst, h⟩ := h
    split at h <;> try (cases h; done)
    rename_i k hb
    simp only [List.any_eq_true] at h
    obtain ⟨z, hz, h1⟩ := h
    have e := isMark_spec h1
    subst e
    refine .inr fun id g off hl => ?_
    obtain ⟨off', hk⟩ := baseOf_spec hX _ _ _ hb hi id g off hl
    rcases hX.apt _ hz with h2 | ⟨k', h2, h3⟩
    · exact absurd (by simpa [look] using hk) (noip _ (by simpa [look] using h2) id g off')
    · cases h2
      exact fun e r he hq => h3 id g off' hk e r he (by rw [hq]; exact hst)
  · refine .inr fun id g off hl => ?_
    unfold inAps.isG at h
    split at h <;> try (cases h; done)
    simp only [look] at hl
    split at hl <;> simp at hl
  · refine .inr fun id g off hl => ?_
    simp only [List.any_eq_true, Bool.and_eq_true] at h
    obtain ⟨z, hz, ⟨h1, h2⟩, h3⟩ := h
    have hy : z.2 = .v .any := by
      unfold isAny at h2
      split at h2 <;> first | assumption | cases h2
    rcases hX.apt z hz with h4 | ⟨k', h4, _⟩
    · rw [eqA_look h3, look_atEnd hi, hy] at h4
      exact absurd hl (noip _ h4 id g off)
    · subst h4
      simp [inAps.isL] at h1
  · split at h <;> try (cases h; done)
    rename_i m' x y
    simp only [List.any_eq_true, Bool.and_eq_true] at h
    obtain ⟨z, hz, h1, h2⟩ := h
    rcases hX.apt z hz with this | ⟨k', h3, _⟩
    · rw [eqA_look h1, eqA_look h2, look_atEnd hi, look_atEnd hj] at this
      exact .inl ⟨m', x, y, rfl, this⟩
    · subst h3
      simp [inAps.eqA] at h2

/-! ### Objects that stay as they are -/
theorem eqL_spec {α : Type} {e : α → α → Bool} (he : ∀ {a b : α}, e a b = true → a = b) : ∀ {x y : List α}, eqL e x y = true → x = y
  | [], [], _ => rfl
  | [], _ :: _, h => by cases h
  | _ :: _, [], h => by cases h
  | a :: x, b :: y, h => by
    simp only [eqL, Bool.and_eq_true] at h
    rw [he h.1, eqL_spec he h.2]
theorem eqD_spec : ∀ (n : Nat) {x y : D}, eqD n x y = true → x = y
  | 0, _, _, h => by cases h
  | n + 1, x, y, h => by
    have ih : ∀ {a b : D}, eqD n a b = true → a = b := fun h => eqD_spec n h
    simp only [eqD] at h
    split at h <;> first | rfl | (cases h; done) | skip
    · rw [beq_iff_eq.1 h]
    · simp only [Bool.and_eq_true, decide_eq_true_eq, beq_iff_eq] at h
      rw [h.1, h.2]
    · rw [beq_iff_eq.1 h]
    · rw [eqL_spec ih h]
    · simp only [Bool.and_eq_true, beq_iff_eq] at h
      rw [h.1, eqL_spec ih h.2]
theorem eqC_spec {n : Nat} {x y : C} (h : eqC n x y = true) : x = y := by
  unfold eqC at h
  split at h <;> first | (cases h; done) | skip
  · rw [eqD_spec n h]
  · simp only [Bool.and_eq_true, beq_iff_eq] at h
    obtain ⟨⟨rfl, rfl⟩, rfl⟩ := h
    rfl
  · simp only [Bool.and_eq_true, beq_iff_eq, decide_eq_true_eq] at h
    obtain ⟨⟨⟨⟨⟨rfl, rfl⟩, rfl⟩, rfl⟩, rfl⟩, rfl⟩ := h
    rfl
  · rw [beq_iff_eq.1 h]
  · rw [beq_iff_eq.1 h]
theorem stays_spec {H H' : Heap} {id : Nat} (h : stays H H' id = true) : ∀ o, ob? H id = some o → ∃ o', ob? H' id = some o' ∧ Same o o' := by
  intro o ho
  unfold stays at h
  rw [ho] at h
  split at h <;> try (cases h; done)
  rename_i o1 o2 e1 e2
  cases e1
  refine ⟨o2, e2, ?_⟩
  unfold eqOb at h
  split at h <;> try (cases h; done)
  simp only [Bool.and_eq_true, beq_iff_eq] at h
  obtain ⟨rfl, h⟩ := h
  have := eqL_spec (fun h => eqC_spec h) h
  subst this
  exact ⟨rfl, rfl⟩
theorem keeps_ran {E : Env} {regs : List V} {val : Nat → V} {hp : Nat → Heap} {id : Nat} : ∀ (ps : List Gp) (i0 : Nat), keeps E regs id ps (tsOf val i0) (hp i0) = true → (∀ i p, ps[i]? = some p → Ran1 E regs val hp (i0 + i) p) →
    ∀ i p, ps[i]? = some p → p.op.isSt = false → ∀ o, ob? (hp (i0 + i)) id = some o → ∃ o', ob? (hp (i0 + i + 1)) id = some o' ∧ Same o o'
  | [], _, _, _, i, _, h, _, _, _ => by simp at h
  | p :: ps, i0, hk, hr, i, q, hq, hst, o, ho => by
    have h0 := hr 0 p rfl
    simp only [Nat.add_zero] at h0
    have hstep : keeps E regs id ps (tsOf val (i0 + 1)) (hp (i0 + 1)) = true ∧ (p.op.isSt = false → ∀ o, ob? (hp i0) id = some o → ∃ o', ob? (hp (i0 + 1)) id = some o' ∧ Same o o') := by
      rcases h0 with ⟨h1, h2, h3⟩ | ⟨h1, h2⟩
      · simp only [keeps, h1] at hk
        refine ⟨?_, fun _ o ho => ⟨o, by rw [h3]; exact ho, Same.refl o⟩⟩
        rw [h3]
        simp only [tsOf, h2]
        exact hk
      · simp only [keeps, h1, h2, Bool.and_eq_true, Bool.or_eq_true] at hk
        exact ⟨by simp only [tsOf]; exact hk.2, fun hs => stays_spec (hk.1.resolve_left (by rw [hs]; simp))⟩
    cases i with
    | zero =>
      simp only [List.getElem?_cons_zero, Option.some.injEq] at hq
      subst hq
      exact hstep.2 hst o ho
    | succ i =>
      have e : i0 + (i + 1) = i0 + 1 + i := by omega
      rw [e] at ho ⊢
      exact keeps_ran ps (i0 + 1) hstep.1 (fun j q hq => by have := hr (j + 1) q (by simpa using hq); rwa [show i0 + (j + 1) = i0 + 1 + j by omega] at this) i q (by simpa using hq) hst o ho
/-! ### From the run of an operation to the calculus -/
theorem semAt_rnd {o : Oper} {ρ : Operand → Value} (h : ∀ c, o.op ≠ .defer c) : o.semAt (rnd rd).round ρ = execOp ρ o := by
  cases rd with
  | none => exact Oper.semAt_none ..
  | some l => exact Oper.semAt_some l _ _ h
theorem callsIn_rnd {P : Program} {f : FuncId} {args : Array Value} {n : Nat} {R : Ending → World → Prop} (h : Calls P f args w R) : CallsIn (rnd rd) n P f args w R := by
  have h' : CallsIn Fence.wide n P f args w R := callsIn_wide.2 h
  exact h'
theorem roundIn_rnd {P : Program} {l : Nat} {f : FuncId} {tmps : Array Value} {asg body : Code} {R : Ending → World → Prop} (h : RoundIn Fence.wide 0 P l f tmps asg body w R) : RoundIn (rnd rd) (0 - 1) P l f tmps asg body w R := h

theorem wpOp_did {Q : Exit → Act → World → Prop} {K : Act → World → Prop} {i : Nat} {o : Oper} {nx : Next} (hd : ∀ c, o.op ≠ .defer c) (ho : X.ops[i]? = some o) (hw : Region.wanted o (yielded X.ops.toArray a.tmps) = true) (hrun : (execOp a.eval o).run X.P w = .ok nx w')
    (hk : (∃ v', nx = .value v' ∧ K (a.put o.dst v') w') ∨ (nx = .skip ∧ K (a.put o.dst undef) w')) : wpOpIn (rnd rd) 0 X.P X.ops.toArray Q i K a w := by
  unfold wpOpIn
  simp only [List.getElem?_toArray, ho, hw, if_true]
  refine ⟨fun _ _ => trivial, ?_⟩
  rw [semAt_rnd hd, hrun]
  rcases hk with ⟨v', rfl, hk⟩ | ⟨rfl, hk⟩ <;> exact hk

theorem wpOp_call {Q : Exit → Act → World → Prop} {K : Act → World → Prop} {i : Nat} {o : Oper} {f : FuncId} {args : Array Value} (hd : ∀ c, o.op ≠ .defer c) (ho : X.ops[i]? = some o) (hw : Region.wanted o (yielded X.ops.toArray a.tmps) = true) (hrun : (execOp a.eval o).run X.P w = .ok (.enter f args) w)
    (hc : Calls X.P f args w fun e w' => ∃ v', e = .returned v' ∧ K (a.put o.dst v') w') : wpOpIn (rnd rd) 0 X.P X.ops.toArray Q i K a w := by
  unfold wpOpIn
  simp only [List.getElem?_toArray, ho, hw, if_true]
  refine ⟨fun _ _ => trivial, ?_⟩
  rw [semAt_rnd hd, hrun]
  refine ⟨fun h => by simp [rnd, Fence.wide] at h, ?_⟩
  refine callsIn_rnd (hc.mono fun e w' hh => ?_)
  obtain ⟨v', rfl, hk⟩ := hh
  exact hk

theorem wpOp_round {Q : Exit → Act → World → Prop} {K : Act → World → Prop} {i : Nat} {o : Oper} {l : Nat} {f : FuncId} {tmps : Array Value} {asg body : Code} (hd : ∀ c, o.op ≠ .defer c) (ho : X.ops[i]? = some o) (hw : Region.wanted o (yielded X.ops.toArray a.tmps) = true) (hrun : (execOp a.eval o).run X.P w = .ok (.round l f tmps asg body) w)
    (hc : RoundIn Fence.wide 0 X.P l f tmps asg body w fun e w' => ∃ v', e = .returned v' ∧ K (a.put o.dst v') w') : wpOpIn (rnd rd) 0 X.P X.ops.toArray Q i K a w := by
  unfold wpOpIn
  simp only [List.getElem?_toArray, ho, hw, if_true]
  refine ⟨fun _ _ => trivial, ?_⟩
  rw [semAt_rnd hd, hrun]
  refine ⟨fun h => by simp [rnd, Fence.wide] at h, ?_⟩
  refine roundIn_rnd (hc.mono fun e w' hh => ?_)
  obtain ⟨v', rfl, hk⟩ := hh
  exact hk

theorem wpOp_skip {Q : Exit → Act → World → Prop} {K : Act → World → Prop} {i : Nat} {o : Oper} (ho : X.ops[i]? = some o) (hw : Region.wanted o (yielded X.ops.toArray a.tmps) = false) (hk : K (a.put o.dst undef) w) : wpOpIn (rnd rd) 0 X.P X.ops.toArray Q i K a w := by
  unfold wpOpIn
  simp only [List.getElem?_toArray, ho, hw, Bool.false_eq_true, if_false]
  exact ⟨fun _ _ => trivial, hk⟩

theorem run_enter {P : Program} {ρ : Operand → Value} {o : Oper} {cl : Call} {g : Operand} {f : FuncId} {first caps : Array Value} (hop : o.op = .call cl) (hc : cl.callee = .value g) (hg : ρ g = .func (.func f) first caps) (hf : Enters P f) :
    (execOp ρ o).run P w = .ok (.enter f (first ++ cl.args.map ρ ++ caps)) w := by
  obtain ⟨fn, h1, h2, h3⟩ := hf
  simp only [execOp, hop, resolve, hc, hg, Deferred.ofValue, Sem.run_bind, Sem.run_pure, Result.andThen_ok, invoke, callFunc, run_program, h1, h2, Bool.false_eq_true, if_false, h3]

theorem run_round {P : Program} {ρ : Operand → Value} {o : Oper} {cl : Call} {g : Operand} {l : Nat} {nx : Next} (hop : o.op = .call cl) (hc : cl.callee = .value g) (hg : ρ g = .func (.yield l) #[] #[]) (hf : (Instr.yield l (cl.args.map ρ)).run P w = .ok nx w) :
    (execOp ρ o).run P w = .ok nx w := by
  simp [execOp, hop, resolve, hc, hg, Deferred.ofValue, invoke, hf]

/-- Where the next operation that writes stands. -/
theorem Inv.ahead (h : Inv X regs val hp M0 w0 d0 S c M a w) (hX : Rg X E regs val hp) (hcl : ∀ i j, X.ah i j = true → S j → S i) {e : Nat} {q : Gp} (he : X.ps[e]? = some q) (hq : q.op.eff = true) (hce : c ≤ e) : ¬ S e := by
  rcases Nat.eq_or_lt_of_le hce with rfl | hlt
  · exact (h.cN q he).2
  · intro hSe
    have hen := ps_lt hX he
    obtain ⟨pc, hpc⟩ := ps_of hX (show c < X.n by omega)
    obtain ⟨oe, hoe⟩ := ops_of hen
    obtain ⟨k1, k2⟩ := h.cN pc hpc
    rcases (hX.one e oe q hoe he).eff hq c pc hpc (by omega) with h1 | h1 | h1 | h1 | h1
    · omega
    · cases hop : pc.op <;> rw [hop] at k1 h1 <;> simp [O.eff] at k1 <;> simp [noHeap] at h1
    · have := ah_lt h1; omega
    · exact k2 (hcl _ _ h1 hSe)
    · obtain ⟨g, m, b, hld⟩ := inAps_ld h1
      rw [hld] at k1
      cases k1

/-- An operation that looks at the heap stands ahead of the next one that writes. -/
theorem Inv.before (h : Inv X regs val hp M0 w0 d0 S c M a w) (hX : Rg X E regs val hp) {i : Nat} {p : Gp} (hpi : X.ps[i]? = some p) (hr : ∀ j, X.ah j i = true → S j) (he : p.op.eff = false) (h1 : noHeap p.op = false) (h2 : ∀ g m b, p.op ≠ .ld g m b) : i < c := by
  rcases Nat.lt_or_ge i c with hlt | hge
  · exact hlt
  · have hin := ps_lt hX hpi
    obtain ⟨pc, hpc⟩ := ps_of hX (show c < X.n by omega)
    obtain ⟨oc, hoc⟩ := ops_of (show c < X.n by omega)
    obtain ⟨k1, k2⟩ := h.cN pc hpc
    rcases (hX.one c oc pc hoc hpc).eff k1 i p hpi hin with e | e | e | e | e
    · subst e; rw [hpi] at hpc; cases hpc; rw [he] at k1; cases k1
    · rw [h1] at e; cases e
    · exact absurd (hr _ e) k2
    · have := ah_lt e; omega
    · obtain ⟨g, m, b, hld⟩ := inAps_ld e
      exact absurd hld (h2 g m b)

/-- Nothing writes between it and that one. -/
theorem Inv.still (h : Inv X regs val hp M0 w0 d0 S c M a w) (hX : Rg X E regs val hp) (hcl : ∀ i j, X.ah i j = true → S j → S i) {i : Nat} {p : Gp} (hpi : X.ps[i]? = some p) (hS : ¬ S i) (_he : p.op.eff = false) (h1 : noHeap p.op = false) (h2 : ∀ g m b, p.op ≠ .ld g m b) :
    ∀ e q, i ≤ e → e < c → X.ps[e]? = some q → q.op.eff = false := by
  intro e q hie hec hq
  cases hqe : q.op.eff with
  | false => rfl
  | true =>
    have hSe := h.cS e q hec hq hqe
    have hen := ps_lt hX hq
    obtain ⟨oe, hoe⟩ := ops_of hen
    rcases (hX.one e oe q hoe hq).eff hqe i p hpi (ps_lt hX hpi) with e1 | e1 | e1 | e1 | e1
    · subst e1; exact absurd hSe hS
    · rw [h1] at e1; cases e1
    · have := ah_lt e1; omega
    · exact absurd (hcl _ _ e1 hSe) hS
    · obtain ⟨g, m, b, hld⟩ := inAps_ld e1
      exact absurd hld (h2 g m b)
end
end Mini
end Go.Proofs.YtmcgaakbkgdljaaGreatDoor
