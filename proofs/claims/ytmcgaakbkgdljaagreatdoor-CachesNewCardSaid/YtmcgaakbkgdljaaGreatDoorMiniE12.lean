/-
  A region's operations in text order; what the check says of each.
-/
import Derived.Test.YtmcgaakbkgdljaaGreatDoorMiniE11
namespace Go.Proofs.YtmcgaakbkgdljaaGreatDoor
namespace Mini
open Go

/-! ### The run in text order -/
def tsOf (val : Nat → V) : Nat → List V
  | 0 => []
  | i + 1 => val i :: tsOf val i

theorem nth_tsOf (val : Nat → V) : ∀ (i k : Nat), nth (tsOf val i) k = if k < i then val (i - 1 - k) else .any
  | 0, k => by simp [tsOf, nth]
  | i + 1, 0 => by simp [tsOf, nth]
  | i + 1, k + 1 => by
    simp only [tsOf, nth, nth_tsOf val i k]
    by_cases h : k < i
    · rw [if_pos h, if_pos (by omega)]; congr 1; omega
    · rw [if_neg h, if_neg (by omega)]

theorem tsOf_congr {val val' : Nat → V} : ∀ (i : Nat), (∀ j, j < i → val j = val' j) → tsOf val i = tsOf val' i
  | 0, _ => rfl
  | i + 1, h => by simp only [tsOf]; rw [h i (by omega), tsOf_congr i (fun j hj => h j (by omega))]

/-- One operation of the run. -/
def Ran1 (E : Env) (regs : List V) (val : Nat → V) (hp : Nat → Heap) (i : Nat) (p : Gp) : Prop :=
  (wants (tsOf val i) p.guard = some false ∧ val i = .tup [] ∧ hp (i + 1) = hp i) ∨
  (wants (tsOf val i) p.guard = some true ∧ step E (look E regs (tsOf val i)) (hp i) p.op = some (val i, hp (i + 1)))

theorem runOps_ran {E : Env} {regs : List V} : ∀ (ps : List Gp) (i0 : Nat) (val0 : Nat → V) (H : Heap) (ts' : List V) (H' : Heap), runOps E regs ps (tsOf val0 i0) H = some (ts', H') →
    ∃ (val : Nat → V) (hp : Nat → Heap), (∀ j, j < i0 → val j = val0 j) ∧ hp i0 = H ∧ (∀ i p, ps[i]? = some p → Ran1 E regs val hp (i0 + i) p) ∧ ts' = tsOf val (i0 + ps.length) ∧ H' = hp (i0 + ps.length)
  | [], i0, val0, H, ts', H', h => by
    simp only [runOps, Option.some.injEq, Prod.mk.injEq] at h
    exact ⟨val0, fun _ => H, fun _ _ => rfl, rfl, by simp, h.1.symm, h.2.symm⟩
  | p :: ps, i0, val0, H, ts', H', h => by
    have key : ∀ (v : V) (H1 : Heap), runOps E regs ps (v :: tsOf val0 i0) H1 = some (ts', H') →
        ((wants (tsOf val0 i0) p.guard = some false ∧ v = .tup [] ∧ H1 = H) ∨ (wants (tsOf val0 i0) p.guard = some true ∧ step E (look E regs (tsOf val0 i0)) H p.op = some (v, H1))) →
        ∃ (val : Nat → V) (hp : Nat → Heap), (∀ j, j < i0 → val j = val0 j) ∧ hp i0 = H ∧ (∀ i p', (p :: ps)[i]? = some p' → Ran1 E regs val hp (i0 + i) p') ∧ ts' = tsOf val (i0 + (p :: ps).length) ∧ H' = hp (i0 + (p :: ps).length) := by
      intro v H1 hrun hstep
      have e : v :: tsOf val0 i0 = tsOf (fun j => if j = i0 then v else val0 j) (i0 + 1) := by
        simp only [tsOf, if_true]
        rw [tsOf_congr i0 (val := val0) (val' := fun j => if j = i0 then v else val0 j) (fun j hj => (if_neg (by omega)).symm)]
      rw [e] at hrun
      obtain ⟨val, hp, h1, h2, h3, h4, h5⟩ := runOps_ran ps (i0 + 1) _ H1 ts' H' hrun
      have hv : val i0 = v := by rw [h1 i0 (by omega), if_pos rfl]
      have hts : tsOf val i0 = tsOf val0 i0 := tsOf_congr i0 (fun j hj => by rw [h1 j (by omega), if_neg (by omega)])
      refine ⟨val, fun j => if j = i0 then H else hp j, fun j hj => by rw [h1 j (by omega), if_neg (by omega)], by simp, ?_, ?_, ?_⟩
      · intro i p' hp'
        cases i with
        | zero =>
          simp only [List.getElem?_cons_zero, Option.some.injEq] at hp'
          subst hp'
          simp only [Ran1, Nat.add_zero, hts, hv, if_true]
          rw [if_neg (by omega), h2]
          exact hstep
        | succ i =>
          simp only [List.getElem?_cons_succ] at hp'
          have := h3 i p' hp'
          simp only [Ran1] at this ⊢
          rw [if_neg (by omega), if_neg (by omega), show i0 + (i + 1) = i0 + 1 + i by omega]
          exact this
      · rw [h4]; congr 1; simp only [List.length_cons]; omega
      · simp only [List.length_cons]; rw [if_neg (by omega), h5]; congr 1; omega
    simp only [runOps] at h
    split at h <;> try (cases h; done)
    · rename_i hw
      exact key _ _ h (.inl ⟨hw, rfl, rfl⟩)
    · rename_i hw
      split at h <;> try (cases h; done)
      rename_i v H1 hs
      exact key _ _ h (.inr ⟨hw, hs⟩)

/-! ### The check, read -/
theorem okAll_get {P : Program} {tm : List Nat} {nt : Nat} {draw : Bool} {cl : List Nat} {ops : List Oper} {ps : List Gp} {loc raw : List (Option Nat)} {aps : List (A × A)} : ∀ (os : List Oper) (qs : List Gp) (i0 : Nat), okAll P tm nt draw cl ops ps loc raw aps i0 os qs = true →
    os.length = qs.length ∧ ∀ (i : Nat) (o : Oper) (p : Gp), os[i]? = some o → qs[i]? = some p → okOne P tm nt draw cl ops ps loc raw aps (i0 + i) o p = true
  | [], [], _, _ => ⟨rfl, by intro i o p h; simp at h⟩
  | [], _ :: _, _, h => by simp [okAll] at h
  | _ :: _, [], _, h => by simp [okAll] at h
  | o :: os, p :: qs, i0, h => by
    simp only [okAll, Bool.and_eq_true] at h
    obtain ⟨h1, h2⟩ := okAll_get os qs (i0 + 1) h.2
    refine ⟨by simp [h1], fun i o' p' ho hp => ?_⟩
    cases i with
    | zero => simp only [List.getElem?_cons_zero, Option.some.injEq] at ho hp; subst ho; subst hp; exact h.1
    | succ i => simp only [List.getElem?_cons_succ] at ho hp; rw [show i0 + (i + 1) = i0 + 1 + i by omega]; exact h2 i o' p' ho hp

/-- A region that has been checked. -/
structure Cx where
  P : Program
  tm : List Nat
  nt : Nat
  draw : Bool
  ops : List Oper
  ps : List Gp
  aps : List (A × A)

namespace Cx
variable (X : Cx)
def n : Nat := X.ops.length
def cl : List Nat := clos X.ops []
def loc : List (Option Nat) := (List.range X.n).map (locOf X.ops X.ps)
def raw : List (Option Nat) := X.ops.map (·.dst)
def ah (i j : Nat) : Bool := ahead X.draw X.cl i j
def k (i : Nat) : K := ⟨i, X.tm, X.loc, X.raw, fun j => X.ah j i⟩
end Cx

/-- What the check says of one operation. -/
structure One (X : Cx) (i : Nat) (o : Oper) (p : Gp) : Prop where
  body : (∀ m a, p.op ≠ .ini m a) → okOp X.P (X.k i) o p.op = true
  ini : ∀ m a, p.op = .ini m a → ∃ j t x y o' t', partner X.ops X.ps i = some j ∧ 0 < m ∧ o.op = .store t x y ∧ size? X.P t = some m ∧ okA (X.k i) y a = true ∧ o.guard = none ∧ X.ah j i = true ∧
    (∀ i', i' < X.n → partner X.ops X.ps i' = some j → i' = i) ∧ X.ops[j]? = some o' ∧ o'.op = .alloc t' ∧ size? X.P t' = some m ∧ (∀ vs, zero? X.P t' = some vs → vs.length = m) ∧ o'.guard = none
  guard0 : p.guard = none → o.guard = none
  guard1 : ∀ g b, p.guard = some (g, b) → o.guard = some (i - 1 - g, b) ∧ g < i ∧ X.ah (i - 1 - g) i = true ∧ ∃ o' t, X.ops[i - 1 - g]? = some o' ∧ o'.dst = some t ∧ X.loc[i - 1 - g]? = some (some t)
  dst : ∀ t, o.dst = some t → t < X.nt ∧ ∀ j, j < i → X.raw[j]? ≠ some (some t)
  reads : ∀ t, .tmp t ∈ o.op.operands → ∀ j, j < X.n → j = i ∨ X.raw[j]? ≠ some (some t) ∨ X.ah j i = true ∨ X.ah i j = true
  after : ∀ e ∈ o.after, Region.binds .any e = true → e.on < i
  sel : ∀ cs b, o.op ≠ .select cs b
  dfr : ∀ c, o.op ≠ .defer c
  eff : p.op.eff = true → ∀ j q, X.ps[j]? = some q → j < X.n → j = i ∨ noHeap q.op = true ∨ X.ah i j = true ∨ X.ah j i = true ∨ inAps X.ps X.n j i q.op p.op X.aps = true

theorem mem_regsOf : ∀ {xs : List Operand} {t : Nat}, .tmp t ∈ xs → t ∈ regsOf xs
  | x :: xs, t, h => by
    rcases List.mem_cons.1 h with h | h
    · subst h; simp [regsOf]
    · have := mem_regsOf h
      cases x <;> simp [regsOf, this]

theorem one_of {X : Cx} {i : Nat} {o : Oper} {p : Gp} (h : okOne X.P X.tm X.nt X.draw X.cl X.ops X.ps X.loc X.raw X.aps i o p = true) : One X i o p := by
  unfold okOne at h
  simp only [Bool.and_eq_true] at h
  obtain ⟨⟨⟨⟨⟨⟨⟨h1, h2⟩, h3⟩, h4⟩, h5⟩, h6⟩, h7⟩, h8⟩ := h
  refine ⟨?_, ?_, ?_, ?_, ?_, ?_, ?_, fun cs b e => (by rw [e] at h7; cases h7), fun c e => (by rw [e] at h7; cases h7), ?_⟩
  · intro hne
    split at h1
    · rename_i m a he; exact absurd he (hne m a)
    · exact h1
  · intro m a he
    rw [he] at h1
    simp only at h1
    split at h1 <;> try (cases h1; done)
    rename_i j hj
    simp only [Bool.and_eq_true, decide_eq_true_eq] at h1
    obtain ⟨⟨⟨⟨⟨a1, a2⟩, a3⟩, a4⟩, a5⟩, a6⟩ := h1
    split at a2 <;> try (cases a2; done)
    rename_i t x y hop
    simp only [Bool.and_eq_true, beq_iff_eq] at a2
    split at a6 <;> try (cases a6; done)
    rename_i o' ho'
    simp only [Bool.and_eq_true] at a6
    obtain ⟨a6, a7⟩ := a6
    split at a6 <;> try (cases a6; done)
    rename_i t1 t2 x2 y2 hop1 hop2
    rw [hop] at hop2
    cases hop2
    simp only [Bool.and_eq_true, beq_iff_eq] at a6
    obtain ⟨a8, a9⟩ := a6
    refine ⟨j, t, x, y, o', t1, hj, a1, hop, a2.1, a2.2, by simpa using a3, a4, ?_, ho', hop1, by rw [a8]; exact a2.1, ?_, by simpa using a7⟩
    · intro i' hi' hp'
      simp only [List.all_eq_true, List.mem_range] at a5
      have := a5 i' hi'
      simp only [Bool.or_eq_true, beq_iff_eq, bne_iff_ne, ne_eq] at this
      rcases this with h | h
      · exact h
      · exact absurd hp' h
    · intro vs hvs
      rw [hvs] at a9
      simp only [beq_iff_eq] at a9
      rw [a8, a2.1] at a9
      exact Option.some.inj a9
  · intro hg
    rw [hg] at h2
    unfold okGuard at h2
    split at h2 <;> first | rfl | (cases h2; done) | skip
    · assumption
    · rename_i hh; cases hh
  · intro g b hg
    rw [hg] at h2 h3
    simp only [Bool.and_eq_true] at h3
    obtain ⟨h3, h9⟩ := h3
    unfold okGuard at h2
    split at h2 <;> try (cases h2; done)
    · rename_i hh; cases hh
    · rename_i g' b' k' b'' hog hpg
      cases hpg
      simp only [Bool.and_eq_true, decide_eq_true_eq, beq_iff_eq] at h2
      obtain ⟨⟨k1, k2⟩, k3⟩ := h2
      subst k2 k3
      split at h9 <;> try (cases h9; done)
      rename_i o' ho'
      split at h9 <;> try (cases h9; done)
      rename_i l hl
      simp only [Bool.and_eq_true, beq_iff_eq] at h9
      obtain ⟨t, rfl⟩ := Option.isSome_iff_exists.1 h9.1
      exact ⟨hog, k1, h3, o', t, ho', h9.2, hl⟩
  · intro t ht
    rw [ht] at h4
    simp only [Bool.and_eq_true, decide_eq_true_eq, List.all_eq_true, bne_iff_ne, ne_eq] at h4
    refine ⟨h4.1, fun j hj hr => ?_⟩
    refine h4.2 (some t) ?_ rfl
    rw [List.mem_iff_getElem?]
    exact ⟨j, by rw [List.getElem?_take, if_pos hj]; exact hr⟩
  · intro t ht j hj
    simp only [List.all_eq_true, List.mem_range] at h5
    have := h5 t (mem_regsOf (by simpa using ht)) j hj
    simp only [Bool.or_eq_true, beq_iff_eq, Bool.not_eq_true', beq_eq_false_iff_ne, ne_eq] at this
    rcases this with ((h | h) | h) | h
    · exact .inl h
    · refine .inr (.inl fun he => h ?_)
      rw [List.getD_eq_getElem?_getD, he]
      rfl
    · exact .inr (.inr (.inl h))
    · exact .inr (.inr (.inr h))
  · intro e he hb
    simp only [Array.all_eq_true', Bool.or_eq_true, Bool.not_eq_true', decide_eq_true_eq] at h6
    rcases h6 e he with h | h
    · rw [h] at hb; cases hb
    · exact h
  · intro he j q hq hj
    rw [if_pos he] at h8
    simp only [List.all_eq_true, List.mem_range] at h8
    have := h8 j hj
    rw [hq] at this
    simp only [Bool.or_eq_true, beq_iff_eq] at this
    rcases this with h | ((h | h) | h) | h
    · exact .inl h
    · exact .inr (.inl h)
    · exact .inr (.inr (.inl h))
    · exact .inr (.inr (.inr (.inl h)))
    · exact .inr (.inr (.inr (.inr h)))

theorem ah_lt {X : Cx} {i j : Nat} (h : X.ah i j = true) : i < j := by
  simp only [Cx.ah, ahead, Bool.and_eq_true, decide_eq_true_eq] at h
  exact h.1
end Mini
end Go.Proofs.YtmcgaakbkgdljaaGreatDoor
