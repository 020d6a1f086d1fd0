/-
  A region, in whatever order: what holds between two operations.
-/
import Derived.Test.YtmcgaakbkgdljaaGreatDoorMiniE12
namespace Go.Proofs.YtmcgaakbkgdljaaGreatDoor
namespace Mini
open Go

/-- The callee is a function with a body. -/
def Enters (P : Program) (f : FuncId) : Prop := ∃ fn, P.funcs[f]? = some fn ∧ (fn.name == "runtime.NumGoroutine") = false ∧ fn.body.isNone = false

/-- A call that shares the local heap. -/
def HeapCall (P : Program) (G : Nat → Option (List D)) (c : C) (args : List V) (H : Heap) (v : V) (H' : Heap) : Prop :=
  ∀ (M : MM) (w : World) (cv : Value) (us : List Value), GlobOk G M.imm → RelC M c cv → RelVs M args us → args.length = us.length → Sat P M H 0 w →
    (∃ f first caps, cv = .func (.func f) first caps ∧ Enters P f ∧ Calls P f (first ++ us.toArray ++ caps) w fun e w' => ∃ v' M', e = .returned v' ∧ RelV M' v v' ∧ Sat P M' H' 0 w' ∧ Fr M M' w w') ∨
    (∃ l f tmps asg body, cv = .func (.yield l) #[] #[] ∧ (Instr.yield l us.toArray).run P w = .ok (.round l f tmps asg body) w ∧
      RoundIn Fence.wide 0 P l f tmps asg body w fun e w' => ∃ v' M', e = .returned v' ∧ RelV M' v v' ∧ Sat P M' H' 0 w' ∧ Fr M M' w w')

/-- A function's frame, or a round's. -/
def rnd (r : Option Nat) : Fence := { Fence.wide with round := r }

structure EnvOk (P : Program) (E : Env) : Prop where
  call : ∀ c args H v H', E.call c args H = some (v, H') → HeapCall P E.glob c args H v H'
  vcall : ∀ f vs r, E.vcall f vs = some r → Enters P f ∧ ValCall P E.glob f vs r
  prim : ∀ f vs r, E.prim f vs = some r → Enters P f ∧ ValCall P E.glob f vs r

structure Rg (X : Cx) (E : Env) (regs : List V) (val : Nat → V) (hp : Nat → Heap) : Prop where
  len : X.ps.length = X.n
  one : ∀ i o p, X.ops[i]? = some o → X.ps[i]? = some p → One X i o p
  ran : ∀ i p, X.ps[i]? = some p → Ran1 E regs val hp i p
  apt : ∀ x ∈ X.aps, apart (look E regs (tsOf val X.n) x.1) (look E regs (tsOf val X.n) x.2) = true ∨ ∃ k, x = (.r k, .v .any) ∧ ∀ id g off, nth regs k = .c (.ptr id g off) → ∀ e r, X.ps[e]? = some r → r.op.isSt = false → ∀ o, ob? (hp e) id = some o → ∃ o', ob? (hp (e + 1)) id = some o' ∧ Same o o'

structure Inv (X : Cx) (regs : List V) (val : Nat → V) (hp : Nat → Heap) (M0 : MM) (w0 : World) (d0 : List Deferred) (S : Nat → Prop) (c : Nat) (M : MM) (a : Act) (w : World) : Prop where
  size : a.tmps.size = X.nt
  dfs : a.defers = d0
  cle : c ≤ X.n
  cS : ∀ e p, e < c → X.ps[e]? = some p → p.op.eff = true → S e
  cN : ∀ p, X.ps[c]? = some p → p.op.eff = true ∧ ¬ S c
  sat : Sat X.P M (hp c) 0 w
  fr : Fr M0 M w0 w
  vals : ∀ i t, S i → X.loc[i]? = some (some t) → RelV M (val i) (a.tmps.getD t undef)
  rg : ∀ j t, X.tm[j]? = some t → (∀ i, S i → X.raw[i]? ≠ some (some t)) → RelV M (nth regs j) (a.tmps.getD t undef)
  todo : ∀ i, i < c → ¬ S i → (hp i).length < (hp (i + 1)).length → M.loc (hp i).length = none
  pend : ∀ j k, partner X.ops X.ps k = some j → S j → ¬ S k → ∃ t m a' q B, X.raw[j]? = some (some t) ∧ X.ps[k]? = some q ∧ q.op = .ini m a' ∧ Waits M w (a.tmps.getD t undef) m B ∧ w0.heap.size ≤ B
  pinj : ∀ j k j' k' t t', partner X.ops X.ps k = some j → partner X.ops X.ps k' = some j' → S j → S j' → ¬ S k → ¬ S k' → X.raw[j]? = some (some t) → X.raw[j']? = some (some t') → a.tmps.getD t undef = a.tmps.getD t' undef → j = j'

section
variable {X : Cx} {E : Env} {regs : List V} {val : Nat → V} {hp : Nat → Heap} {M0 M M' : MM} {w0 w w' : World} {d0 : List Deferred} {S : Nat → Prop} {c : Nat} {a : Act}

theorem getD_put_ne {a : Act} {d : Option Tmp} {v : Value} {t : Nat} (h : d ≠ some t) : (a.put d v).tmps.getD t undef = a.tmps.getD t undef := by
  cases d with
  | none => rfl
  | some d =>
    have : d ≠ t := fun e => h (by rw [e])
    simp only [Act.put, Array.getD_eq_getD_getElem?]
    rw [Array.getElem?_setIfInBounds_ne this]
theorem getD_put_same {a : Act} {v : Value} {t : Nat} (h : t < a.tmps.size) : (a.put (some t) v).tmps.getD t undef = v := by
  simp [Act.put, Array.getD, h]

theorem raw_at {i : Nat} {o : Oper} (h : X.ops[i]? = some o) : X.raw[i]? = some o.dst := by simp [Cx.raw, h]
theorem raw_lt {i : Nat} {x : Option Nat} (h : X.raw[i]? = some x) : i < X.n := by
  have := (List.getElem?_eq_some_iff.1 h).1
  simpa [Cx.raw, Cx.n] using this
theorem ops_of {i : Nat} (h : i < X.n) : ∃ o, X.ops[i]? = some o := ⟨X.ops[i]'h, List.getElem?_eq_getElem (show i < X.ops.length from h)⟩
theorem ps_of (hX : Rg X E regs val hp) {i : Nat} (h : i < X.n) : ∃ p, X.ps[i]? = some p := ⟨X.ps[i]'(by rw [hX.len]; exact h), List.getElem?_eq_getElem (by rw [hX.len]; exact h)⟩
theorem ps_lt (hX : Rg X E regs val hp) {i : Nat} {p : Gp} (h : X.ps[i]? = some p) : i < X.n := by
  have := (List.getElem?_eq_some_iff.1 h).1
  rw [hX.len] at this; exact this

/-- No temporary is written twice. -/
theorem raw_inj (hX : Rg X E regs val hp) {i j t : Nat} (hi : X.raw[i]? = some (some t)) (hj : X.raw[j]? = some (some t)) : i = j := by
  have key : ∀ i j : Nat, X.raw[i]? = some (some t) → X.raw[j]? = some (some t) → ¬ j < i := by
    intro i j hi hj hlt
    have hin := raw_lt hi
    obtain ⟨o, ho⟩ := ops_of hin
    obtain ⟨p, hp⟩ := ps_of hX hin
    rw [raw_at ho] at hi
    exact ((hX.one i o p ho hp).dst t (Option.some.inj hi)).2 j hlt hj
  have h1 := key i j hi hj
  have h2 := key j i hj hi
  omega

theorem partner_spec {j k : Nat} (h : partner X.ops X.ps k = some j) : ∃ o p t T y m b o' p', X.ops[k]? = some o ∧ X.ps[k]? = some p ∧ o.op = .store T (.tmp t) y ∧ p.op = .ini m b ∧ X.ops[j]? = some o' ∧ X.ps[j]? = some p' ∧ o'.dst = some t ∧ p'.op = .pre ∧ j < k := by
  unfold partner at h
  split at h <;> try (cases h; done)
  rename_i o p ho hp
  split at h <;> try (cases h; done)
  rename_i T t y m b h1 h2
  have hp1 := List.find?_some h
  have hp2 := List.mem_of_find?_eq_some h
  split at hp1 <;> try (cases hp1; done)
  rename_i o' p' ho' hp'
  simp only [Bool.and_eq_true, beq_iff_eq] at hp1
  obtain ⟨q1, q2⟩ := hp1
  split at q2 <;> try (cases q2; done)
  rename_i hpre
  exact ⟨o, p, t, T, y, m, b, o', p', ho, hp, h1, h2, ho', hp', q1, hpre, by simpa using hp2⟩

theorem loc_spec {i t : Nat} (h : X.loc[i]? = some (some t)) : (∃ o, X.ops[i]? = some o ∧ o.dst = some t ∧ ∀ p, X.ps[i]? = some p → p.op ≠ .pre) ∨
    (∃ j o', partner X.ops X.ps i = some j ∧ X.ops[j]? = some o' ∧ o'.dst = some t) := by
  simp only [Cx.loc, List.getElem?_map, Option.map_eq_some_iff] at h
  obtain ⟨i', hi', h⟩ := h
  have : i' = i := by
    have := List.getElem?_eq_some_iff.1 hi'
    obtain ⟨_, e⟩ := this
    simpa using e.symm
  subst this
  unfold locOf at h
  split at h <;> try (cases h; done)
  rename_i o p ho hp
  split at h
  · cases h
  · rename_i m b hop
    split at h <;> try (cases h; done)
    rename_i j hj
    split at h <;> try (cases h; done)
    rename_i o' ho'
    exact .inr ⟨j, o', hj, ho', h⟩
  · rename_i hpre hini
    refine .inl ⟨o, ho, h, fun p' hp' e => ?_⟩
    rw [hp] at hp'
    cases hp'
    exact hpre e

/-- Where a result lies. -/
theorem loc_at {i : Nat} {o : Oper} {p : Gp} (ho : X.ops[i]? = some o) (hp : X.ps[i]? = some p) (h1 : p.op ≠ .pre) (h2 : ∀ m b, p.op ≠ .ini m b) : X.loc[i]? = some o.dst := by
  have hi : i < X.n := (List.getElem?_eq_some_iff.1 ho).1
  have e : locOf X.ops X.ps i = o.dst := by
    unfold locOf
    simp only [ho, hp]
  simp only [Cx.loc, List.getElem?_map, List.getElem?_range hi, Option.map_some, e]

/-- What has been carried out, and one more. -/
theorem Inv.upd (h : Inv X regs val hp M0 w0 d0 S c M a w) (hX : Rg X E regs val hp) {i : Nat} {o : Oper} {v' : Value} {c' : Nat} {Xb : Nat → Prop} (ho : X.ops[i]? = some o) (hS : ¬ S i) (hcl : ∀ i j, X.ah i j = true → S j → S i)
    (hsat : Sat X.P M' (hp c') 0 w') (hfr : FrX Xb M M' w w') (hXb : ∀ B, Xb B → w0.heap.size ≤ B)
    (hcle : c' ≤ X.n) (hcS : ∀ e p, e < c' → X.ps[e]? = some p → p.op.eff = true → S e ∨ e = i) (hcN : ∀ p, X.ps[c']? = some p → p.op.eff = true ∧ ¬ S c' ∧ c' ≠ i)
    (hval : ∀ t, X.loc[i]? = some (some t) → RelV M' (val i) ((a.put o.dst v').tmps.getD t undef))
    (htodo : ∀ j, j < c' → ¬ S j → j ≠ i → (hp j).length < (hp (j + 1)).length → M'.loc (hp j).length = none)
    (hpend : ∀ j k, partner X.ops X.ps k = some j → (S j ∨ j = i) → ¬ S k → k ≠ i → ∃ t m a' q B, X.raw[j]? = some (some t) ∧ X.ps[k]? = some q ∧ q.op = .ini m a' ∧ Waits M' w' ((a.put o.dst v').tmps.getD t undef) m B ∧ w0.heap.size ≤ B)
    (hpinj : ∀ j k j' k' t t', partner X.ops X.ps k = some j → partner X.ops X.ps k' = some j' → (S j ∨ j = i) → (S j' ∨ j' = i) → ¬ S k → k ≠ i → ¬ S k' → k' ≠ i → X.raw[j]? = some (some t) → X.raw[j']? = some (some t') →
      (a.put o.dst v').tmps.getD t undef = (a.put o.dst v').tmps.getD t' undef → j = j') :
    Inv X regs val hp M0 w0 d0 (fun j => S j ∨ j = i) c' M' (a.put o.dst v') w' where
  size := by rw [← h.size]; cases o.dst <;> simp [Act.put]
  dfs := by rw [← h.dfs]; cases o.dst <;> rfl
  cle := hcle
  cS := hcS
  cN := fun p hp' => by
    obtain ⟨h1, h2, h3⟩ := hcN p hp'
    exact ⟨h1, fun h => h.elim h2 h3⟩
  sat := hsat
  fr := h.fr.transX hfr hXb
  vals := fun j t hj hl => by
    by_cases e : j = i
    · subst e; exact hval t hl
    · have hSj := hj.resolve_right e
      rw [getD_put_ne (fun hd => ?_)]
      · exact RelV.mono hfr.ext (h.vals j t hSj hl)
      · have hri : X.raw[i]? = some (some t) := by rw [raw_at ho, hd]
        rcases loc_spec hl with ⟨oj, hoj, hdj, _⟩ | ⟨k, ok, hk, hok, hdk⟩
        · exact e (raw_inj hX (by rw [raw_at hoj, hdj]) hri)
        · have hki : k = i := raw_inj hX (by rw [raw_at hok, hdk]) hri
          subst hki
          obtain ⟨o1, p1, t1, T, y, m, b, o2, p2, q1, q2, q3, q4, q5, q6, q7, q8, q9⟩ := partner_spec hk
          obtain ⟨j', t', x', y', o'', t'', r1, r2, r3, r4, r5, r6, r7, r8, r9⟩ := (hX.one j o1 p1 q1 q2).ini m b q4
          rw [hk] at r1
          cases r1
          exact hS (hcl _ _ r7 hSj)
  rg := fun j t hj hn => by
    rw [getD_put_ne (fun hd => hn i (.inr rfl) (by rw [raw_at ho, hd]))]
    exact RelV.mono hfr.ext (h.rg j t hj (fun k hk => hn k (.inl hk)))
  todo := fun j hj hn hl => htodo j hj (fun h => hn (.inl h)) (fun h => hn (.inr h)) hl
  pend := fun j k hk hj hn => hpend j k hk hj (fun h => hn (.inl h)) (fun h => hn (.inr h))
  pinj := fun j k j' k' t t' h1 h2 h3 h4 h5 h6 h7 h8 h9 => hpinj j k j' k' t t' h1 h2 h3 h4 (fun h => h5 (.inl h)) (fun h => h5 (.inr h)) (fun h => h6 (.inl h)) (fun h => h6 (.inr h)) h7 h8 h9

/-- The same for an operation that is neither half of a pair. -/
theorem Inv.plain (h : Inv X regs val hp M0 w0 d0 S c M a w) (hX : Rg X E regs val hp) {i : Nat} {o : Oper} {p : Gp} {v' : Value} {c' : Nat} (ho : X.ops[i]? = some o) (hpi : X.ps[i]? = some p) (hS : ¬ S i) (hcl : ∀ i j, X.ah i j = true → S j → S i)
    (hnp : ∀ k, partner X.ops X.ps k ≠ some i) (hini : ∀ m b, p.op ≠ .ini m b) (hsat : Sat X.P M' (hp c') 0 w') (hfr : FrX (fun _ => False) M M' w w')
    (hcle : c' ≤ X.n) (hcS : ∀ e p, e < c' → X.ps[e]? = some p → p.op.eff = true → S e ∨ e = i) (hcN : ∀ p, X.ps[c']? = some p → p.op.eff = true ∧ ¬ S c' ∧ c' ≠ i)
    (hval : RelV M' (val i) v')
    (htodo : ∀ j, j < c' → ¬ S j → j ≠ i → (hp j).length < (hp (j + 1)).length → M'.loc (hp j).length = none) :
    Inv X regs val hp M0 w0 d0 (fun j => S j ∨ j = i) c' M' (a.put o.dst v') w' := by
  have hin : i < X.n := (List.getElem?_eq_some_iff.1 ho).1
  have far : ∀ j k t, partner X.ops X.ps k = some j → X.raw[j]? = some (some t) → (S j ∨ j = i) → S j ∧ (a.put o.dst v').tmps.getD t undef = a.tmps.getD t undef := by
    intro j k t hk hr hj
    have hne : j ≠ i := fun e => hnp k (e ▸ hk)
    refine ⟨hj.resolve_right hne, getD_put_ne fun hd => hne (raw_inj hX hr (by rw [raw_at ho, hd]))⟩
  refine h.upd hX ho hS hcl hsat hfr (fun _ h => h.elim) hcle hcS hcN ?_ htodo ?_ ?_
  · intro t ht
    have hd : o.dst = some t := by
      rcases loc_spec ht with ⟨o1, ho1, hd1, _⟩ | ⟨j, o1, hj, _⟩
      · rw [ho] at ho1; cases ho1; exact hd1
      · obtain ⟨o1, p1, t1, T, y, m, b, o2, p2, q1, q2, q3, q4, _⟩ := partner_spec hj
        rw [hpi] at q2
        cases q2
        exact absurd q4 (hini m b)
    rw [hd, getD_put_same (by rw [h.size]; exact ((hX.one i o p ho hpi).dst t hd).1)]
    exact hval
  · intro j k hk hj hnk hki
    have hSj : S j := (by
      obtain ⟨o1, p1, t1, T, y, m, b, o2, p2, q1, q2, q3, q4, q5, q6, q7, q8, q9⟩ := partner_spec hk
      exact (far j k t1 hk (by rw [raw_at q5, q7]) hj).1)
    obtain ⟨t, m, a', q, B, e1, e2, e3, e4, e5⟩ := h.pend j k hk hSj hnk
    exact ⟨t, m, a', q, B, e1, e2, e3, by rw [(far j k t hk e1 hj).2]; exact e4.keep hfr (fun h => h), e5⟩
  · intro j k j' k' t t' h1 h2 h3 h4 h5 _ h6 _ h7 h8 h9
    obtain ⟨s1, e1⟩ := far j k t h1 h7 h3
    obtain ⟨s2, e2⟩ := far j' k' t' h2 h8 h4
    rw [e1, e2] at h9
    exact h.pinj j k j' k' t t' h1 h2 s1 s2 h5 h6 h7 h8 h9

/-- What an operand holds. -/
theorem Inv.operand (h : Inv X regs val hp M0 w0 d0 S c M a w) (hX : Rg X E regs val hp) (hG : GlobOk E.glob M0.imm) {i : Nat} {o : Oper} {p : Gp} (ho : X.ops[i]? = some o) (hpi : X.ps[i]? = some p) (hS : ¬ S i) (hcl : ∀ i j, X.ah i j = true → S j → S i) (hr : ∀ j, X.ah j i = true → S j)
    {x : Operand} (hx : ∀ t, x = .tmp t → .tmp t ∈ o.op.operands) {b : A} (hok : okA (X.k i) x b = true) : RelV M (look E regs (tsOf val i) b) (a.eval x) := by
  unfold okA at hok
  split at hok <;> try (cases hok; done)
  · rename_i t j
    simp only [Bool.and_eq_true, beq_iff_eq, Cx.k] at hok
    obtain ⟨⟨h1, h2⟩, h3⟩ := hok
    simp only [look, nth_tsOf, Act.eval]
    rw [if_pos (of_decide_eq_true h1)]
    exact h.vals _ t (hr _ h3) h2
  · rename_i t j
    simp only [Bool.and_eq_true, beq_iff_eq, Bool.not_eq_true', Cx.k] at hok
    obtain ⟨h1, h2⟩ := hok
    simp only [look, Act.eval]
    refine h.rg j t h1 fun k hk hrk => ?_
    have hkn := raw_lt hrk
    rcases (hX.one i o p ho hpi).reads t (hx t rfl) k hkn with e | e | e | e
    · subst e; exact hS hk
    · exact e hrk
    · have hlt := ah_lt e
      have : (X.raw.take i).contains (some t) = true := by
        rw [List.contains_iff_mem, List.mem_iff_getElem?]
        exact ⟨k, by rw [List.getElem?_take, if_pos hlt]; exact hrk⟩
      rw [this] at h2
      cases h2
    · exact hS (hcl _ _ e hk)
  · simp only [look, Act.eval]; exact okV_rel hok
  · rename_i g b'
    simp only [beq_iff_eq] at hok
    subst hok
    simp only [look, Act.eval]
    split
    · rename_i cs hg
      rw [relV_d]
      exact RelD.mono h.fr.ext.imm (hG _ _ hg).1
    · exact relV_any
  · rename_i f f'
    simp only [beq_iff_eq] at hok
    subst hok
    simp only [look, Act.eval]
    rw [relV_d]
    simp only [RelD]
    exact ⟨#[], #[], rfl, RelDs.nil _ _, rfl, RelDs.nil _ _, rfl⟩

/-- Is an operation carried out? -/
theorem Inv.wanted (h : Inv X regs val hp M0 w0 d0 S c M a w) (hX : Rg X E regs val hp) {i : Nat} {o : Oper} {p : Gp} {b : Bool} (ho : X.ops[i]? = some o) (hpi : X.ps[i]? = some p) (hr : ∀ j, X.ah j i = true → S j)
    (hw : wants (tsOf val i) p.guard = some b) : Region.wanted o (yielded X.ops.toArray a.tmps) = b := by
  have hone := hX.one i o p ho hpi
  cases hg : p.guard with
  | none =>
    rw [hg] at hw
    simp only [wants, Option.some.injEq] at hw
    subst hw
    simp [Region.wanted, hone.guard0 hg]
  | some gb =>
    obtain ⟨g, b'⟩ := gb
    obtain ⟨h1, h2, h3, o', t, h4, h5, h6⟩ := hone.guard1 g b' hg
    have hv := h.vals _ t (hr _ h3) h6
    rw [hg] at hw
    simp only [wants, nth_tsOf, if_pos h2] at hw
    have hin : i - 1 - g < X.n := (List.getElem?_eq_some_iff.1 h4).1
    obtain ⟨p', hp'⟩ := ps_of hX hin
    have hlt : t < a.tmps.size := by rw [h.size]; exact ((hX.one _ o' p' h4 hp').dst t h5).1
    have hget : a.tmps.getD t undef = a.tmps[t] := by simp [Array.getD, hlt]
    rw [hget] at hv
    have hy : yielded X.ops.toArray a.tmps (i - 1 - g) = (match a.tmps[t] with | .bool b => some b | _ => none) := by
      have e : ((X.ops.toArray[i - 1 - g]?).bind (·.dst)).bind (a.tmps[·]?) = some a.tmps[t] := by simp [h4, h5, hlt]
      unfold yielded
      rw [e]
      cases a.tmps[t] <;> rfl
    simp only [Region.wanted, h1, hy]
    split at hw <;> try (cases hw; done)
    · rename_i t0 hval
      rw [hval, relV_bool] at hv
      simp only [Option.some.injEq] at hw
      subst hw
      rw [hv]
      simp
    · rename_i hval
      rw [hval, relV_tup] at hv
      obtain ⟨arr, hv, _⟩ := hv
      simp only [Option.some.injEq] at hw
      subst hw
      rw [hv]
      simp
end
end Mini
end Go.Proofs.YtmcgaakbkgdljaaGreatDoor
