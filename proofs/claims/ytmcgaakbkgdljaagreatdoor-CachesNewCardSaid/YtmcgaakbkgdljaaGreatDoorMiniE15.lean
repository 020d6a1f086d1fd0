/-
  A region, in whatever order: the step.
-/
import Derived.Test.YtmcgaakbkgdljaaGreatDoorMiniE14
namespace Go.Proofs.YtmcgaakbkgdljaaGreatDoor
namespace Mini
open Go

section
variable {X : Cx} {E : Env} {regs : List V} {val : Nat → V} {hp : Nat → Heap} {M0 M M' : MM} {w0 w w' : World} {d0 : List Deferred} {S : Nat → Prop} {c : Nat} {a : Act} {rd : Option Nat}

theorem cells_ne_mem {e : Nat} {P : Prop} (h : e < e) : P := absurd h (Nat.lt_irrefl _)

/-- Objects to come are still to come. -/
theorem Inv.todo_keep (h : Inv X regs val hp M0 w0 d0 S c M a w) (hX : Rg X E regs val hp) (hcl : ∀ i j, X.ah i j = true → S j → S i) {i : Nat} {p : Gp} (hpi : X.ps[i]? = some p) (hS : ¬ S i) (he : p.op.eff = false) {n : List Ob}
    (hpush : n ≠ [] → i < c ∧ (hp i).length < (hp (i + 1)).length ∧ noHeap p.op = false ∧ ∀ g m b, p.op ≠ .ld g m b)
    (hloc : ∀ id, ¬ (n ≠ [] ∧ id = (hp i).length) → M'.loc id = M.loc id) :
    ∀ j, j < c → ¬ S j → j ≠ i → (hp j).length < (hp (j + 1)).length → M'.loc (hp j).length = none := by
  intro j hjc hSj hji hlt
  rw [hloc _ ?_]
  · exact h.todo j hjc hSj hlt
  · rintro ⟨hn, heq⟩
    obtain ⟨hic, hil, k1, k2⟩ := hpush hn
    obtain ⟨q, hq⟩ := ps_of hX (show j < X.n by have := h.cle; omega)
    have hqe : q.op.eff = false := by
      cases hqe : q.op.eff with
      | false => rfl
      | true => exact absurd (h.cS j q hjc hq hqe) hSj
    obtain ⟨k3, k4⟩ := push_kind (hX.ran j q hq) hqe hlt
    rcases Nat.lt_or_gt_of_ne hji with hlt2 | hgt
    · have hw := wides hX i (j + 1) (by omega) (by have := h.cle; omega) (fun e r h1 h2 hr => h.still hX hcl hq hSj hqe k3 k4 e r (by omega) (by omega) hr)
      have := hw.len
      omega
    · have hw := wides hX j (i + 1) (by omega) (by have := h.cle; omega) (fun e r h1 h2 hr => h.still hX hcl hpi hS he k1 k2 e r (by omega) (by omega) hr)
      have := hw.len
      omega

open Classical in
/-- The operands of an operation as they stand; elsewhere, as they stood when the region began. -/
noncomputable def rho (X : Cx) (i : Nat) (o : Oper) (a a0 : Act) : Operand → Value
  | .tmp t => if .tmp t ∈ o.op.operands ∨ some t ∈ X.raw.take i then a.eval (.tmp t) else a0.eval (.tmp t)
  | x => a.eval x

theorem rho_eq {i : Nat} {o : Oper} {a a0 : Act} {x : Operand} (h : x ∈ o.op.operands) : rho X i o a a0 x = a.eval x := by
  cases x <;> simp [rho, h]

theorem Inv.rho (h : Inv X regs val hp M0 w0 d0 S c M a w) (hX : Rg X E regs val hp) (hG : GlobOk E.glob M0.imm) {a0 : Act} (h0 : RelRegs M0 X.tm regs a0.tmps) {i : Nat} {o : Oper} {p : Gp} (ho : X.ops[i]? = some o) (hpi : X.ps[i]? = some p) (hS : ¬ S i)
    (hcl : ∀ i j, X.ah i j = true → S j → S i) (hr : ∀ j, X.ah j i = true → S j) {x : Operand} {b : A} (hok : okA (X.k i) x b = true) : RelV M (look E regs (tsOf val i) b) (Mini.rho X i o a a0 x) := by
  by_cases hx : ∃ t, x = .tmp t ∧ ¬ (.tmp t ∈ o.op.operands ∨ some t ∈ X.raw.take i)
  · obtain ⟨t, rfl, hn⟩ := hx
    simp only [Mini.rho, if_neg hn]
    cases b with
    | v x => cases x <;> simp [okA] at hok
    | g b => simp [okA] at hok
    | l j =>
      simp only [okA, Bool.and_eq_true, beq_iff_eq, Cx.k] at hok
      obtain ⟨⟨h1, h2⟩, h3⟩ := hok
      exfalso
      refine hn (.inr ?_)
      rw [List.mem_iff_getElem?]
      have hlt : i - 1 - j < i := by have := of_decide_eq_true h1; omega
      rcases loc_spec h2 with ⟨o1, ho1, hd1, _⟩ | ⟨j2, o1, hj2, ho1, hd1⟩
      · exact ⟨i - 1 - j, by rw [List.getElem?_take, if_pos hlt, raw_at ho1, hd1]⟩
      · obtain ⟨_, _, _, _, _, _, _, _, _, _, _, _, _, _, _, _, _, q9⟩ := partner_spec hj2
        exact ⟨j2, by rw [List.getElem?_take, if_pos (by omega), raw_at ho1, hd1]⟩
    | r j =>
      simp only [okA, Bool.and_eq_true, beq_iff_eq, Bool.not_eq_true', Cx.k] at hok
      simp only [look, Act.eval]
      exact RelV.mono h.fr.ext (h0 j t hok.1)
  · have e : Mini.rho X i o a a0 x = a.eval x := by
      cases x with
      | tmp t =>
        simp only [Mini.rho]
        rw [if_pos]
        exact Classical.byContradiction fun hn => hx ⟨t, rfl, hn⟩
      | _ => rfl
    rw [e]
    unfold okA at hok
    split at hok <;> try (cases hok; done)
    · rename_i t j
      simp only [Bool.and_eq_true, beq_iff_eq, Cx.k] at hok
      obtain ⟨⟨h1, h2⟩, h3⟩ := hok
      simp only [look, nth_tsOf, Act.eval]
      rw [if_pos (of_decide_eq_true h1)]
      exact h.vals _ t (hr _ h3) h2
    · rename_i t j
      simp only [Bool.and_eq_true, beq_iff_eq, Bool.not_eq_true', Cx.k] at hok
      obtain ⟨h1, h2⟩ := hok
      simp only [look, Act.eval]
      have hno : ¬ some t ∈ X.raw.take i := fun hm => by
        rw [← List.contains_iff_mem] at hm
        rw [hm] at h2
        cases h2
      have hop : .tmp t ∈ o.op.operands := Classical.byContradiction fun hn => hx ⟨t, rfl, fun h => h.elim hn hno⟩
      refine h.rg j t h1 fun k hk hrk => ?_
      rcases (hX.one i o p ho hpi).reads t hop k (raw_lt hrk) with e | e | e | e
      · subst e; exact hS hk
      · exact e hrk
      · have hlt := ah_lt e
        refine hno ?_
        rw [List.mem_iff_getElem?]
        exact ⟨k, by rw [List.getElem?_take, if_pos hlt]; exact hrk⟩
      · exact hS (hcl _ _ e hk)
    · simp only [look, Act.eval]; exact okV_rel hok
    · rename_i g b'
      simp only [beq_iff_eq] at hok
      subst hok
      simp only [look, Act.eval]
      split
      · rename_i cs hg
        rw [relV_d]
        exact RelD.mono h.fr.ext.imm (hG _ _ hg).1
      · exact relV_any
    · rename_i f f'
      simp only [beq_iff_eq] at hok
      subst hok
      simp only [look, Act.eval]
      rw [relV_d]
      simp only [RelD]
      exact ⟨#[], #[], rfl, RelDs.nil _ _, rfl, RelDs.nil _ _, rfl⟩

theorem Inv.stepQ (h : Inv X regs val hp M0 w0 d0 S c M a w) (hX : Rg X E regs val hp) (hE : EnvOk X.P E) (hG : GlobOk E.glob M0.imm) {a0 : Act} (h0 : RelRegs M0 X.tm regs a0.tmps) {i : Nat} {o : Oper} {p : Gp} (ho : X.ops[i]? = some o) (hpi : X.ps[i]? = some p) (hS : ¬ S i)
    (hcl : ∀ i j, X.ah i j = true → S j → S i) (hr : ∀ j, X.ah j i = true → S j) (he : p.op.eff = false) {Q : Exit → Act → World → Prop} {K : Act → World → Prop}
    (hK : ∀ c' M' a' w', Inv X regs val hp M0 w0 d0 (fun j => S j ∨ j = i) c' M' a' w' → K a' w') : wpOpIn (rnd rd) 0 X.P X.ops.toArray Q i K a w := by
  have hone := hX.one i o p ho hpi
  have hin := ps_lt hX hpi
  have hdf : ∀ c, o.op ≠ .defer c := hone.dfr
  have hran := hX.ran i p hpi
  have hcS' : ∀ e q, e < c → X.ps[e]? = some q → q.op.eff = true → S e ∨ e = i := fun e q h1 h2 h3 => .inl (h.cS e q h1 h2 h3)
  have hcN' : ∀ q, X.ps[c]? = some q → q.op.eff = true ∧ ¬ S c ∧ c ≠ i := fun q hq => by
    obtain ⟨k1, k2⟩ := h.cN q hq
    refine ⟨k1, k2, fun e => ?_⟩
    subst e
    rw [hpi] at hq
    cases hq
    rw [he] at k1
    cases k1
  have hA : ∀ x b, okA (X.k i) x b = true → RelV M (look E regs (tsOf val i) b) (Mini.rho X i o a a0 x) := fun x b hok => h.rho hX hG h0 ho hpi hS hcl hr hok
  have hexec : execOp a.eval o = execOp (Mini.rho X i o a a0) o := execOp_congr o hone.sel fun x hx => (rho_eq hx).symm
  have hkeep0 := fun (n : List Ob) (hn : n = []) => h.todo_keep (M' := M) hX hcl hpi hS he (n := n) (fun e => absurd hn e) (fun _ _ => rfl)
  rcases hran with ⟨hw, hv, hh⟩ | ⟨hw, hst⟩
  · -- left out
    have hnone : p.guard ≠ none := fun e => by rw [e] at hw; cases hw
    have hini : ∀ m b, p.op ≠ .ini m b := fun m b e => by
      obtain ⟨_, _, _, _, _, _, _, _, _, _, _, hg, _⟩ := hone.ini m b e
      cases hpg : p.guard with
      | none => exact hnone hpg
      | some gb => obtain ⟨g, b'⟩ := gb; have := (hone.guard1 g b' hpg).1; rw [hg] at this; cases this
    have hnp : ∀ k, partner X.ops X.ps k ≠ some i := fun k hk => by
      obtain ⟨o1, p1, t1, T, y, m, b, o2, p2, q1, q2, q3, q4, q5, q6, q7, q8, q9⟩ := partner_spec hk
      obtain ⟨j', t', x', y', o'', t'', r1, r2, r3, r4, r5, r6, r7, r8, r9, r10, r11, r12, r13⟩ := (hX.one k o1 p1 q1 q2).ini m b q4
      rw [hk] at r1
      cases r1
      rw [ho] at r9
      cases r9
      cases hpg : p.guard with
      | none => exact hnone hpg
      | some gb => obtain ⟨g, b'⟩ := gb; have := (hone.guard1 g b' hpg).1; rw [r13] at this; cases this
    refine wpOp_skip ho (h.wanted hX ho hpi hr hw) (hK c M _ _ (h.plain hX ho hpi hS hcl hnp hini h.sat (Fr.refl M w).toX h.cle hcS' hcN' ?_ (hkeep0 [] rfl)))
    rw [hv, relV_tup]
    exact ⟨#[], rfl, rfl, RelVs.nil _ _⟩
  · have hwant := h.wanted hX ho hpi hr hw
    cases hap : p.op.apartOnes with
    | false =>
      -- the most
      have hvl : isVal p.op = false := by cases hop : p.op <;> rw [hop] at hap <;> simp [O.apartOnes] at hap <;> rfl
      have hini : ∀ m b, p.op ≠ .ini m b := fun m b e => by rw [e] at hap; cases hap
      have hnp : ∀ k, partner X.ops X.ps k ≠ some i := fun k hk => by
        obtain ⟨o1, p1, t1, T, y, m, b, o2, p2, q1, q2, q3, q4, q5, q6, q7, q8, q9⟩ := partner_spec hk
        rw [hpi] at q6
        cases q6
        rw [q8] at hap
        cases hap
      have hsq := hst
      rw [step_quiet he hvl] at hsq
      simp only [Option.map_eq_some_iff, Prod.mk.injEq] at hsq
      obtain ⟨⟨v, n⟩, hsp, hv, hh⟩ := hsq
      simp only at hv hh
      subst hv
      have hcN := h.cle
      have hstill := fun (h1 : noHeap p.op = false) (h2 : ∀ g m b, p.op ≠ .ld g m b) => h.still hX hcl hpi hS he h1 h2
      have hpush : n ≠ [] → i < c ∧ (hp i).length < (hp (i + 1)).length ∧ noHeap p.op = false ∧ ∀ g m b, p.op ≠ .ld g m b := by
        intro hn
        rcases stepP_news hsp with e | ⟨_, k1, k2⟩
        · exact absurd e hn
        · refine ⟨h.before hX hpi hr he k1 k2, ?_, k1, k2⟩
          rw [← hh, List.length_append]
          have := List.length_pos_iff.2 hn
          omega
      have hdid := a_all (X := fun _ => False) (o := o) h.sat (lk := look E regs (tsOf val i)) (ρ := Mini.rho X i o a a0) (Hi := hp i) (v := val i) (n := n) (k := X.k i) (p := p.op) ?_ ?_ hA (fun x => rfl) (hone.body hini) he hap hsp ?_ ?_
      · obtain ⟨nx, w', M', d1, d2, d3, d4, d5⟩ := hdid
        have hinv : ∀ v', RelV M' (val i) v' → Inv X regs val hp M0 w0 d0 (fun j => S j ∨ j = i) c M' (a.put o.dst v') w' := fun v' hv' =>
          h.plain hX ho hpi hS hcl hnp hini d3 d4 h.cle hcS' hcN' hv' (h.todo_keep hX hcl hpi hS he hpush d5)
        refine wpOp_did hdf ho hwant (by rw [hexec]; exact d1) ?_
        rcases d2 with ⟨v', rfl, hv'⟩ | ⟨rfl, hv'⟩
        · exact .inl ⟨v', rfl, hK _ _ _ _ (hinv v' hv')⟩
        · exact .inr ⟨rfl, hK _ _ _ _ (hinv undef (by rw [hv']; exact relV_any))⟩
      · intro h1 h2
        have hic := h.before hX hpi hr he h1 h2
        exact (wides hX c i (by omega) hcN (hstill h1 h2)).sub
      · intro g m b hop id gen off hlk q hq
        have hok := hone.body hini
        rw [hop] at hok
        obtain ⟨t, y, hop2, hoky⟩ : ∃ t y, o.op = .load t y ∧ okA (X.k i) y b = true := by
          cases ho2 : o.op <;> simp only [okOp, ho2] at hok <;> try (cases hok; done)
          simp only [Bool.and_eq_true] at hok
          exact ⟨_, _, rfl, hok.1.2⟩
        have hrel := hA _ _ hoky
        rw [hlk, relV_c] at hrel
        simp only [RelC] at hrel
        have hidn : id < (hp c).length := by have := h.sat.n; omega
        have hstore : ∀ e q, (c ≤ e ∨ i ≤ e) → (e < c ∨ e < i) → X.ps[e]? = some q → q.op.eff = true → (∃ m x y, q.op = .st m x y ∧ (wants (tsOf val e) q.guard = some true → ∀ id' g off, look E regs (tsOf val e) x = .c (.ptr id' g off) → id' ≠ id)) ∨ ∀ o, ob? (hp e) id = some o → ∃ o', ob? (hp (e + 1)) id = some o' ∧ Same o o' := by
          intro e r h1 h2 hq hqe
          have hen := ps_lt hX hq
          obtain ⟨oe, hoe⟩ := ops_of hen
          have hei : e ≠ i := fun e' => by rw [e', hpi] at hq; cases hq; rw [he] at hqe; cases hqe
          have hinA : inAps X.ps X.n i e p.op r.op X.aps = true := by
            rcases (hX.one e oe r hoe hq).eff hqe i p hpi hin with k1 | k1 | k1 | k1 | k1
            · omega
            · rw [hop] at k1; cases k1
            · have := ah_lt k1
              rcases Nat.lt_or_ge e c with hec | hec
              · omega
              · exact absurd (hr _ k1) (h.ahead hX hcl hq hqe hec)
            · have := ah_lt k1
              rcases Nat.lt_or_ge e c with hec | hec
              · exact absurd (hcl _ _ k1 (h.cS e r hec hq hqe)) hS
              · omega
            · exact k1
          obtain ⟨g', m', b', hld, hcase⟩ := inAps_spec hX (by omega) (by omega) hinA
          rw [hop] at hld
          cases hld
          rcases hcase with ⟨m2, x, y, hst2, hap2⟩ | hkeep
          case inr => exact .inr (hkeep id gen off hlk e r hq rfl)
          refine .inl ⟨m2, x, y, hst2, fun _ id' g off hx => ?_⟩
          rw [hlk, hx] at hap2
          simp only [apart, bne_iff_ne, ne_eq] at hap2
          exact fun e => hap2 e.symm
        rcases Nat.lt_or_ge c i with hci | hci
        · cases hob : ob? (hp c) id with
          | none => rw [ob?_eq, List.getElem?_eq_none_iff] at hob; omega
          | some q' =>
            obtain ⟨q2, h1, h2⟩ := obs_same hX id i c (by omega) (by omega) (fun e r h1 h2 => hstore e r (.inl h1) (.inr h2)) q' hob
            rw [hq] at h1
            cases h1
            exact ⟨q', rfl, h2.symm⟩
        · exact obs_same hX id c i hci hcN (fun e r h1 h2 => hstore e r (.inr h1) (.inl h2)) q hq
      · intro cs g fz hn
        obtain ⟨hic, hlt, k1, k2⟩ := hpush (by rw [hn]; simp)
        have hw1 := wides hX c (i + 1) (by omega) hcN (fun e r h1 h2 => hstill k1 k2 e r (by omega) h2)
        have hfz : g = 0 ∧ fz = false := by
          rcases stepP_news hsp with e | ⟨⟨cs', e⟩ | ⟨cap, e⟩, _⟩
          · rw [e] at hn; cases hn
          · rw [e] at hn; cases hn; exact ⟨rfl, rfl⟩
          · rw [e] at hn; cases hn
        obtain ⟨rfl, rfl⟩ := hfz
        have hob : ob? (hp (i + 1)) (hp i).length = some (.cells cs 0 false) := by
          rw [← hh, hn, ob?_eq, List.getElem?_append_right (Nat.le_refl _), Nat.sub_self]
          rfl
        obtain ⟨o', h1, h2⟩ := hw1.ob _ _ hob
        refine ⟨?_, h.todo i hic hS hlt⟩
        cases o' <;> simp only [Frz] at h2 <;> try (cases h2; done)
        obtain ⟨rfl, rfl, _⟩ := h2
        exact ⟨_, h1⟩
      · intro cap hn
        obtain ⟨hic, hlt, k1, k2⟩ := hpush (by rw [hn]; simp)
        have hw1 := wides hX c (i + 1) (by omega) hcN (fun e r h1 h2 => hstill k1 k2 e r (by omega) h2)
        have hob : ob? (hp (i + 1)) (hp i).length = some (.chn cap []) := by
          rw [← hh, hn, ob?_eq, List.getElem?_append_right (Nat.le_refl _), Nat.sub_self]
          rfl
        obtain ⟨o', h1, h2⟩ := hw1.ob _ _ hob
        refine ⟨?_, h.todo i hic hS hlt⟩
        cases o' <;> simp only [Frz] at h2 <;> try (cases h2; done)
        rw [h1, ← h2]
    | true =>
      have hnoev : ∀ (v' : Value) (w' : World) (M' : MM), (∀ m b, p.op ≠ .ini m b) → p.op ≠ .pre → Sat X.P M' (hp c) 0 w' → Fr M M' w w' → M'.loc = M.loc → RelV M' (val i) v' →
          Inv X regs val hp M0 w0 d0 (fun j => S j ∨ j = i) c M' (a.put o.dst v') w' := by
        intro v' w' M' hini hpre hs hf hl hv
        have hnp : ∀ k, partner X.ops X.ps k ≠ some i := fun k hk => by
          obtain ⟨o1, p1, t1, T, y, m, b, o2, p2, q1, q2, q3, q4, q5, q6, q7, q8, q9⟩ := partner_spec hk
          rw [hpi] at q6
          cases q6
          exact hpre q8
        exact h.plain hX ho hpi hS hcl hnp hini hs hf.toX h.cle hcS' hcN' hv (h.todo_keep hX hcl hpi hS he (n := []) (fun e => absurd rfl e) (fun _ _ => by rw [hl]))
      -- a call by value
      have hval : ∀ (f : FuncId) (args : List A) (F : List V → Option V), (∀ vs r, F vs = some r → Enters X.P f ∧ ValCall X.P E.glob f vs r) → noHeap p.op = false → (∀ g m b, p.op ≠ .ld g m b) → (∀ m b, p.op ≠ .ini m b) → p.op ≠ .pre →
          (∃ cl, o.op = .call cl ∧ cl.callee = .value (.func f) ∧ okAs (X.k i) cl.args.toList args = true) → byValue F (look E regs (tsOf val i)) (hp i) args = some (val i, hp (i + 1)) → wpOpIn (rnd rd) 0 X.P X.ops.toArray Q i K a w := by
        rintro f args F hF h1 h2 h3 h4 ⟨cl, hop, hcal, hargs⟩ hby
        have hic := h.before hX hpi hr he h1 h2
        have hstill := h.still hX hcl hpi hS he h1 h2
        obtain ⟨hm, hlen⟩ := mapA hA hargs
        have hent : Enters X.P f := by
          unfold byValue at hby
          split at hby <;> try (cases hby; done)
          split at hby <;> try (cases hby; done)
          rename_i r hr
          exact (hF _ _ hr).1
        have hrun := run_enter (w := w) (ρ := Mini.rho X i o a a0) hop hcal (first := #[]) (caps := #[]) rfl hent
        have hargs' : #[] ++ cl.args.map (Mini.rho X i o a a0) ++ #[] = (cl.args.toList.map (Mini.rho X i o a a0)).toArray := by apply Array.ext'; simp
        rw [hargs'] at hrun
        have hcall := vcall_step (hG.mono h.fr.ext.imm) (P := X.P) (fid := f) h.sat ((wides hX c i (by omega) h.cle hstill).sub) hby (fun vs r hr => (hF vs r hr).2) hm (by simpa using hlen.symm)
          (wides hX c (i + 1) (by omega) h.cle (fun e r h1 h2 => hstill e r (by omega) h2))
        refine wpOp_call hdf ho hwant (by rw [hexec]; exact hrun) (hcall.mono fun e w' hh => ?_)
        obtain ⟨v', M', rfl, d1, d2, d3, d4⟩ := hh
        exact ⟨v', rfl, hK _ _ _ _ (hnoev v' w' M' h3 h4 d2 d3 d4 d1)⟩
      cases hop : p.op <;> rw [hop] at hap <;> simp [O.apartOnes] at hap
      · -- pre
        have hok := hone.body (fun m b e => by rw [hop] at e; cases e)
        rw [hop] at hok hst
        obtain ⟨t, vs, ho2, hz, v', w', d1, d2, d3, d4⟩ := a_pre (ρ := Mini.rho X i o a a0) h.sat hok
        rw [step_quiet rfl rfl] at hst
        simp only [stepP, Option.map_some, Option.some.injEq, Prod.mk.injEq, List.append_nil] at hst
        refine wpOp_did hdf ho hwant (by rw [hexec]; exact d1) (.inl ⟨v', rfl, hK c M _ _ ?_⟩)
        have hB : w.heap.size < w'.heap.size := by
          obtain ⟨_, ⟨arr, T, fr, e1, _⟩, _⟩ := d4
          exact (Array.getElem?_eq_some_iff.1 e1).1
        have far : ∀ j k t, partner X.ops X.ps k = some j → X.raw[j]? = some (some t) → S j → (a.put o.dst v').tmps.getD t undef = a.tmps.getD t undef := by
          intro j k t hk hrj hj
          exact getD_put_ne fun hd => by
            have := raw_inj hX hrj (by rw [raw_at ho, hd])
            subst this
            exact hS hj
        have here : ∀ k t, partner X.ops X.ps k = some i → X.raw[i]? = some (some t) → (a.put o.dst v').tmps.getD t undef = v' := by
          intro k t _ hri
          rw [raw_at ho, Option.some.injEq] at hri
          rw [hri]
          exact getD_put_same (by rw [h.size]; exact (hone.dst t hri).1)
        refine h.upd hX ho hS hcl d2 (d3 (fun _ => False)) (fun _ h => h.elim) h.cle hcS' hcN' ?_ (hkeep0 [] rfl) ?_ ?_
        · intro t' ht
          rw [← hst.1]
          exact relV_any
        · intro j k hk hj hnk hki
          obtain ⟨o1, p1, t1, T, y, m, b, o2, p2, q1, q2, q3, q4, q5, q6, q7, q8, q9⟩ := partner_spec hk
          by_cases hji : j = i
          · subst hji
            rw [ho] at q5
            cases q5
            obtain ⟨j', t', x', y', o'', t'', r1, r2, r3, r4, r5, r6, r7, r8, r9, r10, r11, r12, r13⟩ := (hX.one k o1 p1 q1 q2).ini m b q4
            rw [hk] at r1
            cases r1
            rw [ho] at r9
            cases r9
            rw [ho2] at r10
            cases r10
            have hri : X.raw[j]? = some (some t1) := by rw [raw_at ho, q7]
            refine ⟨t1, m, b, p1, w.heap.size, hri, q2, q4, ?_, h.fr.size⟩
            rw [here k t1 hk hri]
            have := r12 vs hz
            rw [← this]
            exact d4
          · have hSj := hj.resolve_right hji
            obtain ⟨t2, m2, a2, q, B, e1, e2, e3, e4, e5⟩ := h.pend j k hk hSj hnk
            exact ⟨t2, m2, a2, q, B, e1, e2, e3, by rw [far j k t2 hk e1 hSj]; exact e4.keep (d3 (fun _ => False)) (fun h => h), e5⟩
        · intro j k j' k' t1 t2 h1 h2 h3 h4 h5 h6 h7 h8 h9 h10 h11
          have old : ∀ j k t, partner X.ops X.ps k = some j → S j → ¬ S k → X.raw[j]? = some (some t) → a.tmps.getD t undef ≠ v' := by
            intro j k t hk hSj hnk hrj heq
            obtain ⟨t2, m2, a2, q, B, e1, e2, e3, e4, e5⟩ := h.pend j k hk hSj hnk
            rw [hrj] at e1
            cases e1
            rw [heq] at e4
            obtain ⟨f1, ⟨arr, T, fr, f2, _⟩, _⟩ := e4
            obtain ⟨g1, _⟩ := d4
            rw [f1] at g1
            simp only [Value.pointer.injEq, Option.some.injEq, Addr.mk.injEq] at g1
            have := (Array.getElem?_eq_some_iff.1 f2).1
            omega
          by_cases hji : j = i
          · by_cases hji' : j' = i
            · rw [hji, hji']
            · subst hji
              rw [here k t1 h1 h9, far j' k' t2 h2 h10 (h4.resolve_right hji')] at h11
              exact absurd h11.symm (old j' k' t2 h2 (h4.resolve_right hji') h7 h10)
          · by_cases hji' : j' = i
            · subst hji'
              rw [here k' t2 h2 h10, far j k t1 h1 h9 (h3.resolve_right hji)] at h11
              exact absurd h11 (old j k t1 h1 (h3.resolve_right hji) h5 h9)
            · rw [far j k t1 h1 h9 (h3.resolve_right hji), far j' k' t2 h2 h10 (h4.resolve_right hji')] at h11
              exact h.pinj j k j' k' t1 t2 h1 h2 (h3.resolve_right hji) (h4.resolve_right hji') h5 h7 h9 h10 h11
      · -- ini
        rename_i m b
        obtain ⟨j, t, x, y, o', t', r1, r2, r3, r4, r5, r6, r7, r8, r9, r10, r11, r12, r13⟩ := hone.ini m b hop
        obtain ⟨o1, p1, t1, T, y1, m1, b1, o2, p2, q1, q2, q3, q4, q5, q6, q7, q8, q9⟩ := partner_spec r1
        rw [ho] at q1
        cases q1
        rw [hpi] at q2
        cases q2
        rw [r3] at q3
        cases q3
        rw [hop] at q4
        cases q4
        rw [r9] at q5
        cases q5
        have hSj := hr j r7
        have hnoH : noHeap p.op = false := by rw [hop]; rfl
        have hnold : ∀ g m b, p.op ≠ .ld g m b := fun g m b e => by rw [hop] at e; cases e
        have hic := h.before hX hpi hr he hnoH hnold
        have hstill := h.still hX hcl hpi hS he hnoH hnold
        obtain ⟨t2, m2, a2, q, B, e1, e2, e3, e4, e5⟩ := h.pend j i r1 hSj hS
        rw [hpi] at e2
        cases e2
        rw [hop] at e3
        cases e3
        have hrj : X.raw[j]? = some (some t1) := by rw [raw_at r9, q7]
        rw [hrj] at e1
        cases e1
        rw [hop, step_quiet rfl rfl] at hst
        simp only [Option.map_eq_some_iff, Prod.mk.injEq] at hst
        obtain ⟨⟨v, n⟩, hsp, hv, hh⟩ := hst
        simp only at hv hh
        subst hv
        have hne : n ≠ [] := by
          intro e
          subst e
          simp only [stepP] at hsp
          (repeat' split at hsp) <;> simp at hsp
        have hlt : (hp i).length < (hp (i + 1)).length := by
          rw [← hh, List.length_append]
          have := List.length_pos_iff.2 hne
          omega
        have hx1 : Mini.rho X i o a a0 (.tmp t1) = a.tmps.getD t1 undef := by
          rw [rho_eq (by rw [r3]; simp [Op.operands])]
          rfl
        have hdid := a_ini (o := o) (B := B) (v := val i) (n := n) h.sat hA r3 r5 r4 (by rw [hx1]; exact e4) hsp ?_
        · obtain ⟨w', M', d1, d2, d3, d4, d5⟩ := hdid
          refine wpOp_did hdf ho hwant (by rw [hexec]; exact d1) (.inr ⟨rfl, hK c M' _ _ ?_⟩)
          have far : ∀ j2 k2 t, partner X.ops X.ps k2 = some j2 → X.raw[j2]? = some (some t) → (a.put o.dst undef).tmps.getD t undef = a.tmps.getD t undef := by
            intro j2 k2 t hk hrj
            exact getD_put_ne fun hd => by
              have := raw_inj hX hrj (by rw [raw_at ho, hd])
              subst this
              obtain ⟨_, _, _, _, _, _, _, _, p3, _, _, _, _, _, s6, _, s8, _⟩ := partner_spec hk
              rw [hpi] at s6
              cases s6
              rw [hop] at s8
              cases s8
          have hji : ∀ j2 k2, partner X.ops X.ps k2 = some j2 → j2 ≠ i := by
            intro j2 k2 hk e
            subst e
            obtain ⟨_, _, _, _, _, _, _, _, p3, _, _, _, _, _, s6, _, s8, _⟩ := partner_spec hk
            rw [hpi] at s6
            cases s6
            rw [hop] at s8
            cases s8
          refine h.upd hX ho hS hcl d3 d4 (fun b hb => by rw [hb]; exact e5) h.cle hcS' hcN' ?_ ?_ ?_ ?_
          · intro t3 ht
            rcases loc_spec ht with ⟨o3, ho3, hd3, _⟩ | ⟨j3, o3, hj3, ho3, hd3⟩
            · -- the store has no place of its own
              exfalso
              have hl : X.loc[i]? = some (some t1) := by
                simp only [Cx.loc, List.getElem?_map, List.getElem?_range hin, Option.map_some, locOf, ho, hpi, hop, r1, r9, q7]
              rw [ht] at hl
              cases hl
              rw [ho] at ho3
              cases ho3
              have := raw_inj hX hrj (by rw [raw_at ho, hd3])
              omega
            · rw [r1] at hj3
              cases hj3
              rw [r9] at ho3
              cases ho3
              rw [q7] at hd3
              cases hd3
              rw [far j i t1 r1 hrj, ← hx1]
              exact d2
          · exact h.todo_keep hX hcl hpi hS he (n := n) (fun _ => ⟨hic, hlt, hnoH, hnold⟩) (fun id hid => d5 id (fun e => hid ⟨hne, e⟩))
          · intro j2 k2 hk hj hnk hki
            have hSj2 := hj.resolve_right (hji j2 k2 hk)
            obtain ⟨t5, m5, a5, q5', B5, g1, g2, g3, g4, g5⟩ := h.pend j2 k2 hk hSj2 hnk
            refine ⟨t5, m5, a5, q5', B5, g1, g2, g3, ?_, g5⟩
            rw [far j2 k2 t5 hk g1]
            refine g4.keep d4 (fun hB => ?_)
            subst hB
            have hjj := h.pinj j i j2 k2 t1 t5 r1 hk hSj hSj2 hS hnk hrj g1 (by rw [e4.1, g4.1])
            subst hjj
            obtain ⟨_, _, _, _, _, _, _, _, _, _, s2, _⟩ := partner_spec hk
            exact hki (r8 k2 (ps_lt hX s2) hk)
          · intro j1 k1 j2 k2 t1' t2' h1 h2 h3 h4 h5 h6 h7 h8 h9 h10 h11
            rw [far j1 k1 t1' h1 h9, far j2 k2 t2' h2 h10] at h11
            exact h.pinj j1 k1 j2 k2 t1' t2' h1 h2 (h3.resolve_right (hji j1 k1 h1)) (h4.resolve_right (hji j2 k2 h2)) h5 h7 h9 h10 h11
        · intro cs g fz hn
          have hw1 := wides hX c (i + 1) (by omega) h.cle (fun e r h1 h2 => hstill e r (by omega) h2)
          have hfz : g = 0 ∧ fz = false := by
            rcases stepP_news hsp with e | ⟨⟨cs', e⟩ | ⟨cap, e⟩, _⟩
            · rw [e] at hn; cases hn
            · rw [e] at hn; cases hn; exact ⟨rfl, rfl⟩
            · rw [e] at hn; cases hn
          obtain ⟨rfl, rfl⟩ := hfz
          have hob : ob? (hp (i + 1)) (hp i).length = some (.cells cs 0 false) := by
            rw [← hh, hn, ob?_eq, List.getElem?_append_right (Nat.le_refl _), Nat.sub_self]
            rfl
          obtain ⟨o', h1, h2⟩ := hw1.ob _ _ hob
          refine ⟨?_, h.todo i hic hS hlt⟩
          cases o' <;> simp only [Frz] at h2 <;> try (cases h2; done)
          obtain ⟨rfl, rfl, _⟩ := h2
          exact ⟨_, h1⟩
      · -- a call of a function of ours
        rename_i f args
        have hok := hone.body (fun m b e => by rw [hop] at e; cases e)
        rw [hop] at hok hst
        refine hval f args (E.vcall f) (hE.vcall f) (by rw [hop]; rfl) (fun g m b e => by rw [hop] at e; cases e) (fun m b e => by rw [hop] at e; cases e) (fun e => by rw [hop] at e; cases e) ?_ hst
        cases ho2 : o.op <;> simp only [okOp, ho2] at hok <;> try (cases hok; done)
        simp only [Bool.and_eq_true] at hok
        obtain ⟨h1, h2⟩ := hok
        split at h1 <;> try (cases h1; done)
        rename_i f' hc
        simp only [beq_iff_eq] at h1
        subst h1
        exact ⟨_, rfl, hc, h2⟩
      · -- a call of a function from the shelf
        rename_i f args
        have hok := hone.body (fun m b e => by rw [hop] at e; cases e)
        rw [hop] at hok hst
        refine hval f args (E.prim f) (hE.prim f) (by rw [hop]; rfl) (fun g m b e => by rw [hop] at e; cases e) (fun m b e => by rw [hop] at e; cases e) (fun e => by rw [hop] at e; cases e) ?_ hst
        cases ho2 : o.op <;> simp only [okOp, ho2] at hok <;> try (cases hok; done)
        simp only [Bool.and_eq_true] at hok
        obtain ⟨h1, h2⟩ := hok
        split at h1 <;> try (cases h1; done)
        rename_i f' hc
        simp only [beq_iff_eq] at h1
        subst h1
        exact ⟨_, rfl, hc, h2⟩
end
end Mini
end Go.Proofs.YtmcgaakbkgdljaaGreatDoor
