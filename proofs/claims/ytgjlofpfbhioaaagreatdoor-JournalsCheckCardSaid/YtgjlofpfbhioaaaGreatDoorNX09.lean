/-
  JournalsCheck: texts of the proof, part 10.
-/
import Derived.Test.YtgjlofpfbhioaaaGreatDoorNX08
import Derived.TacticsIn
namespace Go.Proofs.YtgjlofpfbhioaaaGreatDoor
namespace Mini
open Go
theorem Same.symm {a b : Ob} (h : Same a b) : Same b a := by
  cases a <;> cases b <;> simp_all [Same]
def isVal : O → Bool
  | .vc .. | .pc .. => true
  | _ => false
section
variable {X : Cx} {E : Env} {regs : List V} {val : Nat → V} {hp : Nat → Heap} {M0 M M' : MM} {w0 w w' : World} {d0 : List Deferred} {S : Nat → Prop} {c : Nat} {a : Act} {rd : Option Nat}
theorem step_quiet {lk : A → V} {H : Heap} {p : O} (h : p.eff = false) (hv : isVal p = false) : step E lk H p = (stepP lk H p).map fun x => (x.1, H ++ x.2) := by
  cases p <;> simp [O.eff] at h <;> simp [isVal] at hv <;> rfl
theorem step_eff {lk : A → V} {H : Heap} {p : O} (h : p.eff = true) : step E lk H p = stepE E lk H p := by
  cases p <;> simp [O.eff] at h <;> rfl
theorem wide_append (H n : Heap) : Wide H (H ++ n) := ⟨by simp, fun id o ho => ⟨o, by rw [ob?_eq] at ho ⊢; rw [List.getElem?_append_left (List.getElem?_eq_some_iff.1 ho).1]; exact ho, Frz.refl o⟩⟩
theorem byValue_wide {f : List V → Option V} {lk : A → V} {H H1 : Heap} {args : List A} {r : V} (h : byValue f lk H args = some (r, H1)) : Wide H H1 ∧ H1.length = H.length := by
  unfold byValue at h
  split at h <;> try (cases h; done)
  split at h <;> try (cases h; done)
  simp only [Option.some.injEq, Prod.mk.injEq] at h
  obtain ⟨rfl, rfl⟩ := h
  split
  · exact ⟨Wide.refl _, rfl⟩
  · exact ⟨freeze_wide _ _, freeze_length _ _⟩
theorem ran_wide {i : Nat} {p : Gp} (h : Ran1 E regs val hp i p) (he : p.op.eff = false) : Wide (hp i) (hp (i + 1)) := by
  rcases h with ⟨_, _, h⟩ | ⟨_, h⟩
  · rw [h]; exact Wide.refl _
  · by_cases hv : isVal p.op = true
    · cases hop : p.op <;> rw [hop] at hv h <;> simp [isVal] at hv
      · exact (byValue_wide h).1
      · exact (byValue_wide h).1
    · rw [step_quiet he (by simpa using hv)] at h
      simp only [Option.map_eq_some_iff, Prod.mk.injEq] at h
      obtain ⟨⟨v, n⟩, _, _, h⟩ := h
      rw [← h]
      exact wide_append _ _
theorem push_kind {i : Nat} {p : Gp} (h : Ran1 E regs val hp i p) (he : p.op.eff = false) (hl : (hp i).length < (hp (i + 1)).length) : noHeap p.op = false ∧ ∀ g m b, p.op ≠ .ld g m b := by
  rcases h with ⟨_, _, h⟩ | ⟨_, h⟩
  · rw [h] at hl; omega
  · by_cases hv : isVal p.op = true
    · cases hop : p.op <;> rw [hop] at hv h <;> simp [isVal] at hv
      · have := (byValue_wide h).2; omega
      · have := (byValue_wide h).2; omega
    · rw [step_quiet he (by simpa using hv)] at h
      simp only [Option.map_eq_some_iff, Prod.mk.injEq] at h
      obtain ⟨⟨v, n⟩, h1, _, h⟩ := h
      rcases stepP_news h1 with rfl | h2
      · simp only [List.append_nil] at h; rw [h] at hl; omega
      · exact h2.2
theorem wides (hX : Rg X E regs val hp) : ∀ (b a : Nat), a ≤ b → b ≤ X.n → (∀ e p, a ≤ e → e < b → X.ps[e]? = some p → p.op.eff = false) → Wide (hp a) (hp b)
  | 0, a, h, _, _ => by have : a = 0 := by omega
                        subst this; exact Wide.refl _
  | b + 1, a, h, hb, hn => by
    rcases Nat.eq_or_lt_of_le h with rfl | h
    · exact Wide.refl _
    · obtain ⟨p, hp'⟩ := ps_of hX (show b < X.n by omega)
      exact (wides hX b a (by omega) (by omega) (fun e p h1 h2 => hn e p h1 (by omega))).trans (ran_wide (hX.ran b p hp') (hn b p (by omega) (by omega) hp'))
theorem nextEff (hX : Rg X E regs val hp) : ∀ (d c : Nat), c + d = X.n → ∃ c', c ≤ c' ∧ c' ≤ X.n ∧ (∀ e p, c ≤ e → e < c' → X.ps[e]? = some p → p.op.eff = false) ∧ ∀ p, X.ps[c']? = some p → p.op.eff = true
  | 0, c, h => ⟨c, Nat.le_refl _, by omega, fun e p h1 h2 => by omega, fun p hp => by have := ps_lt hX hp; omega⟩
  | d + 1, c, h => by
    obtain ⟨p, hp'⟩ := ps_of hX (show c < X.n by omega)
    by_cases he : p.op.eff = true
    · exact ⟨c, Nat.le_refl _, by omega, fun e p h1 h2 => by omega, fun q hq => by rw [hp'] at hq; cases hq; exact he⟩
    · obtain ⟨c', h1, h2, h3, h4⟩ := nextEff hX d (c + 1) (by omega)
      refine ⟨c', by omega, h2, fun e q h5 h6 hq => ?_, h4⟩
      rcases Nat.eq_or_lt_of_le h5 with rfl | h5
      · rw [hp'] at hq; cases hq; simpa using he
      · exact h3 e q h5 h6 hq
theorem obs_same (hX : Rg X E regs val hp) (id : Nat) : ∀ (b a : Nat), a ≤ b → b ≤ X.n →
    (∀ e p, a ≤ e → e < b → X.ps[e]? = some p → p.op.eff = true → ∃ m x y, p.op = .st m x y ∧ (wants (tsOf val e) p.guard = some true → ∀ id' g off, look E regs (tsOf val e) x = .c (.ptr id' g off) → id' ≠ id)) →
    ∀ o, ob? (hp a) id = some o → ∃ o', ob? (hp b) id = some o' ∧ Same o o'
  | 0, a, h, _, _, o, ho => by
    have : a = 0 := by omega
    subst this; exact ⟨o, ho, Same.refl o⟩
  | b + 1, a, h, hb, hn, o, ho => by
    rcases Nat.eq_or_lt_of_le h with rfl | h
    · exact ⟨o, ho, Same.refl o⟩
    · obtain ⟨p, hp'⟩ := ps_of hX (show b < X.n by omega)
      obtain ⟨o1, h1, h2⟩ := obs_same hX id b a (by omega) (by omega) (fun e p h1 h2 => hn e p h1 (by omega)) o ho
      by_cases he : p.op.eff = true
      · obtain ⟨m, x, y, hop, hne⟩ := hn b p (by omega) (by omega) hp' he
        rcases hX.ran b p hp' with ⟨_, _, hr⟩ | ⟨hw, hr⟩
        · exact ⟨o1, by rw [hr]; exact h1, h2⟩
        · rw [step_eff he, hop] at hr
          simp only [stepE] at hr
          split at hr <;> try (cases hr; done)
          rename_i id' g off new hx hnew
          split at hr <;> try (cases hr; done)
          split at hr <;> try (cases hr; done)
          simp only [Option.some.injEq, Prod.mk.injEq] at hr
          rw [← hr.2]
          exact ⟨o1, by rw [ob?_setOb_ne (Ne.symm (hne hw id' g off hx))]; exact h1, h2⟩
      · obtain ⟨o2, h3, h4⟩ := (ran_wide (hX.ran b p hp') (by simpa using he)).ob id o1 h1
        exact ⟨o2, h3, h2.trans h4.same⟩
theorem look_atEnd {i n : Nat} (h : i ≤ n) (b : A) : look E regs (tsOf val n) (atEnd n i b) = look E regs (tsOf val i) b := by
  cases b with
  | l k =>
    simp only [atEnd, look, nth_tsOf]
    by_cases hk : k < i
    · rw [if_pos (by omega), if_pos hk]; congr 1; omega
    · rw [if_neg (by omega), if_neg hk]
  | _ => rfl
theorem eqA_look {ts : List V} {x y : A} (h : inAps.eqA x y = true) : look E regs ts x = look E regs ts y := by
  unfold inAps.eqA at h
  split at h <;> first | (simp only [beq_iff_eq] at h; subst h; rfl) | cases h
theorem inAps_spec (hX : Rg X E regs val hp) {i j : Nat} {p q : O} (hi : i ≤ X.n) (hj : j ≤ X.n) (h : inAps X.n i j p q X.aps = true) : ∃ g m b m' x y, p = .ld g m b ∧ q = .st m' x y ∧ apart (look E regs (tsOf val i) b) (look E regs (tsOf val j) x) = true := by
  unfold inAps at h
  split at h <;> try (cases h; done)
  rename_i g m b m' x y
  simp only [List.any_eq_true, Bool.and_eq_true] at h
  obtain ⟨z, hz, h1, h2⟩ := h
  have := hX.apt z hz
  rw [eqA_look h1, eqA_look h2, look_atEnd hi, look_atEnd hj] at this
  exact ⟨g, m, b, m', x, y, rfl, rfl, this⟩
theorem semAt_rnd {o : Oper} {ρ : Operand → Value} (h : ∀ c, o.op ≠ .defer c) : o.semAt (rnd rd).round ρ = execOp ρ o := by
  cases rd with
  | none => exact Oper.semAt_none ..
  | some l => exact Oper.semAt_some l _ _ h
theorem callsIn_rnd {P : Program} {f : FuncId} {args : Array Value} {n : Nat} {R : Ending → World → Prop} (h : Calls P f args w R) : CallsIn (rnd rd) n P f args w R := by
  have h' : CallsIn Fence.wide n P f args w R := callsIn_wide.2 h
  exact h'
theorem roundIn_rnd {P : Program} {l : Nat} {f : FuncId} {tmps : Array Value} {asg body : Code} {R : Ending → World → Prop} (h : RoundIn Fence.wide 0 P l f tmps asg body w R) : RoundIn (rnd rd) (0 - 1) P l f tmps asg body w R := h
theorem wpOp_did {Q : Exit → Act → World → Prop} {K : Act → World → Prop} {i : Nat} {o : Oper} {nx : Next} (hd : ∀ c, o.op ≠ .defer c) (ho : X.ops[i]? = some o) (hw : Region.wanted o (yielded X.ops.toArray a.tmps) = true) (hrun : (execOp a.eval o).run X.P w = .ok nx w')
    (hk : (∃ v', nx = .value v' ∧ K (a.put o.dst v') w') ∨ (nx = .skip ∧ K (a.put o.dst undef) w')) : wpOpIn (rnd rd) 0 X.P X.ops.toArray Q i K a w := by
  unfold wpOpIn
  simp only [List.getElem?_toArray, ho, hw, if_true]
  refine ⟨fun _ _ => trivial, ?_⟩
  rw [semAt_rnd hd, hrun]
  rcases hk with ⟨v', rfl, hk⟩ | ⟨rfl, hk⟩ <;> exact hk
theorem wpOp_call {Q : Exit → Act → World → Prop} {K : Act → World → Prop} {i : Nat} {o : Oper} {f : FuncId} {args : Array Value} (hd : ∀ c, o.op ≠ .defer c) (ho : X.ops[i]? = some o) (hw : Region.wanted o (yielded X.ops.toArray a.tmps) = true) (hrun : (execOp a.eval o).run X.P w = .ok (.enter f args) w)
    (hc : Calls X.P f args w fun e w' => ∃ v', e = .returned v' ∧ K (a.put o.dst v') w') : wpOpIn (rnd rd) 0 X.P X.ops.toArray Q i K a w := by
  unfold wpOpIn
  simp only [List.getElem?_toArray, ho, hw, if_true]
  refine ⟨fun _ _ => trivial, ?_⟩
  rw [semAt_rnd hd, hrun]
  refine ⟨fun h => by simp [rnd, Fence.wide] at h, ?_⟩
  refine callsIn_rnd (hc.mono fun e w' hh => ?_)
  obtain ⟨v', rfl, hk⟩ := hh
  exact hk
theorem wpOp_round {Q : Exit → Act → World → Prop} {K : Act → World → Prop} {i : Nat} {o : Oper} {l : Nat} {f : FuncId} {tmps : Array Value} {asg body : Code} (hd : ∀ c, o.op ≠ .defer c) (ho : X.ops[i]? = some o) (hw : Region.wanted o (yielded X.ops.toArray a.tmps) = true) (hrun : (execOp a.eval o).run X.P w = .ok (.round l f tmps asg body) w)
    (hc : RoundIn Fence.wide 0 X.P l f tmps asg body w fun e w' => ∃ v', e = .returned v' ∧ K (a.put o.dst v') w') : wpOpIn (rnd rd) 0 X.P X.ops.toArray Q i K a w := by
  unfold wpOpIn
  simp only [List.getElem?_toArray, ho, hw, if_true]
  refine ⟨fun _ _ => trivial, ?_⟩
  rw [semAt_rnd hd, hrun]
  refine ⟨fun h => by simp [rnd, Fence.wide] at h, ?_⟩
  refine roundIn_rnd (hc.mono fun e w' hh => ?_)
  obtain ⟨v', rfl, hk⟩ := hh
  exact hk
theorem wpOp_skip {Q : Exit → Act → World → Prop} {K : Act → World → Prop} {i : Nat} {o : Oper} (ho : X.ops[i]? = some o) (hw : Region.wanted o (yielded X.ops.toArray a.tmps) = false) (hk : K (a.put o.dst undef) w) : wpOpIn (rnd rd) 0 X.P X.ops.toArray Q i K a w := by
  unfold wpOpIn
  simp only [List.getElem?_toArray, ho, hw, Bool.false_eq_true, if_false]
  exact ⟨fun _ _ => trivial, hk⟩
theorem run_enter {P : Program} {ρ : Operand → Value} {o : Oper} {cl : Call} {g : Operand} {f : FuncId} {first caps : Array Value} (hop : o.op = .call cl) (hc : cl.callee = .value g) (hg : ρ g = .func (.func f) first caps) (hf : Enters P f) :
    (execOp ρ o).run P w = .ok (.enter f (first ++ cl.args.map ρ ++ caps)) w := by
  obtain ⟨fn, h1, h2, h3⟩ := hf
  simp only [execOp, hop, resolve, hc, hg, Deferred.ofValue, Sem.run_bind, Sem.run_pure, Result.andThen_ok, invoke, callFunc, run_program, h1, h2, Bool.false_eq_true, if_false, h3]
theorem run_round {P : Program} {ρ : Operand → Value} {o : Oper} {cl : Call} {g : Operand} {l : Nat} {nx : Next} (hop : o.op = .call cl) (hc : cl.callee = .value g) (hg : ρ g = .func (.yield l) #[] #[]) (hf : (Instr.yield l (cl.args.map ρ)).run P w = .ok nx w) :
    (execOp ρ o).run P w = .ok nx w := by
  simp [execOp, hop, resolve, hc, hg, Deferred.ofValue, invoke, hf]
theorem Inv.ahead (h : Inv X regs val hp M0 w0 d0 S c M a w) (hX : Rg X E regs val hp) (hcl : ∀ i j, X.ah i j = true → S j → S i) {e : Nat} {q : Gp} (he : X.ps[e]? = some q) (hq : q.op.eff = true) (hce : c ≤ e) : ¬ S e := by
  rcases Nat.eq_or_lt_of_le hce with rfl | hlt
  · exact (h.cN q he).2
  · intro hSe
    have hen := ps_lt hX he
    obtain ⟨pc, hpc⟩ := ps_of hX (show c < X.n by omega)
    obtain ⟨oe, hoe⟩ := ops_of hen
    obtain ⟨k1, k2⟩ := h.cN pc hpc
    rcases (hX.one e oe q hoe he).eff hq c pc hpc (by omega) with h1 | h1 | h1 | h1 | h1
    · omega
    · cases hop : pc.op <;> rw [hop] at k1 h1 <;> simp [O.eff] at k1 <;> simp [noHeap] at h1
    · have := ah_lt h1; omega
    · exact k2 (hcl _ _ h1 hSe)
    · obtain ⟨g, m, b, _, _, _, hld, _⟩ := inAps_spec hX (by omega) (by omega) h1
      rw [hld] at k1
      cases k1
theorem Inv.before (h : Inv X regs val hp M0 w0 d0 S c M a w) (hX : Rg X E regs val hp) {i : Nat} {p : Gp} (hpi : X.ps[i]? = some p) (hr : ∀ j, X.ah j i = true → S j) (he : p.op.eff = false) (h1 : noHeap p.op = false) (h2 : ∀ g m b, p.op ≠ .ld g m b) : i < c := by
  rcases Nat.lt_or_ge i c with hlt | hge
  · exact hlt
  · have hin := ps_lt hX hpi
    obtain ⟨pc, hpc⟩ := ps_of hX (show c < X.n by omega)
    obtain ⟨oc, hoc⟩ := ops_of (show c < X.n by omega)
    obtain ⟨k1, k2⟩ := h.cN pc hpc
    rcases (hX.one c oc pc hoc hpc).eff k1 i p hpi hin with e | e | e | e | e
    · subst e; rw [hpi] at hpc; cases hpc; rw [he] at k1; cases k1
    · rw [h1] at e; cases e
    · exact absurd (hr _ e) k2
    · have := ah_lt e; omega
    · obtain ⟨g, m, b, _, _, _, hld, _⟩ := inAps_spec hX (by omega) (by omega) e
      exact absurd hld (h2 g m b)
theorem Inv.still (h : Inv X regs val hp M0 w0 d0 S c M a w) (hX : Rg X E regs val hp) (hcl : ∀ i j, X.ah i j = true → S j → S i) {i : Nat} {p : Gp} (hpi : X.ps[i]? = some p) (hS : ¬ S i) (_he : p.op.eff = false) (h1 : noHeap p.op = false) (h2 : ∀ g m b, p.op ≠ .ld g m b) :
    ∀ e q, i ≤ e → e < c → X.ps[e]? = some q → q.op.eff = false := by
  intro e q hie hec hq
  cases hqe : q.op.eff with
  | false => rfl
  | true =>
    have hSe := h.cS e q hec hq hqe
    have hen := ps_lt hX hq
    obtain ⟨oe, hoe⟩ := ops_of hen
    rcases (hX.one e oe q hoe hq).eff hqe i p hpi (ps_lt hX hpi) with e1 | e1 | e1 | e1 | e1
    · subst e1; exact absurd hSe hS
    · rw [h1] at e1; cases e1
    · have := ah_lt e1; omega
    · exact absurd (hcl _ _ e1 hSe) hS
    · obtain ⟨g, m, b, _, _, _, hld, _⟩ := inAps_spec hX (by have := ps_lt hX hpi; omega) (by omega) e1
      exact absurd hld (h2 g m b)
end
end Mini
end Go.Proofs.YtgjlofpfbhioaaaGreatDoor
namespace Go.Proofs.YtgjlofpfbhioaaaGreatDoor
namespace Mini
open Go
section
variable {X : Cx} {E : Env} {regs : List V} {val : Nat → V} {hp : Nat → Heap} {M0 M M' : MM} {w0 w w' : World} {d0 : List Deferred} {S : Nat → Prop} {c : Nat} {a : Act} {rd : Option Nat}
theorem cells_ne_mem {e : Nat} {P : Prop} (h : e < e) : P := absurd h (Nat.lt_irrefl _)
theorem Inv.todo_keep (h : Inv X regs val hp M0 w0 d0 S c M a w) (hX : Rg X E regs val hp) (hcl : ∀ i j, X.ah i j = true → S j → S i) {i : Nat} {p : Gp} (hpi : X.ps[i]? = some p) (hS : ¬ S i) (he : p.op.eff = false) {n : List Ob}
    (hpush : n ≠ [] → i < c ∧ (hp i).length < (hp (i + 1)).length ∧ noHeap p.op = false ∧ ∀ g m b, p.op ≠ .ld g m b)
    (hloc : ∀ id, ¬ (n ≠ [] ∧ id = (hp i).length) → M'.loc id = M.loc id) :
    ∀ j, j < c → ¬ S j → j ≠ i → (hp j).length < (hp (j + 1)).length → M'.loc (hp j).length = none := by
  intro j hjc hSj hji hlt
  rw [hloc _ ?_]
  · exact h.todo j hjc hSj hlt
  · rintro ⟨hn, heq⟩
    obtain ⟨hic, hil, k1, k2⟩ := hpush hn
    obtain ⟨q, hq⟩ := ps_of hX (show j < X.n by have := h.cle; omega)
    have hqe : q.op.eff = false := by
      cases hqe : q.op.eff with
      | false => rfl
      | true => exact absurd (h.cS j q hjc hq hqe) hSj
    obtain ⟨k3, k4⟩ := push_kind (hX.ran j q hq) hqe hlt
    rcases Nat.lt_or_gt_of_ne hji with hlt2 | hgt
    · have hw := wides hX i (j + 1) (by omega) (by have := h.cle; omega) (fun e r h1 h2 hr => h.still hX hcl hq hSj hqe k3 k4 e r (by omega) (by omega) hr)
      have := hw.len
      omega
    · have hw := wides hX j (i + 1) (by omega) (by have := h.cle; omega) (fun e r h1 h2 hr => h.still hX hcl hpi hS he k1 k2 e r (by omega) (by omega) hr)
      have := hw.len
      omega
open Classical in
noncomputable def rho (X : Cx) (i : Nat) (o : Oper) (a a0 : Act) : Operand → Value
  | .tmp t => if .tmp t ∈ o.op.operands ∨ some t ∈ X.raw.take i then a.eval (.tmp t) else a0.eval (.tmp t)
  | x => a.eval x
theorem rho_eq {i : Nat} {o : Oper} {a a0 : Act} {x : Operand} (h : x ∈ o.op.operands) : rho X i o a a0 x = a.eval x := by
  cases x <;> simp [rho, h]
theorem Inv.rho (h : Inv X regs val hp M0 w0 d0 S c M a w) (hX : Rg X E regs val hp) (hG : GlobOk E.glob M0.imm) {a0 : Act} (h0 : RelRegs M0 X.tm regs a0.tmps) {i : Nat} {o : Oper} {p : Gp} (ho : X.ops[i]? = some o) (hpi : X.ps[i]? = some p) (hS : ¬ S i)
    (hcl : ∀ i j, X.ah i j = true → S j → S i) (hr : ∀ j, X.ah j i = true → S j) {x : Operand} {b : A} (hok : okA (X.k i) x b = true) : RelV M (look E regs (tsOf val i) b) (Mini.rho X i o a a0 x) := by
  by_cases hx : ∃ t, x = .tmp t ∧ ¬ (.tmp t ∈ o.op.operands ∨ some t ∈ X.raw.take i)
  · obtain ⟨t, rfl, hn⟩ := hx
    simp only [Mini.rho, if_neg hn]
    cases b with
    | v x => cases x <;> simp [okA] at hok
    | g b => simp [okA] at hok
    | l j =>
      simp only [okA, Bool.and_eq_true, beq_iff_eq, Cx.k] at hok
      obtain ⟨⟨h1, h2⟩, h3⟩ := hok
      exfalso
      refine hn (.inr ?_)
      rw [List.mem_iff_getElem?]
      have hlt : i - 1 - j < i := by have := of_decide_eq_true h1; omega
      rcases loc_spec h2 with ⟨o1, ho1, hd1, _⟩ | ⟨j2, o1, hj2, ho1, hd1⟩
      · exact ⟨i - 1 - j, by rw [List.getElem?_take, if_pos hlt, raw_at ho1, hd1]⟩
      · obtain ⟨_, _, _, _, _, _, _, _, _, _, _, _, _, _, _, _, _, q9⟩ := partner_spec hj2
        exact ⟨j2, by rw [List.getElem?_take, if_pos (by omega), raw_at ho1, hd1]⟩
    | r j =>
      simp only [okA, Bool.and_eq_true, beq_iff_eq, Bool.not_eq_true', Cx.k] at hok
      simp only [look, Act.eval]
      exact RelV.mono h.fr.ext (h0 j t hok.1)
  · have e : Mini.rho X i o a a0 x = a.eval x := by
      cases x with
      | tmp t =>
        simp only [Mini.rho]
        rw [if_pos]
        exact Classical.byContradiction fun hn => hx ⟨t, rfl, hn⟩
      | _ => rfl
    rw [e]
    unfold okA at hok
    split at hok <;> try (cases hok; done)
    · rename_i t j
      simp only [Bool.and_eq_true, beq_iff_eq, Cx.k] at hok
      obtain ⟨⟨h1, h2⟩, h3⟩ := hok
      simp only [look, nth_tsOf, Act.eval]
      rw [if_pos (of_decide_eq_true h1)]
      exact h.vals _ t (hr _ h3) h2
    · rename_i t j
      simp only [Bool.and_eq_true, beq_iff_eq, Bool.not_eq_true', Cx.k] at hok
      obtain ⟨h1, h2⟩ := hok
      simp only [look, Act.eval]
      have hno : ¬ some t ∈ X.raw.take i := fun hm => by
        rw [← List.contains_iff_mem] at hm
        rw [hm] at h2
        cases h2
      have hop : .tmp t ∈ o.op.operands := Classical.byContradiction fun hn => hx ⟨t, rfl, fun h => h.elim hn hno⟩
      refine h.rg j t h1 fun k hk hrk => ?_
      rcases (hX.one i o p ho hpi).reads t hop k (raw_lt hrk) with e | e | e | e
      · subst e; exact hS hk
      · exact e hrk
      · have hlt := ah_lt e
        refine hno ?_
        rw [List.mem_iff_getElem?]
        exact ⟨k, by rw [List.getElem?_take, if_pos hlt]; exact hrk⟩
      · exact hS (hcl _ _ e hk)
    · simp only [look, Act.eval]; exact okV_rel hok
    · rename_i g b'
      simp only [beq_iff_eq] at hok
      subst hok
      simp only [look, Act.eval]
      split
      · rename_i cs hg
        rw [relV_d]
        exact RelD.mono h.fr.ext.imm (hG _ _ hg).1
      · exact relV_any
    · rename_i f f'
      simp only [beq_iff_eq] at hok
      subst hok
      simp only [look, Act.eval]
      rw [relV_d]
      simp only [RelD]
      exact ⟨#[], #[], rfl, RelDs.nil _ _, rfl, RelDs.nil _ _, rfl⟩
theorem Inv.stepQ (h : Inv X regs val hp M0 w0 d0 S c M a w) (hX : Rg X E regs val hp) (hE : EnvOk X.P E) (hG : GlobOk E.glob M0.imm) {a0 : Act} (h0 : RelRegs M0 X.tm regs a0.tmps) {i : Nat} {o : Oper} {p : Gp} (ho : X.ops[i]? = some o) (hpi : X.ps[i]? = some p) (hS : ¬ S i)
    (hcl : ∀ i j, X.ah i j = true → S j → S i) (hr : ∀ j, X.ah j i = true → S j) (he : p.op.eff = false) {Q : Exit → Act → World → Prop} {K : Act → World → Prop}
    (hK : ∀ c' M' a' w', Inv X regs val hp M0 w0 d0 (fun j => S j ∨ j = i) c' M' a' w' → K a' w') : wpOpIn (rnd rd) 0 X.P X.ops.toArray Q i K a w := by
  have hone := hX.one i o p ho hpi
  have hin := ps_lt hX hpi
  have hdf : ∀ c, o.op ≠ .defer c := hone.dfr
  have hran := hX.ran i p hpi
  have hcS' : ∀ e q, e < c → X.ps[e]? = some q → q.op.eff = true → S e ∨ e = i := fun e q h1 h2 h3 => .inl (h.cS e q h1 h2 h3)
  have hcN' : ∀ q, X.ps[c]? = some q → q.op.eff = true ∧ ¬ S c ∧ c ≠ i := fun q hq => by
    obtain ⟨k1, k2⟩ := h.cN q hq
    refine ⟨k1, k2, fun e => ?_⟩
    subst e
    rw [hpi] at hq
    cases hq
    rw [he] at k1
    cases k1
  have hA : ∀ x b, okA (X.k i) x b = true → RelV M (look E regs (tsOf val i) b) (Mini.rho X i o a a0 x) := fun x b hok => h.rho hX hG h0 ho hpi hS hcl hr hok
  have hexec : execOp a.eval o = execOp (Mini.rho X i o a a0) o := execOp_congr o hone.sel fun x hx => (rho_eq hx).symm
  have hkeep0 := fun (n : List Ob) (hn : n = []) => h.todo_keep (M' := M) hX hcl hpi hS he (n := n) (fun e => absurd hn e) (fun _ _ => rfl)
  rcases hran with ⟨hw, hv, hh⟩ | ⟨hw, hst⟩
  · -- left out
    have hnone : p.guard ≠ none := fun e => by rw [e] at hw; cases hw
    have hini : ∀ m b, p.op ≠ .ini m b := fun m b e => by
      obtain ⟨_, _, _, _, _, _, _, _, _, _, _, hg, _⟩ := hone.ini m b e
      cases hpg : p.guard with
      | none => exact hnone hpg
      | some gb => obtain ⟨g, b'⟩ := gb; have := (hone.guard1 g b' hpg).1; rw [hg] at this; cases this
    have hnp : ∀ k, partner X.ops X.ps k ≠ some i := fun k hk => by
      obtain ⟨o1, p1, t1, T, y, m, b, o2, p2, q1, q2, q3, q4, q5, q6, q7, q8, q9⟩ := partner_spec hk
      obtain ⟨j', t', x', y', o'', t'', r1, r2, r3, r4, r5, r6, r7, r8, r9, r10, r11, r12, r13⟩ := (hX.one k o1 p1 q1 q2).ini m b q4
      rw [hk] at r1
      cases r1
      rw [ho] at r9
      cases r9
      cases hpg : p.guard with
      | none => exact hnone hpg
      | some gb => obtain ⟨g, b'⟩ := gb; have := (hone.guard1 g b' hpg).1; rw [r13] at this; cases this
    refine wpOp_skip ho (h.wanted hX ho hpi hr hw) (hK c M _ _ (h.plain hX ho hpi hS hcl hnp hini h.sat (Fr.refl M w).toX h.cle hcS' hcN' ?_ (hkeep0 [] rfl)))
    rw [hv, relV_tup]
    exact ⟨#[], rfl, rfl, RelVs.nil _ _⟩
  · have hwant := h.wanted hX ho hpi hr hw
    cases hap : p.op.apartOnes with
    | false =>
      have hvl : isVal p.op = false := by cases hop : p.op <;> rw [hop] at hap <;> simp [O.apartOnes] at hap <;> rfl
      have hini : ∀ m b, p.op ≠ .ini m b := fun m b e => by rw [e] at hap; cases hap
      have hnp : ∀ k, partner X.ops X.ps k ≠ some i := fun k hk => by
        obtain ⟨o1, p1, t1, T, y, m, b, o2, p2, q1, q2, q3, q4, q5, q6, q7, q8, q9⟩ := partner_spec hk
        rw [hpi] at q6
        cases q6
        rw [q8] at hap
        cases hap
      have hsq := hst
      rw [step_quiet he hvl] at hsq
      simp only [Option.map_eq_some_iff, Prod.mk.injEq] at hsq
      obtain ⟨⟨v, n⟩, hsp, hv, hh⟩ := hsq
      simp only at hv hh
      subst hv
      have hcN := h.cle
      have hstill := fun (h1 : noHeap p.op = false) (h2 : ∀ g m b, p.op ≠ .ld g m b) => h.still hX hcl hpi hS he h1 h2
      have hpush : n ≠ [] → i < c ∧ (hp i).length < (hp (i + 1)).length ∧ noHeap p.op = false ∧ ∀ g m b, p.op ≠ .ld g m b := by
        intro hn
        rcases stepP_news hsp with e | ⟨_, k1, k2⟩
        · exact absurd e hn
        · refine ⟨h.before hX hpi hr he k1 k2, ?_, k1, k2⟩
          rw [← hh, List.length_append]
          have := List.length_pos_iff.2 hn
          omega
      have hdid := a_all (X := fun _ => False) (o := o) h.sat (lk := look E regs (tsOf val i)) (ρ := Mini.rho X i o a a0) (Hi := hp i) (v := val i) (n := n) (k := X.k i) (p := p.op) ?_ ?_ hA (fun x => rfl) (hone.body hini) he hap hsp ?_
      · obtain ⟨nx, w', M', d1, d2, d3, d4, d5⟩ := hdid
        have hinv : ∀ v', RelV M' (val i) v' → Inv X regs val hp M0 w0 d0 (fun j => S j ∨ j = i) c M' (a.put o.dst v') w' := fun v' hv' =>
          h.plain hX ho hpi hS hcl hnp hini d3 d4 h.cle hcS' hcN' hv' (h.todo_keep hX hcl hpi hS he hpush d5)
        refine wpOp_did hdf ho hwant (by rw [hexec]; exact d1) ?_
        rcases d2 with ⟨v', rfl, hv'⟩ | ⟨rfl, hv'⟩
        · exact .inl ⟨v', rfl, hK _ _ _ _ (hinv v' hv')⟩
        · exact .inr ⟨rfl, hK _ _ _ _ (hinv undef (by rw [hv']; exact relV_any))⟩
      · intro h1 h2
        have hic := h.before hX hpi hr he h1 h2
        exact (wides hX c i (by omega) hcN (hstill h1 h2)).sub
      · intro g m b hop id gen off hlk q hq
        have hok := hone.body hini
        rw [hop] at hok
        obtain ⟨t, y, hop2, hoky⟩ : ∃ t y, o.op = .load t y ∧ okA (X.k i) y b = true := by
          cases ho2 : o.op <;> simp only [okOp, ho2] at hok <;> try (cases hok; done)
          simp only [Bool.and_eq_true] at hok
          exact ⟨_, _, rfl, hok.1.2⟩
        have hrel := hA _ _ hoky
        rw [hlk, relV_c] at hrel
        simp only [RelC] at hrel
        have hidn : id < (hp c).length := by have := h.sat.n; omega
        have hstore : ∀ e q, (c ≤ e ∨ i ≤ e) → (e < c ∨ e < i) → X.ps[e]? = some q → q.op.eff = true → ∃ m x y, q.op = .st m x y ∧ (wants (tsOf val e) q.guard = some true → ∀ id' g off, look E regs (tsOf val e) x = .c (.ptr id' g off) → id' ≠ id) := by
          intro e r h1 h2 hq hqe
          have hen := ps_lt hX hq
          obtain ⟨oe, hoe⟩ := ops_of hen
          have hei : e ≠ i := fun e' => by rw [e', hpi] at hq; cases hq; rw [he] at hqe; cases hqe
          have hinA : inAps X.n i e p.op r.op X.aps = true := by
            rcases (hX.one e oe r hoe hq).eff hqe i p hpi hin with k1 | k1 | k1 | k1 | k1
            · omega
            · rw [hop] at k1; cases k1
            · have := ah_lt k1
              rcases Nat.lt_or_ge e c with hec | hec
              · omega
              · exact absurd (hr _ k1) (h.ahead hX hcl hq hqe hec)
            · have := ah_lt k1
              rcases Nat.lt_or_ge e c with hec | hec
              · exact absurd (hcl _ _ k1 (h.cS e r hec hq hqe)) hS
              · omega
            · exact k1
          obtain ⟨g', m', b', m2, x, y, hld, hst2, hap2⟩ := inAps_spec hX (by omega) (by omega) hinA
          rw [hop] at hld
          cases hld
          refine ⟨m2, x, y, hst2, fun _ id' g off hx => ?_⟩
          rw [hlk, hx] at hap2
          simp only [apart, bne_iff_ne, ne_eq] at hap2
          exact fun e => hap2 e.symm
        rcases Nat.lt_or_ge c i with hci | hci
        · cases hob : ob? (hp c) id with
          | none => rw [ob?_eq, List.getElem?_eq_none_iff] at hob; omega
          | some q' =>
            obtain ⟨q2, h1, h2⟩ := obs_same hX id i c (by omega) (by omega) (fun e r h1 h2 => hstore e r (.inl h1) (.inr h2)) q' hob
            rw [hq] at h1
            cases h1
            exact ⟨q', rfl, h2.symm⟩
        · exact obs_same hX id c i hci hcN (fun e r h1 h2 => hstore e r (.inr h1) (.inl h2)) q hq
      · intro cs g fz hn
        obtain ⟨hic, hlt, k1, k2⟩ := hpush (by rw [hn]; simp)
        have hw1 := wides hX c (i + 1) (by omega) hcN (fun e r h1 h2 => hstill k1 k2 e r (by omega) h2)
        have hfz : g = 0 ∧ fz = false := by
          rcases stepP_news hsp with e | ⟨⟨cs', e⟩, _⟩
          · rw [e] at hn; cases hn
          · rw [e] at hn; cases hn; exact ⟨rfl, rfl⟩
        obtain ⟨rfl, rfl⟩ := hfz
        have hob : ob? (hp (i + 1)) (hp i).length = some (.cells cs 0 false) := by
          rw [← hh, hn, ob?_eq, List.getElem?_append_right (Nat.le_refl _), Nat.sub_self]
          rfl
        obtain ⟨o', h1, h2⟩ := hw1.ob _ _ hob
        refine ⟨?_, h.todo i hic hS hlt⟩
        cases o' <;> simp only [Frz] at h2 <;> try (cases h2; done)
        obtain ⟨rfl, rfl, _⟩ := h2
        exact ⟨_, h1⟩
    | true =>
      have hnoev : ∀ (v' : Value) (w' : World) (M' : MM), (∀ m b, p.op ≠ .ini m b) → p.op ≠ .pre → Sat X.P M' (hp c) 0 w' → Fr M M' w w' → M'.loc = M.loc → RelV M' (val i) v' →
          Inv X regs val hp M0 w0 d0 (fun j => S j ∨ j = i) c M' (a.put o.dst v') w' := by
        intro v' w' M' hini hpre hs hf hl hv
        have hnp : ∀ k, partner X.ops X.ps k ≠ some i := fun k hk => by
          obtain ⟨o1, p1, t1, T, y, m, b, o2, p2, q1, q2, q3, q4, q5, q6, q7, q8, q9⟩ := partner_spec hk
          rw [hpi] at q6
          cases q6
          exact hpre q8
        exact h.plain hX ho hpi hS hcl hnp hini hs hf.toX h.cle hcS' hcN' hv (h.todo_keep hX hcl hpi hS he (n := []) (fun e => absurd rfl e) (fun _ _ => by rw [hl]))
      have hval : ∀ (f : FuncId) (args : List A) (F : List V → Option V), (∀ vs r, F vs = some r → Enters X.P f ∧ ValCall X.P E.glob f vs r) → noHeap p.op = false → (∀ g m b, p.op ≠ .ld g m b) → (∀ m b, p.op ≠ .ini m b) → p.op ≠ .pre →
          (∃ cl, o.op = .call cl ∧ cl.callee = .value (.func f) ∧ okAs (X.k i) cl.args.toList args = true) → byValue F (look E regs (tsOf val i)) (hp i) args = some (val i, hp (i + 1)) → wpOpIn (rnd rd) 0 X.P X.ops.toArray Q i K a w := by
        rintro f args F hF h1 h2 h3 h4 ⟨cl, hop, hcal, hargs⟩ hby
        have hic := h.before hX hpi hr he h1 h2
        have hstill := h.still hX hcl hpi hS he h1 h2
        obtain ⟨hm, hlen⟩ := mapA hA hargs
        have hent : Enters X.P f := by
          unfold byValue at hby
          split at hby <;> try (cases hby; done)
          split at hby <;> try (cases hby; done)
          rename_i r hr
          exact (hF _ _ hr).1
        have hrun := run_enter (w := w) (ρ := Mini.rho X i o a a0) hop hcal (first := #[]) (caps := #[]) rfl hent
        have hargs' : #[] ++ cl.args.map (Mini.rho X i o a a0) ++ #[] = (cl.args.toList.map (Mini.rho X i o a a0)).toArray := by apply Array.ext'; simp
        rw [hargs'] at hrun
        have hcall := vcall_step (hG.mono h.fr.ext.imm) (P := X.P) (fid := f) h.sat ((wides hX c i (by omega) h.cle hstill).sub) hby (fun vs r hr => (hF vs r hr).2) hm (by simpa using hlen.symm)
          (wides hX c (i + 1) (by omega) h.cle (fun e r h1 h2 => hstill e r (by omega) h2))
        refine wpOp_call hdf ho hwant (by rw [hexec]; exact hrun) (hcall.mono fun e w' hh => ?_)
        obtain ⟨v', M', rfl, d1, d2, d3, d4⟩ := hh
        exact ⟨v', rfl, hK _ _ _ _ (hnoev v' w' M' h3 h4 d2 d3 d4 d1)⟩
      cases hop : p.op <;> rw [hop] at hap <;> simp [O.apartOnes] at hap
      · -- pre
        have hok := hone.body (fun m b e => by rw [hop] at e; cases e)
        rw [hop] at hok hst
        obtain ⟨t, vs, ho2, hz, v', w', d1, d2, d3, d4⟩ := a_pre (ρ := Mini.rho X i o a a0) h.sat hok
        rw [step_quiet rfl rfl] at hst
        simp only [stepP, Option.map_some, Option.some.injEq, Prod.mk.injEq, List.append_nil] at hst
        refine wpOp_did hdf ho hwant (by rw [hexec]; exact d1) (.inl ⟨v', rfl, hK c M _ _ ?_⟩)
        have hB : w.heap.size < w'.heap.size := by
          obtain ⟨_, ⟨arr, T, fr, e1, _⟩, _⟩ := d4
          exact (Array.getElem?_eq_some_iff.1 e1).1
        have far : ∀ j k t, partner X.ops X.ps k = some j → X.raw[j]? = some (some t) → S j → (a.put o.dst v').tmps.getD t undef = a.tmps.getD t undef := by
          intro j k t hk hrj hj
          exact getD_put_ne fun hd => by
            have := raw_inj hX hrj (by rw [raw_at ho, hd])
            subst this
            exact hS hj
        have here : ∀ k t, partner X.ops X.ps k = some i → X.raw[i]? = some (some t) → (a.put o.dst v').tmps.getD t undef = v' := by
          intro k t _ hri
          rw [raw_at ho, Option.some.injEq] at hri
          rw [hri]
          exact getD_put_same (by rw [h.size]; exact (hone.dst t hri).1)
        refine h.upd hX ho hS hcl d2 (d3 (fun _ => False)) (fun _ h => h.elim) h.cle hcS' hcN' ?_ (hkeep0 [] rfl) ?_ ?_
        · intro t' ht
          rw [← hst.1]
          exact relV_any
        · intro j k hk hj hnk hki
          obtain ⟨o1, p1, t1, T, y, m, b, o2, p2, q1, q2, q3, q4, q5, q6, q7, q8, q9⟩ := partner_spec hk
          by_cases hji : j = i
          · subst hji
            rw [ho] at q5
            cases q5
            obtain ⟨j', t', x', y', o'', t'', r1, r2, r3, r4, r5, r6, r7, r8, r9, r10, r11, r12, r13⟩ := (hX.one k o1 p1 q1 q2).ini m b q4
            rw [hk] at r1
            cases r1
            rw [ho] at r9
            cases r9
            rw [ho2] at r10
            cases r10
            have hri : X.raw[j]? = some (some t1) := by rw [raw_at ho, q7]
            refine ⟨t1, m, b, p1, w.heap.size, hri, q2, q4, ?_, h.fr.size⟩
            rw [here k t1 hk hri]
            have := r12 vs hz
            rw [← this]
            exact d4
          · have hSj := hj.resolve_right hji
            obtain ⟨t2, m2, a2, q, B, e1, e2, e3, e4, e5⟩ := h.pend j k hk hSj hnk
            exact ⟨t2, m2, a2, q, B, e1, e2, e3, by rw [far j k t2 hk e1 hSj]; exact e4.keep (d3 (fun _ => False)) (fun h => h), e5⟩
        · intro j k j' k' t1 t2 h1 h2 h3 h4 h5 h6 h7 h8 h9 h10 h11
          have old : ∀ j k t, partner X.ops X.ps k = some j → S j → ¬ S k → X.raw[j]? = some (some t) → a.tmps.getD t undef ≠ v' := by
            intro j k t hk hSj hnk hrj heq
            obtain ⟨t2, m2, a2, q, B, e1, e2, e3, e4, e5⟩ := h.pend j k hk hSj hnk
            rw [hrj] at e1
            cases e1
            rw [heq] at e4
            obtain ⟨f1, ⟨arr, T, fr, f2, _⟩, _⟩ := e4
            obtain ⟨g1, _⟩ := d4
            rw [f1] at g1
            simp only [Value.pointer.injEq, Option.some.injEq, Addr.mk.injEq] at g1
            have := (Array.getElem?_eq_some_iff.1 f2).1
            omega
          by_cases hji : j = i
          · by_cases hji' : j' = i
            · rw [hji, hji']
            · subst hji
              rw [here k t1 h1 h9, far j' k' t2 h2 h10 (h4.resolve_right hji')] at h11
              exact absurd h11.symm (old j' k' t2 h2 (h4.resolve_right hji') h7 h10)
          · by_cases hji' : j' = i
            · subst hji'
              rw [here k' t2 h2 h10, far j k t1 h1 h9 (h3.resolve_right hji)] at h11
              exact absurd h11 (old j k t1 h1 (h3.resolve_right hji) h5 h9)
            · rw [far j k t1 h1 h9 (h3.resolve_right hji), far j' k' t2 h2 h10 (h4.resolve_right hji')] at h11
              exact h.pinj j k j' k' t1 t2 h1 h2 (h3.resolve_right hji) (h4.resolve_right hji') h5 h7 h9 h10 h11
      · -- ini
        rename_i m b
        obtain ⟨j, t, x, y, o', t', r1, r2, r3, r4, r5, r6, r7, r8, r9, r10, r11, r12, r13⟩ := hone.ini m b hop
        obtain ⟨o1, p1, t1, T, y1, m1, b1, o2, p2, q1, q2, q3, q4, q5, q6, q7, q8, q9⟩ := partner_spec r1
        rw [ho] at q1
        cases q1
        rw [hpi] at q2
        cases q2
        rw [r3] at q3
        cases q3
        rw [hop] at q4
        cases q4
        rw [r9] at q5
        cases q5
        have hSj := hr j r7
        have hnoH : noHeap p.op = false := by rw [hop]; rfl
        have hnold : ∀ g m b, p.op ≠ .ld g m b := fun g m b e => by rw [hop] at e; cases e
        have hic := h.before hX hpi hr he hnoH hnold
        have hstill := h.still hX hcl hpi hS he hnoH hnold
        obtain ⟨t2, m2, a2, q, B, e1, e2, e3, e4, e5⟩ := h.pend j i r1 hSj hS
        rw [hpi] at e2
        cases e2
        rw [hop] at e3
        cases e3
        have hrj : X.raw[j]? = some (some t1) := by rw [raw_at r9, q7]
        rw [hrj] at e1
        cases e1
        rw [hop, step_quiet rfl rfl] at hst
        simp only [Option.map_eq_some_iff, Prod.mk.injEq] at hst
        obtain ⟨⟨v, n⟩, hsp, hv, hh⟩ := hst
        simp only at hv hh
        subst hv
        have hne : n ≠ [] := by
          intro e
          subst e
          simp only [stepP] at hsp
          (repeat' split at hsp) <;> simp at hsp
        have hlt : (hp i).length < (hp (i + 1)).length := by
          rw [← hh, List.length_append]
          have := List.length_pos_iff.2 hne
          omega
        have hx1 : Mini.rho X i o a a0 (.tmp t1) = a.tmps.getD t1 undef := by
          rw [rho_eq (by rw [r3]; simp [Op.operands])]
          rfl
        have hdid := a_ini (o := o) (B := B) (v := val i) (n := n) h.sat hA r3 r5 r4 (by rw [hx1]; exact e4) hsp ?_
        · obtain ⟨w', M', d1, d2, d3, d4, d5⟩ := hdid
          refine wpOp_did hdf ho hwant (by rw [hexec]; exact d1) (.inr ⟨rfl, hK c M' _ _ ?_⟩)
          have far : ∀ j2 k2 t, partner X.ops X.ps k2 = some j2 → X.raw[j2]? = some (some t) → (a.put o.dst undef).tmps.getD t undef = a.tmps.getD t undef := by
            intro j2 k2 t hk hrj
            exact getD_put_ne fun hd => by
              have := raw_inj hX hrj (by rw [raw_at ho, hd])
              subst this
              obtain ⟨_, _, _, _, _, _, _, _, p3, _, _, _, _, _, s6, _, s8, _⟩ := partner_spec hk
              rw [hpi] at s6
              cases s6
              rw [hop] at s8
              cases s8
          have hji : ∀ j2 k2, partner X.ops X.ps k2 = some j2 → j2 ≠ i := by
            intro j2 k2 hk e
            subst e
            obtain ⟨_, _, _, _, _, _, _, _, p3, _, _, _, _, _, s6, _, s8, _⟩ := partner_spec hk
            rw [hpi] at s6
            cases s6
            rw [hop] at s8
            cases s8
          refine h.upd hX ho hS hcl d3 d4 (fun b hb => by rw [hb]; exact e5) h.cle hcS' hcN' ?_ ?_ ?_ ?_
          · intro t3 ht
            rcases loc_spec ht with ⟨o3, ho3, hd3, _⟩ | ⟨j3, o3, hj3, ho3, hd3⟩
            · -- the store has no place of its own
              exfalso
              have hl : X.loc[i]? = some (some t1) := by
                simp only [Cx.loc, List.getElem?_map, List.getElem?_range hin, Option.map_some, locOf, ho, hpi, hop, r1, r9, q7]
              rw [ht] at hl
              cases hl
              rw [ho] at ho3
              cases ho3
              have := raw_inj hX hrj (by rw [raw_at ho, hd3])
              omega
            · rw [r1] at hj3
              cases hj3
              rw [r9] at ho3
              cases ho3
              rw [q7] at hd3
              cases hd3
              rw [far j i t1 r1 hrj, ← hx1]
              exact d2
          · exact h.todo_keep hX hcl hpi hS he (n := n) (fun _ => ⟨hic, hlt, hnoH, hnold⟩) (fun id hid => d5 id (fun e => hid ⟨hne, e⟩))
          · intro j2 k2 hk hj hnk hki
            have hSj2 := hj.resolve_right (hji j2 k2 hk)
            obtain ⟨t5, m5, a5, q5', B5, g1, g2, g3, g4, g5⟩ := h.pend j2 k2 hk hSj2 hnk
            refine ⟨t5, m5, a5, q5', B5, g1, g2, g3, ?_, g5⟩
            rw [far j2 k2 t5 hk g1]
            refine g4.keep d4 (fun hB => ?_)
            subst hB
            have hjj := h.pinj j i j2 k2 t1 t5 r1 hk hSj hSj2 hS hnk hrj g1 (by rw [e4.1, g4.1])
            subst hjj
            obtain ⟨_, _, _, _, _, _, _, _, _, _, s2, _⟩ := partner_spec hk
            exact hki (r8 k2 (ps_lt hX s2) hk)
          · intro j1 k1 j2 k2 t1' t2' h1 h2 h3 h4 h5 h6 h7 h8 h9 h10 h11
            rw [far j1 k1 t1' h1 h9, far j2 k2 t2' h2 h10] at h11
            exact h.pinj j1 k1 j2 k2 t1' t2' h1 h2 (h3.resolve_right (hji j1 k1 h1)) (h4.resolve_right (hji j2 k2 h2)) h5 h7 h9 h10 h11
        · intro cs g fz hn
          have hw1 := wides hX c (i + 1) (by omega) h.cle (fun e r h1 h2 => hstill e r (by omega) h2)
          have hfz : g = 0 ∧ fz = false := by
            rcases stepP_news hsp with e | ⟨⟨cs', e⟩, _⟩
            · rw [e] at hn; cases hn
            · rw [e] at hn; cases hn; exact ⟨rfl, rfl⟩
          obtain ⟨rfl, rfl⟩ := hfz
          have hob : ob? (hp (i + 1)) (hp i).length = some (.cells cs 0 false) := by
            rw [← hh, hn, ob?_eq, List.getElem?_append_right (Nat.le_refl _), Nat.sub_self]
            rfl
          obtain ⟨o', h1, h2⟩ := hw1.ob _ _ hob
          refine ⟨?_, h.todo i hic hS hlt⟩
          cases o' <;> simp only [Frz] at h2 <;> try (cases h2; done)
          obtain ⟨rfl, rfl, _⟩ := h2
          exact ⟨_, h1⟩
      · -- a call of a function of ours
        rename_i f args
        have hok := hone.body (fun m b e => by rw [hop] at e; cases e)
        rw [hop] at hok hst
        refine hval f args (E.vcall f) (hE.vcall f) (by rw [hop]; rfl) (fun g m b e => by rw [hop] at e; cases e) (fun m b e => by rw [hop] at e; cases e) (fun e => by rw [hop] at e; cases e) ?_ hst
        cases ho2 : o.op <;> simp only [okOp, ho2] at hok <;> try (cases hok; done)
        simp only [Bool.and_eq_true] at hok
        obtain ⟨h1, h2⟩ := hok
        split at h1 <;> try (cases h1; done)
        rename_i f' hc
        simp only [beq_iff_eq] at h1
        subst h1
        exact ⟨_, rfl, hc, h2⟩
      · -- a call of a function from the shelf
        rename_i f args
        have hok := hone.body (fun m b e => by rw [hop] at e; cases e)
        rw [hop] at hok hst
        refine hval f args (E.prim f) (hE.prim f) (by rw [hop]; rfl) (fun g m b e => by rw [hop] at e; cases e) (fun m b e => by rw [hop] at e; cases e) (fun e => by rw [hop] at e; cases e) ?_ hst
        cases ho2 : o.op <;> simp only [okOp, ho2] at hok <;> try (cases hok; done)
        simp only [Bool.and_eq_true] at hok
        obtain ⟨h1, h2⟩ := hok
        split at h1 <;> try (cases h1; done)
        rename_i f' hc
        simp only [beq_iff_eq] at h1
        subst h1
        exact ⟨_, rfl, hc, h2⟩
end
end Mini
end Go.Proofs.YtgjlofpfbhioaaaGreatDoor
namespace Go.Proofs.YtgjlofpfbhioaaaGreatDoor
namespace Mini
open Go
section
variable {X : Cx} {E : Env} {regs : List V} {val : Nat → V} {hp : Nat → Heap} {M0 M M' : MM} {w0 w w' : World} {d0 : List Deferred} {S : Nat → Prop} {c : Nat} {a : Act} {rd : Option Nat}
theorem Inv.stepE (h : Inv X regs val hp M0 w0 d0 S c M a w) (hX : Rg X E regs val hp) (hE : EnvOk X.P E) (hG : GlobOk E.glob M0.imm) {a0 : Act} (h0 : RelRegs M0 X.tm regs a0.tmps) {i : Nat} {o : Oper} {p : Gp} (ho : X.ops[i]? = some o) (hpi : X.ps[i]? = some p) (hS : ¬ S i)
    (hcl : ∀ i j, X.ah i j = true → S j → S i) (hr : ∀ j, X.ah j i = true → S j) (he : p.op.eff = true) {Q : Exit → Act → World → Prop} {K : Act → World → Prop}
    (hK : ∀ c' M' a' w', Inv X regs val hp M0 w0 d0 (fun j => S j ∨ j = i) c' M' a' w' → K a' w') : wpOpIn (rnd rd) 0 X.P X.ops.toArray Q i K a w := by
  have hone := hX.one i o p ho hpi
  have hin := ps_lt hX hpi
  have hdf : ∀ c, o.op ≠ .defer c := hone.dfr
  have hran := hX.ran i p hpi
  have hci : c = i := by
    rcases Nat.lt_trichotomy c i with hlt | rfl | hgt
    · exfalso
      obtain ⟨pc, hpc⟩ := ps_of hX (show c < X.n by omega)
      obtain ⟨k1, k2⟩ := h.cN pc hpc
      rcases hone.eff he c pc hpc (by omega) with e | e | e | e | e
      · omega
      · cases hop : pc.op <;> rw [hop] at k1 e <;> simp [O.eff] at k1 <;> simp [noHeap] at e
      · have := ah_lt e; omega
      · exact k2 (hr _ e)
      · obtain ⟨g, m, b, _, _, _, hld, _⟩ := inAps_spec hX (by omega) (by omega) e
        rw [hld] at k1
        cases k1
    · rfl
    · exact absurd (h.cS i p hgt hpi he) hS
  subst hci
  obtain ⟨c', n1, n2, n3, n4⟩ := nextEff hX (X.n - (c + 1)) (c + 1) (by omega)
  have hini : ∀ m b, p.op ≠ .ini m b := fun m b e => by rw [e] at he; cases he
  have hnp : ∀ k, partner X.ops X.ps k ≠ some c := fun k hk => by
    obtain ⟨o1, p1, t1, T, y, m, b, o2, p2, q1, q2, q3, q4, q5, q6, q7, q8, q9⟩ := partner_spec hk
    rw [hpi] at q6
    cases q6
    rw [q8] at he
    cases he
  have hwide := wides hX c' (c + 1) n1 n2 n3
  have fin : ∀ (M1 : MM) (w1 : World) (v' : Value), Sat X.P M1 (hp (c + 1)) 0 w1 → Fr M M1 w w1 → RelV M1 (val c) v' → Inv X regs val hp M0 w0 d0 (fun j => S j ∨ j = c) c' (M1.more (hp c').length) (a.put o.dst v') w1 := by
    intro M1 w1 v' hs hf hv
    obtain ⟨s1, s2⟩ := hs.wide hwide
    refine h.plain hX ho hpi hS hcl hnp hini s1 (hf.trans s2).toX n2 ?_ ?_ (RelV.mono s2.ext hv) ?_
    · intro e q h1 h2 h3
      rcases Nat.lt_trichotomy e c with hlt | rfl | hgt
      · exact .inl (h.cS e q hlt h2 h3)
      · exact .inr rfl
      · have := n3 e q (by omega) h1 h2; rw [this] at h3; cases h3
    · intro q hq
      have hqe := n4 q hq
      exact ⟨hqe, h.ahead hX hcl hq hqe (by omega), by omega⟩
    · intro j hj hSj hjc hlt
      obtain ⟨q, hq⟩ := ps_of hX (show j < X.n by omega)
      rcases Nat.lt_or_ge j c with hjc2 | hjc2
      · exfalso
        cases hqe : q.op.eff with
        | true => exact hSj (h.cS j q hjc2 hq hqe)
        | false =>
          obtain ⟨k3, k4⟩ := push_kind (hX.ran j q hq) hqe hlt
          rcases hone.eff he j q hq (by omega) with e | e | e | e | e
          · omega
          · rw [k3] at e; cases e
          · have := ah_lt e; omega
          · exact hSj (hr _ e)
          · obtain ⟨g, m, b, _, _, _, hld, _⟩ := inAps_spec hX (by omega) (by omega) e
            exact k4 g m b hld
      · have hw := wides hX j (c + 1) (by omega) (by omega) (fun e r h1 h2 => n3 e r h1 (by omega))
        exact (hs.out _ (by rw [hs.n]; exact hw.len)).1
  rcases hran with ⟨hw, hv, hh⟩ | ⟨hw, hst⟩
  · refine wpOp_skip ho (h.wanted hX ho hpi hr hw) (hK _ _ _ _ (fin M w undef (by rw [hh]; exact h.sat) (Fr.refl M w) ?_))
    rw [hv, relV_tup]
    exact ⟨#[], rfl, rfl, RelVs.nil _ _⟩
  · have hwant := h.wanted hX ho hpi hr hw
    have hA : ∀ x b, okA (X.k c) x b = true → RelV M (look E regs (tsOf val c) b) (Mini.rho X c o a a0 x) := fun x b hok => h.rho hX hG h0 ho hpi hS hcl hr hok
    have hexec : execOp a.eval o = execOp (Mini.rho X c o a a0) o := execOp_congr o hone.sel fun x hx => (rho_eq hx).symm
    have hok := hone.body hini
    rw [step_eff he] at hst
    have done : Eff X.P M (hp (c + 1)) w (execOp (Mini.rho X c o a a0) o) (val c) → wpOpIn (rnd rd) 0 X.P X.ops.toArray Q c K a w := by
      rintro ⟨nx, w1, M1, d1, d2, d3, d4⟩
      refine wpOp_did hdf ho hwant (by rw [hexec]; exact d1) ?_
      rcases d2 with ⟨v', rfl, hv'⟩ | ⟨rfl, hv'⟩
      · exact .inl ⟨v', rfl, hK _ _ _ _ (fin M1 w1 v' d3 d4 hv')⟩
      · exact .inr ⟨rfl, hK _ _ _ _ (fin M1 w1 undef d3 d4 (by rw [hv']; exact relV_any))⟩
    cases hop : p.op <;> rw [hop] at he hok hst <;> simp [O.eff] at he
    · exact done (e_st h.sat hA hok hst)
    · exact done (e_app h.sat hA hok hst)
    · exact done (e_apb h.sat hA hok hst)
    · exact done (e_cpy h.sat hA hok hst)
    · rename_i f args
      change (match look E regs (tsOf val c) f with | .c x => E.call x (args.map (look E regs (tsOf val c))) (hp c) | _ => none) = _ at hst
      split at hst <;> try (cases hst; done)
      rename_i x hx
      cases ho2 : o.op <;> simp only [okOp, ho2] at hok <;> try (cases hok; done)
      rename_i cl
      simp only [Bool.and_eq_true] at hok
      obtain ⟨h1, h2⟩ := hok
      split at h1 <;> try (cases h1; done)
      rename_i g hc
      have hrf := hA _ _ h1
      rw [hx, relV_c] at hrf
      obtain ⟨hm, hlen⟩ := mapA hA h2
      rcases hE.call x _ _ _ _ hst M w _ _ (hG.mono h.fr.ext.imm) hrf hm (by simpa using hlen.symm) h.sat with ⟨fid, first, caps, hcv, hent, hcall⟩ | ⟨l, fid, tmps, asg, body, hcv, hyl, hcall⟩
      rotate_left
      · have hargs' : (cl.args.toList.map (Mini.rho X c o a a0)).toArray = cl.args.map (Mini.rho X c o a a0) := by apply Array.ext'; simp
        rw [hargs'] at hyl
        have hrun := run_round (ρ := Mini.rho X c o a a0) ho2 hc hcv hyl
        refine wpOp_round hdf ho hwant (by rw [hexec]; exact hrun) (hcall.mono fun e w' hh => ?_)
        obtain ⟨v', M1, rfl, d1, d2, d3⟩ := hh
        exact ⟨v', rfl, hK _ _ _ _ (fin M1 w' v' d2 d3 d1)⟩
      have hrun := run_enter (w := w) (ρ := Mini.rho X c o a a0) ho2 hc hcv hent
      have hargs' : first ++ cl.args.map (Mini.rho X c o a a0) ++ caps = first ++ (cl.args.toList.map (Mini.rho X c o a a0)).toArray ++ caps := by apply Array.ext'; simp
      rw [hargs'] at hrun
      refine wpOp_call hdf ho hwant (by rw [hexec]; exact hrun) (hcall.mono fun e w' hh => ?_)
      obtain ⟨v', M1, rfl, d1, d2, d3⟩ := hh
      exact ⟨v', rfl, hK _ _ _ _ (fin M1 w' v' d2 d3 d1)⟩
    · cases ho2 : o.op <;> simp [okOp, ho2] at hok
    · cases ho2 : o.op <;> simp [okOp, ho2] at hok
    · exact done (e_mkm h.sat hok hst)
    · exact done (e_mpu h.sat hA hok hst)
    · exact done (e_lkp h.sat hA hok hst)
    · exact done (e_lnm h.sat hA hok hst)
theorem Inv.step (h : Inv X regs val hp M0 w0 d0 S c M a w) (hX : Rg X E regs val hp) (hE : EnvOk X.P E) (hG : GlobOk E.glob M0.imm) {a0 : Act} (h0 : RelRegs M0 X.tm regs a0.tmps) {i : Nat} (hi : i < X.n) (hS : ¬ S i)
    (hcl : ∀ i j, X.ah i j = true → S j → S i) (hr : ∀ j, X.ah j i = true → S j) {Q : Exit → Act → World → Prop} {K : Act → World → Prop}
    (hK : ∀ c' M' a' w', Inv X regs val hp M0 w0 d0 (fun j => S j ∨ j = i) c' M' a' w' → K a' w') : wpOpIn (rnd rd) 0 X.P X.ops.toArray Q i K a w := by
  obtain ⟨o, ho⟩ := ops_of hi
  obtain ⟨p, hp'⟩ := ps_of hX hi
  cases he : p.op.eff with
  | true => exact h.stepE hX hE hG h0 ho hp' hS hcl hr he hK
  | false => exact h.stepQ hX hE hG h0 ho hp' hS hcl hr he hK
theorem Inv.start (hX : Rg X E regs val hp) (hsat : Sat X.P M (hp 0) 0 w) (h0 : RelRegs M X.tm regs a.tmps) (hsz : a.tmps.size = X.nt) : ∃ c M', Inv X regs val hp M w a.defers (fun _ => False) c M' a w := by
  obtain ⟨c, n1, n2, n3, n4⟩ := nextEff hX X.n 0 (by omega)
  have hw := wides hX c 0 n1 n2 n3
  obtain ⟨s1, s2⟩ := hsat.wide hw
  refine ⟨c, M.more (hp c).length, hsz, rfl, n2, ?_, fun p hp' => ⟨n4 p hp', fun h => h⟩, s1, s2, fun _ _ h => h.elim, fun j t hj _ => RelV.mono s2.ext (h0 j t hj), ?_, fun _ _ _ h => h.elim, fun _ _ _ _ _ _ _ _ h => h.elim⟩
  · intro e p h1 h2 h3
    have := n3 e p (by omega) h1 h2
    rw [this] at h3
    cases h3
  · intro i hi _ hlt
    have hw2 := wides hX i 0 (by omega) (by omega) (fun e p h1 h2 => n3 e p h1 (by omega))
    exact (hsat.out _ (by rw [hsat.n]; exact hw2.len)).1
theorem Inv.done (h : Inv X regs val hp M0 w0 d0 S c M a w) (hX : Rg X E regs val hp) (hall : ∀ i, i < X.n → S i) : Sat X.P M (hp X.n) 0 w := by
  have hc : c = X.n := by
    rcases Nat.lt_or_ge c X.n with hlt | hge
    · obtain ⟨p, hp'⟩ := ps_of hX hlt
      exact absurd (hall c hlt) (h.cN p hp').2
    · have := h.cle; omega
  rw [← hc]
  exact h.sat
theorem nth_put : ∀ (regs : List V) (j : Nat) (v : V) (j' : Nat), nth (put regs j v) j' = if j' = j then (if j < regs.length then v else .any) else nth regs j'
  | [], j, v, j' => by simp [put, nth]
  | x :: xs, 0, v, 0 => by simp [put, nth]
  | x :: xs, 0, v, j' + 1 => by simp [put, nth]
  | x :: xs, j + 1, v, 0 => by simp [put, nth]
  | x :: xs, j + 1, v, j' + 1 => by
    simp only [put, nth, nth_put xs j v j', List.length_cons]
    by_cases h : j' = j
    · subst h; simp
    · simp [h]
theorem nth_exports {R : V → Prop} (hany : R .any) {ts : List V} {j : Nat} : ∀ (exp : List (Nat × Nat)) (regs : List V), (∀ k, (j, k) ∈ exp → R (nth ts k)) → (R (nth regs j) ∨ ∃ k, (j, k) ∈ exp) → R (nth (exports regs ts exp) j)
  | [], regs, _, h => by
    rcases h with h | ⟨k, hk⟩
    · exact h
    · cases hk
  | (j1, k1) :: exp, regs, hall, h => by
    simp only [exports]
    refine nth_exports hany exp _ (fun k hk => hall k (by simp [hk])) ?_
    rw [nth_put]
    by_cases e : j = j1
    · subst e
      left
      rw [if_pos rfl]
      split
      · exact hall k1 (by simp)
      · exact hany
    · rw [if_neg e]
      rcases h with h | ⟨k, hk⟩
      · exact .inl h
      · simp only [List.mem_cons, Prod.mk.injEq] at hk
        rcases hk with ⟨h1, _⟩ | hk
        · exact absurd h1 e
        · exact .inr ⟨k, hk⟩
end
end Mini
end Go.Proofs.YtgjlofpfbhioaaaGreatDoor
namespace Go.Proofs.YtgjlofpfbhioaaaGreatDoor
namespace Mini
open Go
theorem foldl_bits {prev : List Nat} {i : Nat} : ∀ (es : List Edge) (m : Nat), (es.foldl (fun m e => if Region.binds .any e then m ||| 2 ^ e.on ||| prev.getD e.on 0 else m) m).testBit i = true →
    m.testBit i = true ∨ ∃ e ∈ es, Region.binds .any e = true ∧ (e.on = i ∨ (prev.getD e.on 0).testBit i = true)
  | [], m, h => .inl h
  | e :: es, m, h => by
    rw [List.foldl_cons] at h
    rcases foldl_bits es _ h with h | ⟨e', h1, h2⟩
    · split at h
      · rename_i hb
        rw [Nat.testBit_or, Nat.testBit_or, Nat.testBit_two_pow, Bool.or_eq_true, Bool.or_eq_true, decide_eq_true_eq] at h
        rcases h with (h | h) | h
        · exact .inl h
        · exact .inr ⟨e, by simp, hb, .inl h⟩
        · exact .inr ⟨e, by simp, hb, .inr h⟩
      · exact .inl h
    · exact .inr ⟨e', by simp [h1], h2⟩
theorem clos_spec : ∀ (os : List Oper) (acc : List Nat), (clos os acc).length = acc.length + os.length ∧ (∀ j, j < acc.length → (clos os acc)[j]? = acc[j]?) ∧
    ∀ j o, os[j]? = some o → (clos os acc)[acc.length + j]? = some (clo1 ((clos os acc).take (acc.length + j)) o)
  | [], acc => ⟨rfl, fun _ _ => rfl, by intro j o h; simp at h⟩
  | o :: os, acc => by
    obtain ⟨h1, h2, h3⟩ := clos_spec os (acc ++ [clo1 acc o])
    simp only [List.length_append, List.length_cons, List.length_nil, Nat.zero_add] at h1 h2 h3
    simp only [clos]
    refine ⟨by rw [h1]; simp only [List.length_cons]; omega, fun j hj => by rw [h2 j (by omega), List.getElem?_append_left hj], fun j o' ho => ?_⟩
    cases j with
    | zero =>
      simp only [List.getElem?_cons_zero, Option.some.injEq] at ho
      subst ho
      rw [Nat.add_zero, h2 _ (by omega), List.getElem?_append_right (Nat.le_refl _), Nat.sub_self]
      simp only [List.getElem?_cons_zero, Option.some.injEq]
      congr 1
      apply List.ext_getElem?
      intro m
      rw [List.getElem?_take]
      split
      · rename_i hm; rw [h2 m (by omega), List.getElem?_append_left hm]
      · rename_i hm; exact List.getElem?_eq_none (by omega)
    | succ j =>
      simp only [List.getElem?_cons_succ] at ho
      have := h3 j o' ho
      rw [show acc.length + 1 + j = acc.length + (j + 1) by omega] at this
      exact this
theorem getD_take (l : List Nat) (j k : Nat) : (l.take j).getD k 0 = if k < j then l.getD k 0 else 0 := by
  rw [List.getD_eq_getElem?_getD, List.getD_eq_getElem?_getD, List.getElem?_take]
  split <;> rfl
section
variable {X : Cx} {E : Env} {regs : List V} {val : Nat → V} {hp : Nat → Heap} {M0 M M' : MM} {w0 w w' : World} {d0 : List Deferred} {S : Nat → Prop} {c : Nat} {a : Act} {rd : Option Nat}
theorem cl_edge {i j : Nat} {o : Oper} (ho : X.ops[j]? = some o) (h : (X.cl.getD j 0).testBit i = true) : ∃ e ∈ o.after, Region.binds .any e = true ∧ (e.on = i ∨ (e.on < j ∧ (X.cl.getD e.on 0).testBit i = true)) := by
  obtain ⟨_, _, h3⟩ := clos_spec X.ops []
  have h4 := h3 j o ho
  simp only [List.length_nil, Nat.zero_add] at h4
  have e : X.cl.getD j 0 = clo1 (X.cl.take j) o := by
    rw [List.getD_eq_getElem?_getD]
    simp only [Cx.cl, h4, Option.getD_some]
  rw [e] at h
  unfold clo1 at h
  rcases foldl_bits _ _ h with h | ⟨e', h1, h2, h5⟩
  · simp at h
  · refine ⟨e', by simpa using h1, h2, ?_⟩
    rcases h5 with h5 | h5
    · exact .inl h5
    · rw [getD_take] at h5
      split at h5
      · rename_i hlt; exact .inr ⟨hlt, h5⟩
      · simp at h5
def Direct (X : Cx) (S : Nat → Prop) : Prop := ∀ j o, X.ops[j]? = some o → S j → ∀ e ∈ o.after, Region.binds .any e = true → S e.on
theorem Direct.all (h : Direct X S) : ∀ (j : Nat) (o : Oper) (i : Nat), X.ops[j]? = some o → (∀ e ∈ o.after, Region.binds .any e = true → S e.on) → (X.cl.getD j 0).testBit i = true → S i := by
  intro j
  induction j using Nat.strongRecOn with
  | _ j ih =>
    intro o i ho he hb
    obtain ⟨e, h1, h2, h3⟩ := cl_edge ho hb
    rcases h3 with rfl | ⟨hlt, h3⟩
    · exact he e h1 h2
    · have hj : j < X.n := (List.getElem?_eq_some_iff.1 ho).1
      obtain ⟨o', ho'⟩ := ops_of (show e.on < X.n by omega)
      exact ih e.on hlt o' i ho' (h e.on o' ho' (he e h1 h2)) h3
theorem cl_lt {i j : Nat} (h : (X.cl.getD j 0).testBit i = true) : j < X.n := by
  rcases Nat.lt_or_ge j X.n with h' | h'
  · exact h'
  · obtain ⟨h1, _, _⟩ := clos_spec X.ops []
    rw [List.getD_eq_getElem?_getD, List.getElem?_eq_none (by simp only [Cx.cl]; rw [h1]; simpa [Cx.n] using h')] at h
    simp at h
theorem Direct.closed (hd : X.draw = true) (h : Direct X S) : ∀ i j, X.ah i j = true → S j → S i := by
  intro i j hij hj
  simp only [Cx.ah, ahead, hd, Bool.not_true, Bool.false_or, Bool.and_eq_true] at hij
  obtain ⟨o, ho⟩ := ops_of (cl_lt hij.2)
  exact h.all j o i ho (h j o ho hj) hij.2
theorem region_text (hX : Rg X E regs val hp) (hd : X.draw = false) (hE : EnvOk X.P E) (hG : GlobOk E.glob M0.imm) {a0 : Act} (h0 : RelRegs M0 X.tm regs a0.tmps) {Q : Exit → Act → World → Prop}
    (hQ : ∀ c M a w, Inv X regs val hp M0 w0 d0 (fun j => j < X.n) c M a w → Q .normal a w) :
    ∀ (d i : Nat) (c : Nat) (M : MM) (a : Act) (w : World), i + d = X.n → Inv X regs val hp M0 w0 d0 (fun j => j < i) c M a w → wpOpsIn (rnd rd) 0 X.P X.ops.toArray Q (List.range' i d) a w
  | 0, i, c, M, a, w, hi, h => by
    have : i = X.n := by omega
    subst this
    exact hQ c M a w h
  | d + 1, i, c, M, a, w, hi, h => by
    rw [List.range'_succ, wpOpsIn_cons]
    have hah : ∀ i j, X.ah i j = true ↔ i < j := fun i j => by simp [Cx.ah, ahead, hd]
    refine h.step hX hE hG h0 (i := i) (by omega) (by omega) (fun i' j h1 h2 => by have := (hah i' j).1 h1; omega) (fun j h1 => (hah j i).1 h1) fun c' M' a' w' h' => ?_
    refine region_text hX hd hE hG h0 hQ d (i + 1) c' M' a' w' (by omega) ?_
    have : (fun j => j < i ∨ j = i) = (fun j => j < i + 1) := funext fun j => propext (by omega)
    rw [← this]
    exact h'
theorem getD_listed {listed : Array Bool} {i : Nat} (h : i < listed.size) (b : Bool) : listed.getD i b = listed[i] := by simp [Array.getD, h]
theorem region_any (hX : Rg X E regs val hp) (hd : X.draw = true) (hE : EnvOk X.P E) (hG : GlobOk E.glob M0.imm) {a0 : Act} (h0 : RelRegs M0 X.tm regs a0.tmps) {Q : Exit → Act → World → Prop}
    (hQ : ∀ c M a w, Inv X regs val hp M0 w0 d0 (fun j => j < X.n) c M a w → Q .normal a w) :
    ∀ (fuel : Nat) (listed : Array Bool) (c : Nat) (M : MM) (a : Act) (w : World), listed.size = X.n → listed.toList.count false ≤ fuel → Direct X (fun j => listed.getD j false = true) →
      Inv X regs val hp M0 w0 d0 (fun j => listed.getD j false = true) c M a w → wpAnyIn (rnd rd) 0 X.P .any X.ops.toArray Q fuel listed a w := by
  have after : ∀ (listed : Array Bool), listed.size = X.n → Region.ready .any X.ops.toArray listed = [] → ∀ j, j < X.n → listed.getD j false = true := by
    intro listed hsz hnil j
    induction j using Nat.strongRecOn with
    | _ j ih =>
      intro hj
      cases hl : listed.getD j false with
      | true => rfl
      | false =>
        exfalso
        obtain ⟨o, ho⟩ := ops_of hj
        obtain ⟨p, hp'⟩ := ps_of hX hj
        have hm : j ∈ Region.ready .any X.ops.toArray listed := by
          rw [mem_ready]
          refine ⟨by rw [getD_listed (by omega)] at hl ⊢; exact hl, o, by simpa using ho, fun e he hb => ?_⟩
          have hlt := (hX.one j o p ho hp').after e he hb
          exact ih e.on hlt (by omega)
        rw [hnil] at hm
        cases hm
  have fin : ∀ (listed : Array Bool) (c : Nat) (M : MM) (a : Act) (w : World), listed.size = X.n → Region.ready .any X.ops.toArray listed = [] → Inv X regs val hp M0 w0 d0 (fun j => listed.getD j false = true) c M a w → Q .normal a w := by
    intro listed c M a w hsz hnil h
    refine hQ c M a w ?_
    have : (fun j => listed.getD j false = true) = (fun j => j < X.n) := funext fun j => propext ⟨fun hj => ?_, fun hj => after listed hsz hnil j hj⟩
    · rw [← this]; exact h
    · rcases Nat.lt_or_ge j X.n with h' | h'
      · exact h'
      · simp [Array.getD, show ¬ j < listed.size by omega] at hj
  intro fuel
  induction fuel with
  | zero =>
    intro listed c M a w hsz hcount hD h
    have hnil : Region.ready .any X.ops.toArray listed = [] := by
      rw [List.eq_nil_iff_forall_not_mem]
      intro j hj
      obtain ⟨h1, o, ho, _⟩ := mem_ready.1 hj
      have hjn : j < X.n := by simpa [Cx.n] using (Array.getElem?_eq_some_iff.1 ho).1
      rw [getD_listed (by omega)] at h1
      have : false ∈ listed.toList := by rw [← h1]; exact Array.getElem_mem_toList (by omega)
      have := List.count_pos_iff.2 this
      omega
    exact ⟨hnil, fin listed c M a w hsz hnil h⟩
  | succ fuel ih =>
    intro listed c M a w hsz hcount hD h
    refine ⟨fun hnil => fin listed c M a w hsz hnil h, fun i hi => ?_⟩
    obtain ⟨h1, o, ho, h2⟩ := mem_ready.1 hi
    have hin : i < X.n := by simpa [Cx.n] using (Array.getElem?_eq_some_iff.1 ho).1
    have hoi : X.ops[i]? = some o := by simpa using ho
    rw [getD_listed (by omega)] at h1
    have hnS : ¬ (listed.getD i false = true) := by rw [getD_listed (by omega), h1]; simp
    have hset : (fun j => (listed.setIfInBounds i true).getD j false = true) = (fun j => listed.getD j false = true ∨ j = i) := funext fun j => propext (by
      simp only [Array.getD_eq_getD_getElem?, Array.getElem?_setIfInBounds]
      by_cases e : i = j
      · subst e; simp [show i < listed.size by omega]
      · rw [if_neg e]
        exact ⟨.inl, fun h => h.resolve_right (fun h => e h.symm)⟩)
    refine h.step hX hE hG h0 hin hnS (hD.closed hd) (fun j hj => ?_) fun c' M' a' w' h' => ?_
    · simp only [Cx.ah, ahead, hd, Bool.not_true, Bool.false_or, Bool.and_eq_true] at hj
      exact hD.all i o j hoi h2 hj.2
    · refine ih (listed.setIfInBounds i true) c' M' a' w' (by simpa using hsz) ?_ ?_ (by rw [hset]; exact h')
      · rw [Array.toList_setIfInBounds, List.count_set (by simp; omega)]
        have h1' : listed.toList[i]'(by simp; omega) = false := by simpa using h1
        have e1 : (false == false) = true := rfl
        have e2 : (true == false) = false := rfl
        rw [h1', e1, e2, if_pos rfl, if_neg (by simp)]
        omega
      · intro j o' ho' hj e he hb
        have hj' := (congrFun hset j).mp hj
        refine (congrFun hset e.on).mpr (.inl ?_)
        rcases hj' with hj' | rfl
        · exact hD j o' ho' hj' e he hb
        · rw [hoi] at ho'
          cases ho'
          exact h2 e he hb
end
theorem region_ok {P : Program} {E : Env} {tm : List Nat} {nt id : Nat} {draw : Bool} {ops : Array Oper} {ps : List Gp} {exp : List (Nat × Nat)} {aps : List (A × A)} {regs ts : List V} {H H' : Heap} {M : MM} {a : Act} {w : World} {rd : Option Nat} (hE : EnvOk P E) (hG : GlobOk E.glob M.imm)
    (hok : okReg P tm nt draw ops.toList ps exp aps = true) (hrun : runOps E regs ps [] H = some (ts, H')) (hap : aps.all (fun (x, y) => apart (look E regs ts x) (look E regs ts y)) = true) (hsat : Sat P M H 0 w) (hregs : RelRegs M tm regs a.tmps) (hsize : a.tmps.size = nt)
    {Q : Exit → Act → World → Prop} (hQ : ∀ M' a' w', Sat P M' H' 0 w' → Fr M M' w w' → RelRegs M' tm (exports regs ts exp) a'.tmps → a'.tmps.size = nt → a'.defers = a.defers → Q .normal a' w') :
    (Code.region id ops draw).wpIn (rnd rd) 0 P Q a w := by
  unfold okReg at hok
  simp only [Bool.and_eq_true] at hok
  obtain ⟨⟨h1, h2⟩, h3⟩ := hok
  let X : Cx := ⟨P, tm, nt, draw, ops.toList, ps, aps⟩
  obtain ⟨hlen, hone⟩ := okAll_get _ _ _ h1
  obtain ⟨val, hp, _, q2, q3, q4, q5⟩ := runOps_ran ps 0 (fun _ => .any) H ts H' hrun
  simp only [Nat.zero_add] at q3 q4 q5
  have hX : Rg X E regs val hp := by
    refine ⟨hlen.symm, fun i o p ho hp' => one_of ?_, q3, ?_⟩
    · have := hone i o p ho hp'
      rw [Nat.zero_add] at this
      exact this
    · intro x hx
      have := List.all_eq_true.1 hap x hx
      rw [q4, hlen.symm] at this
      exact this
  have hfin : ∀ c M' a' w' (w1 : World), Fr M M w w1 → Inv X regs val hp M w1 a.defers (fun j => j < X.n) c M' a' w' → Q .normal a' w' := by
    intro c M' a' w' w1 hf h
    have hs := h.done hX (fun i hi => hi)
    have : H' = hp X.n := by rw [q5, ← hlen]; rfl
    rw [← this] at hs
    refine hQ M' a' w' hs (hf.trans h.fr) ?_ h.size h.dfs
    intro j t hj
    unfold okExp at h2
    simp only [Bool.and_eq_true, List.all_eq_true, List.mem_range] at h2
    obtain ⟨k1, k2⟩ := h2
    refine nth_exports (R := fun v => RelV M' v (a'.tmps.getD t undef)) relV_any exp regs ?_ ?_
    · intro k hk
      have := k1 (j, k) hk
      simp only [decide_eq_true_eq] at this
      obtain ⟨hkn, hm⟩ := this
      rw [hj] at hm
      split at hm <;> try (cases hm; done)
      rename_i t1 t2 e1 e2
      cases e1
      simp only [beq_iff_eq] at hm
      subst hm
      rw [q4, nth_tsOf]
      have hkn' : k < ps.length := by rw [← hlen]; exact hkn
      rw [if_pos hkn']
      have hl : X.loc[ps.length - 1 - k]? = some (some t) := by rw [← hlen]; exact e2
      have hz : ps.length - 1 - k < ops.toList.length := by
        rw [hlen]
        omega
      exact h.vals _ t hz hl
    · have hjl : j < tm.length := (List.getElem?_eq_some_iff.1 hj).1
      have := k2 j hjl
      rw [hj] at this
      simp only [Bool.or_eq_true, Bool.not_eq_true', List.any_eq_true, beq_iff_eq] at this
      rcases this with hn | ⟨⟨j', k⟩, hm, rfl⟩
      · left
        refine h.rg j t hj fun i hi hr => ?_
        have : (X.raw).contains (some t) = true := by
          rw [List.contains_iff_mem, List.mem_iff_getElem?]
          exact ⟨i, hr⟩
        have hn' : (X.raw).contains (some t) = false := hn
        rw [this] at hn'
        cases hn'
      · exact .inr ⟨k, hm⟩
  cases hd : draw with
  | false =>
    refine wpIn_region ?_
    obtain ⟨c, M', hI⟩ := Inv.start (X := X) (E := E) (a := a) (w := w) (M := M) hX (by rw [q2]; exact hsat) hregs hsize
    have hI' : Inv X regs val hp M w a.defers (fun j => j < 0) c M' a w := by
      have : (fun j : Nat => j < 0) = (fun _ => False) := funext fun j => propext ⟨fun h => Nat.not_lt_zero j h, fun h => h.elim⟩
      rw [this]; exact hI
    have key := region_text (X := X) (rd := rd) hX hd hE hG hregs (Q := Q) (w0 := w) (d0 := a.defers) (fun c M' a' w' h => hfin c M' a' w' w (Fr.refl M w) h) X.n 0 c M' a w (Nat.zero_add _) hI'
    rw [List.range_eq_range']
    have e : X.n = ops.size := by simp [Cx.n, X]
    rw [e] at key
    simpa [X] using key
  | true =>
    have hm : P.follows .mixedOrders = true := by
      rw [hd] at h3
      simpa using h3
    refine wpIn_region_any hm ?_
    obtain ⟨c, M', hI⟩ := Inv.start (X := X) (E := E) (a := a) (w := w.drew) (M := M) hX (by rw [q2]; exact hsat.drew) hregs hsize
    have hn : X.n = ops.size := by simp [Cx.n, X]
    have hf : (fun j => (Array.replicate ops.size false).getD j false = true) = (fun _ => False) := funext fun j => propext (by
      simp only [Array.getD_eq_getD_getElem?, Array.getElem?_replicate]
      split <;> simp)
    have key := region_any (X := X) (rd := rd) hX hd hE hG hregs (Q := Q) (w0 := w.drew) (d0 := a.defers) (fun c M' a' w' h => hfin c M' a' w' w.drew (Fr.drew M w) h) ops.size (Array.replicate ops.size false) c M' a w.drew (by rw [hn]; simp)
      (by simp) (by rw [hf]; exact fun _ _ _ h => h.elim) (by rw [hf]; exact hI)
    simpa [X] using key
end Mini
end Go.Proofs.YtgjlofpfbhioaaaGreatDoor
