/-
  A region, in whatever order: the operations that write; the whole.
-/
import Derived.Test.YtmcgaakbkgdljaaGreatDoorMiniE15
import Derived.Test.YtmcgaakbkgdljaaGreatDoorMiniE21
namespace Go.Proofs.YtmcgaakbkgdljaaGreatDoor
namespace Mini
open Go

theorem lookup_mem {t f : Nat} : ∀ {tbl : List (Nat × Nat)}, tbl.lookup t = some f → (t, f) ∈ tbl
  | [], h => by simp at h
  | (t', f') :: tbl, h => by
    rw [List.lookup_cons] at h
    split at h
    · rename_i e
      simp only [beq_iff_eq] at e
      cases h
      rw [e]; simp
    · exact List.mem_cons_of_mem _ (lookup_mem h)
/-- A call through an interface. -/
theorem run_invoke {P : Program} {w : World} {ρ : Operand → Value} {o : Oper} {t : TypeId} {x : Value} {name : String} {f : FuncId} {r : Operand} {c : Call} (hop : o.op = .call c) (hc : c.callee = .invoke r name) (hr : ρ r = .iface t x) (hm : methodOk P t name f = true) (hf : Enters P f) :
    (execOp ρ o).run P w = .ok (.enter f (#[x] ++ c.args.map ρ)) w := by
  obtain ⟨fn, h1, h2, h3⟩ := hf
  unfold methodOk at hm
  simp only [Bool.and_eq_true] at hm
  obtain ⟨k1, k2⟩ := hm
  split at k1 <;> try (cases k1; done)
  rename_i i hi
  split at k1 <;> try (cases k1; done)
  rename_i m hfind
  simp only [Bool.and_eq_true, beq_iff_eq] at k1
  obtain ⟨q1, q2⟩ := k1
  have hpath : m.path.toList = [] := by
    rw [Array.isEmpty_iff] at q1
    rw [q1]
  obtain ⟨d, hd, hnp⟩ : ∃ d, P.underlying t = some d ∧ ∀ e, d ≠ .pointer e := by
    split at k2 <;> try (cases k2; done)
    rename_i d hne hd
    exact ⟨d, hd, hne⟩
  have hmeth : ∀ n, (method (n + 1) t x name).run P w = .ok (f, x) w := by
    intro n
    have hrec : ∀ wr, (receiverAt t (.val x) false wr).run P w = .ok x w := by
      intro wr
      simp only [receiverAt, Sem.run_bind, run_underlying hd, Result.andThen_ok]
      cases d <;> first | exact absurd rfl (hnp _) | rfl
    simp only [method, Sem.run_bind, typeInfo, run_program, Result.andThen_ok, hi, hfind, hpath, follow, Sem.run_pure, q2, hrec]
  have hcm : (callMethod (.iface t x) name (c.args.map ρ)).run P w = .ok (.enter f (#[x] ++ c.args.map ρ)) w := by
    have hpos : 0 < Made.depth := by decide
    obtain ⟨n, e⟩ : ∃ n, P.types.size + Made.depth = n + 1 := ⟨P.types.size + Made.depth - 1, by omega⟩
    simp only [callMethod, Sem.run_bind, run_program, Result.andThen_ok, e, hmeth, callFunc, h1, h2, Bool.false_eq_true, if_false, h3, Sem.run_pure]
  have hargs : (#[ρ r] ++ c.args.map ρ)[0]? = some (ρ r) := by rw [Array.getElem?_append_left (by simp)]; rfl
  have hext : (#[ρ r] ++ c.args.map ρ).extract 1 (#[ρ r] ++ c.args.map ρ).size = c.args.map ρ := by
    apply Array.ext'
    simp
    exact List.take_of_length_le (by simp)
  simp only [execOp, hop, resolve, hc, Sem.run_bind, Sem.run_pure, Result.andThen_ok, invoke, hargs, hext]
  rw [hr]
  exact hcm

section
variable {X : Cx} {E : Env} {regs : List V} {val : Nat → V} {hp : Nat → Heap} {M0 M M' : MM} {w0 w w' : World} {d0 : List Deferred} {S : Nat → Prop} {c : Nat} {a : Act} {rd : Option Nat}

theorem Inv.stepE (h : Inv X regs val hp M0 w0 d0 S c M a w) (hX : Rg X E regs val hp) (hE : EnvOk X.P E) (hG : GlobOk E.glob M0.imm) {a0 : Act} (h0 : RelRegs M0 X.tm regs a0.tmps) {i : Nat} {o : Oper} {p : Gp} (ho : X.ops[i]? = some o) (hpi : X.ps[i]? = some p) (hS : ¬ S i)
    (hcl : ∀ i j, X.ah i j = true → S j → S i) (hr : ∀ j, X.ah j i = true → S j) (he : p.op.eff = true) {Q : Exit → Act → World → Prop} {K : Act → World → Prop}
    (hK : ∀ c' M' a' w', Inv X regs val hp M0 w0 d0 (fun j => S j ∨ j = i) c' M' a' w' → K a' w') : wpOpIn (rnd rd) 0 X.P X.ops.toArray Q i K a w := by
  have hone := hX.one i o p ho hpi
  have hin := ps_lt hX hpi
  have hdf : ∀ c, o.op ≠ .defer c := hone.dfr
  have hran := hX.ran i p hpi
  -- it is the next that writes
  have hci : c = i := by
    rcases Nat.lt_trichotomy c i with hlt | rfl | hgt
    · exfalso
      obtain ⟨pc, hpc⟩ := ps_of hX (show c < X.n by omega)
      obtain ⟨k1, k2⟩ := h.cN pc hpc
      rcases hone.eff he c pc hpc (by omega) with e | e | e | e | e
      · omega
      · cases hop : pc.op <;> rw [hop] at k1 e <;> simp [O.eff] at k1 <;> simp [noHeap] at e
      · have := ah_lt e; omega
      · exact k2 (hr _ e)
      · obtain ⟨g, m, b, hld⟩ := inAps_ld e
        rw [hld] at k1
        cases k1
    · rfl
    · exact absurd (h.cS i p hgt hpi he) hS
  subst hci
  obtain ⟨c', n1, n2, n3, n4⟩ := nextEff hX (X.n - (c + 1)) (c + 1) (by omega)
  have hini : ∀ m b, p.op ≠ .ini m b := fun m b e => by rw [e] at he; cases he
  have hnp : ∀ k, partner X.ops X.ps k ≠ some c := fun k hk => by
    obtain ⟨o1, p1, t1, T, y, m, b, o2, p2, q1, q2, q3, q4, q5, q6, q7, q8, q9⟩ := partner_spec hk
    rw [hpi] at q6
    cases q6
    rw [q8] at he
    cases he
  have hwide := wides hX c' (c + 1) n1 n2 n3
  have fin : ∀ (M1 : MM) (w1 : World) (v' : Value), Sat X.P M1 (hp (c + 1)) 0 w1 → Fr M M1 w w1 → RelV M1 (val c) v' → Inv X regs val hp M0 w0 d0 (fun j => S j ∨ j = c) c' (M1.more (hp c').length) (a.put o.dst v') w1 := by
    intro M1 w1 v' hs hf hv
    obtain ⟨s1, s2⟩ := hs.wide hwide
    refine h.plain hX ho hpi hS hcl hnp hini s1 (hf.trans s2).toX n2 ?_ ?_ (RelV.mono s2.ext hv) ?_
    · intro e q h1 h2 h3
      rcases Nat.lt_trichotomy e c with hlt | rfl | hgt
      · exact .inl (h.cS e q hlt h2 h3)
      · exact .inr rfl
      · have := n3 e q (by omega) h1 h2; rw [this] at h3; cases h3
    · intro q hq
      have hqe := n4 q hq
      exact ⟨hqe, h.ahead hX hcl hq hqe (by omega), by omega⟩
    · intro j hj hSj hjc hlt
      obtain ⟨q, hq⟩ := ps_of hX (show j < X.n by omega)
      rcases Nat.lt_or_ge j c with hjc2 | hjc2
      · exfalso
        cases hqe : q.op.eff with
        | true => exact hSj (h.cS j q hjc2 hq hqe)
        | false =>
          obtain ⟨k3, k4⟩ := push_kind (hX.ran j q hq) hqe hlt
          rcases hone.eff he j q hq (by omega) with e | e | e | e | e
          · omega
          · rw [k3] at e; cases e
          · have := ah_lt e; omega
          · exact hSj (hr _ e)
          · obtain ⟨g, m, b, hld⟩ := inAps_ld e
            exact k4 g m b hld
      · have hw := wides hX j (c + 1) (by omega) (by omega) (fun e r h1 h2 => n3 e r h1 (by omega))
        exact (hs.out _ (by rw [hs.n]; exact hw.len)).1
  rcases hran with ⟨hw, hv, hh⟩ | ⟨hw, hst⟩
  · refine wpOp_skip ho (h.wanted hX ho hpi hr hw) (hK _ _ _ _ (fin M w undef (by rw [hh]; exact h.sat) (Fr.refl M w) ?_))
    rw [hv, relV_tup]
    exact ⟨#[], rfl, rfl, RelVs.nil _ _⟩
  · have hwant := h.wanted hX ho hpi hr hw
    have hA : ∀ x b, okA (X.k c) x b = true → RelV M (look E regs (tsOf val c) b) (Mini.rho X c o a a0 x) := fun x b hok => h.rho hX hG h0 ho hpi hS hcl hr hok
    have hexec : execOp a.eval o = execOp (Mini.rho X c o a a0) o := execOp_congr o hone.sel fun x hx => (rho_eq hx).symm
    have hok := hone.body hini
    rw [step_eff he] at hst
    have done : Eff X.P M (hp (c + 1)) w (execOp (Mini.rho X c o a a0) o) (val c) → wpOpIn (rnd rd) 0 X.P X.ops.toArray Q c K a w := by
      rintro ⟨nx, w1, M1, d1, d2, d3, d4⟩
      refine wpOp_did hdf ho hwant (by rw [hexec]; exact d1) ?_
      rcases d2 with ⟨v', rfl, hv'⟩ | ⟨rfl, hv'⟩
      · exact .inl ⟨v', rfl, hK _ _ _ _ (fin M1 w1 v' d3 d4 hv')⟩
      · exact .inr ⟨rfl, hK _ _ _ _ (fin M1 w1 undef d3 d4 (by rw [hv']; exact relV_any))⟩
    cases hop : p.op <;> rw [hop] at he hok hst <;> simp [O.eff] at he
    · exact done (e_st h.sat hA hok hst)
    · exact done (e_app h.sat hA hok hst)
    · exact done (e_apb h.sat hA hok hst)
    · exact done (e_cpy h.sat hA hok hst)
    · rename_i f args
      change (match look E regs (tsOf val c) f with | .c x => E.call x (args.map (look E regs (tsOf val c))) (hp c) | _ => none) = _ at hst
      split at hst <;> try (cases hst; done)
      rename_i x hx
      cases ho2 : o.op <;> simp only [okOp, ho2] at hok <;> try (cases hok; done)
      rename_i cl
      simp only [Bool.and_eq_true] at hok
      obtain ⟨h1, h2⟩ := hok
      split at h1 <;> try (cases h1; done)
      rename_i g hc
      have hrf := hA _ _ h1
      rw [hx, relV_c] at hrf
      obtain ⟨hm, hlen⟩ := mapA hA h2
      rcases hE.call x _ _ _ _ hst M w _ _ (hG.mono h.fr.ext.imm) hrf hm (by simpa using hlen.symm) h.sat with ⟨fid, first, caps, hcv, hent, hcall⟩ | ⟨l, fid, tmps, asg, body, hcv, hyl, hcall⟩
      rotate_left
      · have hargs' : (cl.args.toList.map (Mini.rho X c o a a0)).toArray = cl.args.map (Mini.rho X c o a a0) := by apply Array.ext'; simp
        rw [hargs'] at hyl
        have hrun := run_round (ρ := Mini.rho X c o a a0) ho2 hc hcv hyl
        refine wpOp_round hdf ho hwant (by rw [hexec]; exact hrun) (hcall.mono fun e w' hh => ?_)
        obtain ⟨v', M1, rfl, d1, d2, d3⟩ := hh
        exact ⟨v', rfl, hK _ _ _ _ (fin M1 w' v' d2 d3 d1)⟩
      have hrun := run_enter (w := w) (ρ := Mini.rho X c o a a0) ho2 hc hcv hent
      have hargs' : first ++ cl.args.map (Mini.rho X c o a a0) ++ caps = first ++ (cl.args.toList.map (Mini.rho X c o a a0)).toArray ++ caps := by apply Array.ext'; simp
      rw [hargs'] at hrun
      refine wpOp_call hdf ho hwant (by rw [hexec]; exact hrun) (hcall.mono fun e w' hh => ?_)
      obtain ⟨v', M1, rfl, d1, d2, d3⟩ := hh
      exact ⟨v', rfl, hK _ _ _ _ (fin M1 w' v' d2 d3 d1)⟩
    · cases ho2 : o.op <;> simp [okOp, ho2] at hok
    · cases ho2 : o.op <;> simp [okOp, ho2] at hok
    · exact done (e_mkm h.sat hok hst)
    · exact done (e_mpu h.sat hA hok hst)
    · exact done (e_lkp h.sat hA hok hst)
    · exact done (e_mdl h.sat hA hok hst)
    · exact done (e_lnm h.sat hA hok hst)
    · rename_i tbl b args
      change (match look E regs (tsOf val c) b with
        | .c (.d (.ifv t g ds)) => match tbl.lookup t, ofCells g ds.length (ds.map .d) with
          | some f, some x => E.call (.d (.fn f [] [])) (x :: args.map (look E regs (tsOf val c))) (hp c)
          | _, _ => none
        | _ => none) = _ at hst
      split at hst <;> try (cases hst; done)
      rename_i t g ds hx
      split at hst <;> try (cases hst; done)
      rename_i f x htb hof
      cases ho2 : o.op <;> simp only [okOp, ho2] at hok <;> try (cases hok; done)
      rename_i cl
      simp only [Bool.and_eq_true] at hok
      obtain ⟨h1, h2⟩ := hok
      split at h1 <;> try (cases h1; done)
      rename_i r name hc
      simp only [Bool.and_eq_true, List.all_eq_true] at h1
      obtain ⟨h1, h3⟩ := h1
      have hrf := hA _ _ h1
      rw [hx, relV_d] at hrf
      obtain ⟨xv, hrv, hxv⟩ : ∃ xv, Mini.rho X c o a a0 r = .iface t xv ∧ RelV M x xv := by
        unfold ofCells at hof
        rw [if_pos (by simp)] at hof
        cases g with
        | true =>
          simp only [RelD] at hrf
          obtain ⟨arr, e1, e2, e3⟩ := hrf
          simp only [if_true, Option.some.injEq] at hof
          subst hof
          exact ⟨_, e1, by rw [relV_agg]; exact ⟨arr, rfl, by simpa using e2, RelCs.of_d.2 e3⟩⟩
        | false =>
          simp only [RelD] at hrf
          obtain ⟨vx, e1, e2, e3⟩ := hrf
          match ds, e2, e3, hof with
          | [d], _, e3, hof =>
            simp only [Bool.false_eq_true, if_false, List.map_cons, List.map_nil, Option.some.injEq] at hof
            subst hof
            simp only [RelDs] at e3
            exact ⟨vx, e1, by rw [relV_d]; exact e3.1⟩
      obtain ⟨hm, hlen⟩ := mapA hA h2
      have hmeth : methodOk X.P t name f = true := by
        have : (t, f) ∈ tbl := lookup_mem htb
        exact h3 (t, f) this
      rcases hE.call _ _ _ _ _ hst M w (.func (.func f) #[] #[]) (xv :: cl.args.toList.map (Mini.rho X c o a a0)) (hG.mono h.fr.ext.imm) (by simp only [RelC, RelD]; exact ⟨#[], #[], rfl, RelDs.nil _ _, rfl, RelDs.nil _ _, rfl⟩) (by simp only [RelVs]; exact ⟨hxv, hm⟩) (by simpa using hlen.symm) h.sat with ⟨fid, first, caps, hcv, hent, hcall⟩ | ⟨l, fid, tmps, asg, body, hcv, _, _⟩
      rotate_left
      · simp at hcv
      simp only [Value.func.injEq, Fn.func.injEq] at hcv
      obtain ⟨rfl, rfl, rfl⟩ := hcv
      have hrun := run_invoke (w := w) (ρ := Mini.rho X c o a a0) ho2 hc hrv hmeth hent
      have hargs' : #[xv] ++ cl.args.map (Mini.rho X c o a a0) = #[] ++ (xv :: cl.args.toList.map (Mini.rho X c o a a0)).toArray ++ #[] := by apply Array.ext'; simp
      rw [hargs'] at hrun
      refine wpOp_call hdf ho hwant (by rw [hexec]; exact hrun) (hcall.mono fun e w' hh => ?_)
      obtain ⟨v', M1, rfl, d1, d2, d3⟩ := hh
      exact ⟨v', rfl, hK _ _ _ _ (fin M1 w' v' d2 d3 d1)⟩
    · exact done (e_rgs h.sat hA hok hst)
    · exact done (e_nxs h.sat hA hok hst)
    · exact done (e_rgm h.sat hA hok hst)
    · exact done (e_ent h.sat hA hok hst)
    · exact done (e_clr h.sat hA hok hst)

theorem Inv.step (h : Inv X regs val hp M0 w0 d0 S c M a w) (hX : Rg X E regs val hp) (hE : EnvOk X.P E) (hG : GlobOk E.glob M0.imm) {a0 : Act} (h0 : RelRegs M0 X.tm regs a0.tmps) {i : Nat} (hi : i < X.n) (hS : ¬ S i)
    (hcl : ∀ i j, X.ah i j = true → S j → S i) (hr : ∀ j, X.ah j i = true → S j) {Q : Exit → Act → World → Prop} {K : Act → World → Prop}
    (hK : ∀ c' M' a' w', Inv X regs val hp M0 w0 d0 (fun j => S j ∨ j = i) c' M' a' w' → K a' w') : wpOpIn (rnd rd) 0 X.P X.ops.toArray Q i K a w := by
  obtain ⟨o, ho⟩ := ops_of hi
  obtain ⟨p, hp'⟩ := ps_of hX hi
  cases he : p.op.eff with
  | true => exact h.stepE hX hE hG h0 ho hp' hS hcl hr he hK
  | false => exact h.stepQ hX hE hG h0 ho hp' hS hcl hr he hK

/-- Ahead of all. -/
theorem Inv.start (hX : Rg X E regs val hp) (hsat : Sat X.P M (hp 0) 0 w) (h0 : RelRegs M X.tm regs a.tmps) (hsz : a.tmps.size = X.nt) : ∃ c M', Inv X regs val hp M w a.defers (fun _ => False) c M' a w := by
  obtain ⟨c, n1, n2, n3, n4⟩ := nextEff hX X.n 0 (by omega)
  have hw := wides hX c 0 n1 n2 n3
  obtain ⟨s1, s2⟩ := hsat.wide hw
  refine ⟨c, M.more (hp c).length, hsz, rfl, n2, ?_, fun p hp' => ⟨n4 p hp', fun h => h⟩, s1, s2, fun _ _ h => h.elim, fun j t hj _ => RelV.mono s2.ext (h0 j t hj), ?_, fun _ _ _ h => h.elim, fun _ _ _ _ _ _ _ _ h => h.elim⟩
  · intro e p h1 h2 h3
    have := n3 e p (by omega) h1 h2
    rw [this] at h3
    cases h3
  · intro i hi _ hlt
    have hw2 := wides hX i 0 (by omega) (by omega) (fun e p h1 h2 => n3 e p h1 (by omega))
    exact (hsat.out _ (by rw [hsat.n]; exact hw2.len)).1

/-- Behind all. -/
theorem Inv.done (h : Inv X regs val hp M0 w0 d0 S c M a w) (hX : Rg X E regs val hp) (hall : ∀ i, i < X.n → S i) : Sat X.P M (hp X.n) 0 w := by
  have hc : c = X.n := by
    rcases Nat.lt_or_ge c X.n with hlt | hge
    · obtain ⟨p, hp'⟩ := ps_of hX hlt
      exact absurd (hall c hlt) (h.cN p hp').2
    · have := h.cle; omega
  rw [← hc]
  exact h.sat

theorem nth_put : ∀ (regs : List V) (j : Nat) (v : V) (j' : Nat), nth (put regs j v) j' = if j' = j then (if j < regs.length then v else .any) else nth regs j'
  | [], j, v, j' => by simp [put, nth]
  | x :: xs, 0, v, 0 => by simp [put, nth]
  | x :: xs, 0, v, j' + 1 => by simp [put, nth]
  | x :: xs, j + 1, v, 0 => by simp [put, nth]
  | x :: xs, j + 1, v, j' + 1 => by
    simp only [put, nth, nth_put xs j v j', List.length_cons]
    by_cases h : j' = j
    · subst h; simp
    · simp [h]

theorem nth_exports {R : V → Prop} (hany : R .any) {ts : List V} {j : Nat} : ∀ (exp : List (Nat × Nat)) (regs : List V), (∀ k, (j, k) ∈ exp → R (nth ts k)) → (R (nth regs j) ∨ ∃ k, (j, k) ∈ exp) → R (nth (exports regs ts exp) j)
  | [], regs, _, h => by
    rcases h with h | ⟨k, hk⟩
    · exact h
    · cases hk
  | (j1, k1) :: exp, regs, hall, h => by
    simp only [exports]
    refine nth_exports hany exp _ (fun k hk => hall k (by simp [hk])) ?_
    rw [nth_put]
    by_cases e : j = j1
    · subst e
      left
      rw [if_pos rfl]
      split
      · exact hall k1 (by simp)
      · exact hany
    · rw [if_neg e]
      rcases h with h | ⟨k, hk⟩
      · exact .inl h
      · simp only [List.mem_cons, Prod.mk.injEq] at hk
        rcases hk with ⟨h1, _⟩ | hk
        · exact absurd h1 e
        · exact .inr ⟨k, hk⟩
end
end Mini
end Go.Proofs.YtmcgaakbkgdljaaGreatDoor
