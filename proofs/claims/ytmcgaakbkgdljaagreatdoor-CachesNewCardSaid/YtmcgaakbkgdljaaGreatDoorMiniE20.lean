/-
  Calls: what the abstract machine answers, the code answers.
-/
import Derived.Test.YtmcgaakbkgdljaaGreatDoorMiniE19
namespace Go.Proofs.YtmcgaakbkgdljaaGreatDoor
namespace Mini
open Go

/-- A primitive on the shared heap. -/
def HeapPrim (P : Program) (G : Nat → Option (List D)) (f : FuncId) (args : List V) (H : Heap) (v : V) (H' : Heap) : Prop :=
  ∀ (M : MM) (w : World) (us : List Value), GlobOk G M.imm → RelVs M args us → args.length = us.length → Sat P M H 0 w →
    Calls P f us.toArray w fun e w' => ∃ v' M', e = .returned v' ∧ RelV M' v v' ∧ Sat P M' H' 0 w' ∧ Fr M M' w w'

structure CtxOk (P : Program) (X : Ctx) : Prop where
  fns : ∀ f F, X.fns f = some F → Enters P f ∧ ∃ fn, P.funcs[f]? = some fn ∧ okFn P F fn = true
  prim : ∀ f vs r, X.prim f vs = some r → Enters P f ∧ ValCall P X.glob f vs r
  hprim : ∀ f vs H r H', X.hprim f vs H = some (r, H') → Enters P f ∧ HeapPrim P X.glob f vs H r H'

section
variable {P : Program} {M : MM} {w : World} {E : Env}

theorem RelVs.append : ∀ {xs ys : List V} {us vs : List Value}, RelVs M xs us → xs.length = us.length → RelVs M ys vs → RelVs M (xs ++ ys) (us ++ vs)
  | [], ys, [], vs, _, _, h => h
  | [], ys, _ :: _, vs, _, hl, _ => by simp at hl
  | x :: xs, ys, [], vs, _, hl, _ => by simp at hl
  | x :: xs, ys, u :: us, vs, h, hl, k => by
    simp only [RelVs] at h
    simp only [List.cons_append, RelVs]
    exact ⟨h.1, RelVs.append h.2 (by simpa using hl) k⟩

theorem RelVs.of_cs : ∀ {cs : List C} {vs : List Value}, RelCs M cs vs → RelVs M (cs.map .c) vs
  | [], _, _ => RelVs.nil _ _
  | _ :: _, [], h => by simp only [RelCs] at h
  | c :: cs, v :: vs, h => by
    simp only [RelCs] at h
    simp only [List.map_cons, RelVs, RelV]
    exact ⟨h.1, RelVs.of_cs h.2⟩

theorem nth_append (xs ys : List V) (j : Nat) : nth (xs ++ ys) j = if j < xs.length then nth xs j else nth ys (j - xs.length) := by
  induction xs generalizing j with
  | nil => simp []
  | cons x xs ih =>
    cases j with
    | zero => simp [nth]
    | succ j =>
      simp only [List.cons_append, nth, ih, List.length_cons]
      by_cases h : j < xs.length
      · rw [if_pos h, if_pos (by omega)]
      · rw [if_neg h, if_neg (by omega), show j + 1 - (xs.length + 1) = j - xs.length by omega]
theorem nth_replicate (n j : Nat) : nth (List.replicate n V.any) j = .any := by
  induction n generalizing j with
  | zero => simp [nth]
  | succ n ih => cases j <;> simp [List.replicate_succ, nth, ih]

theorem nth_rel : ∀ {xs : List V} {us : List Value} {j : Nat}, RelVs M xs us → RelV M (nth xs j) (us.getD j undef)
  | [], us, j, _ => relV_any
  | _ :: _, [], j, h => by simp only [RelVs] at h
  | x :: xs, u :: us, 0, h => by simp only [RelVs] at h; simp only [nth]; exact h.1
  | x :: xs, u :: us, j + 1, h => by
    simp only [RelVs] at h
    simp only [nth]
    have := nth_rel (j := j) h.2
    simpa using this

/-- The marks are taken, one behind the other. -/
theorem leaves_marks {M' : MM} {H : Heap} {w0 : World} {fn : Func} {tmps : Array Value} {R : Ending → World → Prop} : ∀ (rs : List Nat) {w : World}, rs.Nodup → (∀ r ∈ rs, w0.heap.size ≤ r ∧ w.heap[r]? = some (.deferred (some [])) ∧ ¬ M'.Owns r ∧ M'.imm r = none) → Sat P M' H 0 w → Fr M M' w0 w →
    (∀ w1, Sat P M' H 0 w1 → Fr M M' w0 w1 → ∃ v, (Go.results fn tmps).run P w1 = .ok v w1 ∧ R (.returned v) w1) → LeavesInM Fence.wide 0 P fn tmps R (rs.map markOf) .returning w
  | [], w, _, _, hs, hf, hR => hR w hs hf
  | r :: rs, w, hnd, hm, hs, hf, hR => by
    obtain ⟨h1, h2, h3, h4⟩ := hm r (by simp)
    have hlt := (Array.getElem?_eq_some_iff.1 h2).1
    have hkeep : ∀ B : Nat, B ≠ r → (w.putObj r (.deferred none)).heap[B]? = w.heap[B]? := fun B hB => World.putObj_heap_other hB
    refine ⟨by simp, .inl ⟨r, w.putObj r (.deferred none), rfl, run_takeDeferred h2, leaves_marks rs (List.nodup_cons.1 hnd).2 (fun r' hr' => ?_) ?_ ?_ hR⟩⟩
    · obtain ⟨k1, k2, k3, k4⟩ := hm r' (by simp [hr'])
      exact ⟨k1, by rw [hkeep r' (fun e => (List.nodup_cons.1 hnd).1 (e ▸ hr'))]; exact k2, k3, k4⟩
    · refine ⟨hs.n, hs.out, fun B o hB => ?_, fun id l hl => ?_, hs.idle, hs.inj, fun B t hb => ?_, hs.bty⟩
      rotate_left 2
      · obtain ⟨a, f, hh⟩ := hs.ty B t hb
        exact ⟨a, f, by rw [hkeep B (fun e => by subst e; rw [h2] at hh; cases hh)]; exact hh⟩
      · rw [hkeep B (fun e => by subst e; rw [h4] at hB; cases hB)]
        exact hs.imm B o hB
      · obtain ⟨o, ho, hos⟩ := hs.obj id l hl
        refine ⟨o, ho, ?_⟩
        cases l with
        | none => cases o <;> simp only [ObSat] at hos ⊢ <;> first | exact hos | exact hos.elim
        | some l =>
          obtain ⟨B, b, c⟩ := l
          exact obSat_move (Ext.refl M') rfl (hkeep B (fun e => h3 ⟨id, b, c, by rw [← e]; exact hl⟩)) (fun h => h) hos
    · exact ⟨hf.ext, hf.os, hf.tape, hf.output, by simpa using hf.size, fun B hB hno => by rw [hkeep B (by omega)]; exact hf.keep B hB hno, hf.own, hf.imm⟩

theorem runFn_ok (hE : EnvOk P E) {fuel : Nat} {F : Fn} {fn : Func} {f : FuncId} {args : List V} {us : List Value} {H H' : Heap} {v : V} (hf : P.funcs[f]? = some fn) (hok : okFn P F fn = true) (h : runFn E fuel F args H = some (v, H'))
    (hG : GlobOk E.glob M.imm) (hs : Sat P M H 0 w) (hargs : RelVs M args us) (hl : args.length = us.length) :
    Calls P f us.toArray w fun e w' => ∃ v' M', e = .returned v' ∧ RelV M' v v' ∧ Sat P M' H' 0 w' ∧ Fr M M' w w' := by
  unfold okFn at hok
  simp only [Bool.and_eq_true, decide_eq_true_eq, List.all_eq_true] at hok
  obtain ⟨⟨⟨⟨⟨⟨⟨h1, h2⟩, h3⟩, h4⟩, h5⟩, h6⟩, h7⟩, h8⟩ := hok
  split at h8 <;> try (cases h8; done)
  rename_i c hc
  unfold runFn at h
  split at h <;> try (cases h; done)
  rename_i hnp
  -- how the frame begins
  have hle : us.length ≤ fn.ntmps := by
    rw [← hl, hnp]
    rcases Nat.eq_zero_or_pos F.np with h0 | hpos
    · omega
    · have hm : F.np - 1 ∈ F.tm := by
        have : (F.tm.take F.np)[F.np - 1]? = some (F.np - 1) := by rw [h4, List.getElem?_range (by omega)]
        rw [List.getElem?_take, if_pos (by omega)] at this
        exact List.mem_of_getElem? this
      have := h6 _ hm
      omega
  have hst : StRel P F.tm fn.ntmps M w ⟨pad F.nr args, H⟩ { tmps := us.toArray ++ Array.replicate (fn.ntmps - us.toArray.size) undef, defers := [] } w := by
    refine ⟨M, hs, Fr.refl M w, ?_, by simp; omega, Marks.nil M w w⟩
    intro j t hj
    simp only [pad]
    rw [nth_append]
    split
    · rename_i hlt
      have ht : t = j := by
        have : (F.tm.take F.np)[j]? = some t := by rw [List.getElem?_take, if_pos (by omega)]; exact hj
        rw [h4, List.getElem?_range (by omega)] at this
        exact (Option.some.inj this).symm
      subst ht
      have := nth_rel (j := t) hargs
      have e : (us.toArray ++ Array.replicate (fn.ntmps - us.toArray.size) undef).getD t undef = us.getD t undef := by
        rw [Array.getD_eq_getD_getElem?, List.getD_eq_getElem?_getD, Array.getElem?_append_left (by simp; omega)]
        simp
      rw [e]
      exact this
    · rw [nth_replicate]; exact relV_any
  cases hx : exec E fuel false F.body ⟨pad F.nr args, H⟩ with
  | none => rw [hx] at h; simp at h
  | some r =>
    obtain ⟨e, s⟩ := r
    rw [hx] at h
    have hne : ∀ id, e ≠ .exit id := fun id he => by subst he; simp at h
    have hres : ((Mini.results s.regs s.heap F.res).map fun v => (v, s.heap)) = some (v, H') := by
      cases e with
      | nrm => exact h
      | ret => exact h
      | exit id => exact absurd rfl (hne id)
    simp only [Option.map_eq_some_iff, Prod.mk.injEq] at hres
    obtain ⟨v0, hres, rfl, rfl⟩ := hres
    refine (callsIn_wide (n := 0)).1 (callsIn_of_wp_marks hf hc trivial (exec_ok hE fuel F.body none M w c _ s e _ w _ hx h8 hG hst fun a' w' hs' => ?_))
    obtain ⟨M', k1, k2, k3, k4, rs, k5, k6, k7⟩ := hs'
    have hb : LeavesInM Fence.wide 0 P fn a'.tmps (fun e w' => ∃ v' M', e = .returned v' ∧ RelV M' v0 v' ∧ Sat P M' s.heap 0 w' ∧ Fr M M' w w') a'.defers .returning w' := by
      rw [k5]
      refine leaves_marks rs k6 k7 k1 k2 fun w1 q1 q2 => ?_
      obtain ⟨u, hu, hru⟩ := results_ok q1 k3 hres h7
      exact ⟨u, hu, u, M', rfl, hru, q1, q2⟩
    cases e with
    | nrm => exact hb
    | ret => exact hb
    | exit id => exact absurd rfl (hne id)

/-- Results, read out. -/
theorem deepV_rel {H : Heap} {r rv : V} {v : Value} (hs : Sat P M H 0 w) (h : deepV H r = some rv) (hr : RelV M r v) : ∃ ids, RelV (mm (immX M w ids)) rv v := by
  by_cases ht : ∃ vs, r = .tup vs
  · obtain ⟨vs, rfl⟩ := ht
    simp only [deepV, Option.map_eq_some_iff] at h
    obtain ⟨ys, hys, rfl⟩ := h
    rw [relV_tup] at hr
    obtain ⟨arr, rfl, h1, h2⟩ := hr
    obtain ⟨hlen, hget⟩ := mapO_get hys
    refine ⟨vs.flatMap (reachV H), ?_⟩
    rw [relV_tup]
    refine ⟨arr, rfl, by omega, ?_⟩
    rw [RelVs.iff]
    intro j y hy
    obtain ⟨x, hx, hxy⟩ := hget j y hy
    obtain ⟨u, hu, hru⟩ := RelVs.iff.1 h2 j x hx
    exact ⟨u, hu, deepV1_rel hs (Sub.refl H) hxy hru fun id hid => List.mem_flatMap.2 ⟨x, List.mem_of_getElem? hx, hid⟩⟩
  · have h' : deepV1 H r = some rv := by
      cases r with
      | tup vs => exact absurd ⟨vs, rfl⟩ ht
      | _ => exact h
    exact ⟨reachV H r, deepV1_rel hs (Sub.refl H) h' hr fun _ h => h⟩

theorem sat_nil {I : Imm} (h : ∀ B o, I B = some o → w.heap[B]? = some o) : Sat P (mm I) [] 0 w :=
  ⟨rfl, fun _ _ => ⟨rfl, rfl⟩, h, fun id l h => (by cases h), fun id o h => (by simp [ob?] at h), fun _ _ _ _ _ _ _ h => (by cases h), fun _ _ h => (by cases h), fun _ _ _ _ h => (by cases h)⟩

/-- A call on an empty heap is a call by value. -/
theorem val_of_heap {G : Nat → Option (List D)} {f : FuncId} {vs : List V} {r rv : V} {H' : Heap} (h : HeapCall P G (.d (.fn f [] [])) vs [] r H') (hd : deepV H' r = some rv) : ValCall P G f vs rv := by
  intro I w us hG hI hrel hlen
  rcases h (mm I) w (.func (.func f) #[] #[]) us hG (by simp only [RelC, RelD]; exact ⟨#[], #[], rfl, RelDs.nil _ _, rfl, RelDs.nil _ _, rfl⟩) hrel hlen (sat_nil hI) with ⟨f', first, caps, h1, h2, h3⟩ | ⟨_, _, _, _, _, h1, _⟩
  rotate_left
  · simp at h1
  simp only [Value.func.injEq, Fn.func.injEq] at h1
  obtain ⟨rfl, rfl, rfl⟩ := h1
  have e : #[] ++ us.toArray ++ #[] = us.toArray := by simp
  rw [e] at h3
  refine h3.mono fun e w' hh => ?_
  obtain ⟨v', M', rfl, k1, k2, k3⟩ := hh
  obtain ⟨ids, hr⟩ := deepV_rel k2 hd k1
  refine ⟨v', immX M' w' ids, rfl, hr, fun B o hB => immX_le B o (k3.ext.imm B o hB), fun B o hB => immX_heap k2 hB, ?_, k3.os, k3.tape, k3.output, k3.size, fun B hB => k3.keep B hB (fun ⟨_, _, _, h⟩ => by cases h)⟩
  intro B o hB
  have own : ∀ B, M'.Owns B → w.heap.size ≤ B := fun B hB => (k3.own B hB).resolve_left (fun ⟨_, _, _, h⟩ => by cases h)
  unfold immX at hB
  split at hB
  · rename_i o' ho'
    cases hB
    rcases k3.imm B _ ho' with h | ⟨_, _, _, h⟩ | h
    · exact .inl h
    · cases h
    · exact .inr h
  · split at hB
    · rename_i hex
      obtain ⟨id, _, b, c, hl⟩ := hex
      exact .inr (own B ⟨id, b, c, hl⟩)
    · cases hB
end

def envN (X : Ctx) (n : Nat) : Env := {
  call := callN X n
  vcall := fun f vs => match X.prim f vs with
    | some r => some r
    | none => match callN X n (.d (.fn f [] [])) vs [] with
      | some (r, H') => deepV H' r
      | none => none
  prim := X.prim, bprim := X.bprim, glob := X.glob }

theorem callN_enters {P : Program} {X : Ctx} (hX : CtxOk P X) {n : Nat} {f : FuncId} {first caps : List D} {vs : List V} {H H' : Heap} {r : V} (h : callN X n (.d (.fn f first caps)) vs H = some (r, H')) : Enters P f := by
  cases n with
  | zero => simp [callN] at h
  | succ n =>
    simp only [callN] at h
    split at h
    · rename_i F hF; exact (hX.fns f F hF).1
    · exact (hX.hprim _ _ _ _ _ h).1

/-! ### A round -/
theorem loop_at {P : Program} {M : MM} {H : Heap} {w : World} {id l : Nat} {rdy : Bool} {pend : Option Ex} {regs : List V} {ps : List Nat} {asg body : I} (hs : Sat P M H 0 w) (ho : ob? H id = some (.loop rdy pend regs ps asg body)) (hl : M.gen id = 0 → ∃ b c, M.loc id = some (some (l, b, c))) :
    M.gen id = 0 ∧ ∃ b c, M.loc id = some (some (l, b, c)) ∧ LoopSat P M w 0 rdy pend regs ps asg body l := by
  have hg0 : M.gen id = 0 := by
    cases hl : M.loc id with
    | none =>
      rcases hs.idle _ _ ho hl with e | e
      · cases e
      · exact e
    | some l' =>
      obtain ⟨o, ho', hos⟩ := hs.obj _ _ hl
      rw [ho] at ho'
      cases ho'
      cases l' with
      | none => simp [ObSat] at hos
      | some l' => simp only [ObSat] at hos; exact hos.1
  obtain ⟨b, c, hl⟩ := hl hg0
  obtain ⟨o, ho', hos⟩ := hs.obj _ _ hl
  rw [ho] at ho'
  cases ho'
  simp only [ObSat] at hos
  exact ⟨hg0, b, c, hl, hos.2⟩

/-- The loop's record turns. -/
theorem turn_sat {P : Program} {M : MM} {w : World} {H : Heap} {id B b c : Nat} {o : Obj} {q q0 : Ob} (hs : Sat P M H 0 w) (hl : M.loc id = some (some (B, b, c))) (hi : M.imm B = none) (ho : ob? H id = some q0) (hq : ∀ w', w'.heap[B]? = some o → ObSat P M w' 0 id q (some (B, b, c))) (hL : ∃ L, w.heap[B]? = some (.loop L)) :
    Sat P M (setOb H id q) 0 (w.putObj B o) ∧ Fr M M w (w.putObj B o) := by
  have hB := hs.block_lt ⟨id, b, c, hl⟩
  have hkeep : ∀ B' : Nat, B' ≠ B → (w.putObj B o).heap[B']? = w.heap[B']? := fun B' hB => World.putObj_heap_other hB
  refine ⟨⟨by rw [setOb_length]; exact hs.n, hs.out, ?_, ?_, ?_, hs.inj, fun B' t hb => by
      obtain ⟨a, f, hh⟩ := hs.ty B' t hb
      obtain ⟨L, hL⟩ := hL
      exact ⟨a, f, by rw [hkeep B' (fun e => by subst e; rw [hL] at hh; cases hh)]; exact hh⟩, hs.bty⟩, ⟨Ext.refl M, rfl, rfl, rfl, by simp, fun B' _ hno => hkeep B' (fun e => hno ⟨id, b, c, by rw [e]; exact hl⟩), fun B h => .inl h, fun B o ho => .inl ho⟩⟩
  · intro B' o' hB'
    rw [hkeep B' (fun e => by subst e; rw [hi] at hB'; cases hB')]
    exact hs.imm B' o' hB'
  · intro j l hj
    by_cases e : j = id
    · subst e
      rw [hl, Option.some.injEq] at hj
      subst hj
      exact ⟨q, ob?_setOb_same ho, hq _ (World.putObj_heap_same hB)⟩
    · obtain ⟨o', ho', hos⟩ := hs.obj j l hj
      refine ⟨o', by rw [ob?_setOb_ne e]; exact ho', ?_⟩
      cases l with
      | none => cases o' <;> simp only [ObSat] at hos ⊢ <;> first | exact hos | exact hos.elim
      | some l =>
        obtain ⟨B', b', c'⟩ := l
        exact obSat_move (Ext.refl M) rfl (hkeep B' (fun e' => e (hs.inj j id B b' c' b c (by rw [← e']; exact hj) hl))) (fun h => h) hos
  · intro j q' hq' hlj
    by_cases e : j = id
    · subst e; rw [hl] at hlj; cases hlj
    · rw [ob?_setOb_ne e] at hq'
      exact hs.idle j q' hq' hlj

theorem once_inj : ∀ {tm : List Nat} {j k t : Nat}, once tm = true → tm[j]? = some t → tm[k]? = some t → j = k
  | [], _, _, _, _, h, _ => by simp at h
  | x :: xs, 0, 0, _, _, _, _ => rfl
  | x :: xs, 0, k + 1, t, h, h1, h2 => by
    simp only [once, Bool.and_eq_true, Bool.not_eq_true'] at h
    simp at h1 h2
    subst h1
    have := List.mem_of_getElem? h2
    rw [← List.contains_iff_mem, h.1] at this
    cases this
  | x :: xs, j + 1, 0, t, h, h1, h2 => by
    simp only [once, Bool.and_eq_true, Bool.not_eq_true'] at h
    simp at h1 h2
    subst h2
    have := List.mem_of_getElem? h1
    rw [← List.contains_iff_mem, h.1] at this
    cases this
  | x :: xs, j + 1, k + 1, t, h, h1, h2 => by
    simp only [once, Bool.and_eq_true, Bool.not_eq_true'] at h
    simp at h1 h2
    rw [once_inj h.2 h1 h2]

theorem putAll_rel {M : MM} {tm : List Nat} {nt : Nat} (h1 : once tm = true) (h2 : tm.all (fun t => decide (t < nt)) = true) : ∀ {ps : List Nat} {params : List Tmp} {args : List V} {us : List Value} {regs : List V} {tmps : Array Value}, ps.map (fun j => tm[j]?) = params.map some → tmps.size = nt → RelRegs M tm regs tmps → RelVs M args us → args.length = us.length → args.length = ps.length →
    RelRegs M tm (putAll regs ps args) ((params.zip us).foldl (fun tmps (t, a) => tmps.setIfInBounds t a) tmps) ∧ ((params.zip us).foldl (fun tmps (t, a) => tmps.setIfInBounds t a) tmps).size = nt
  | [], params, args, us, regs, tmps, hp, hsz, hr, _, _, hl2 => by
    have : args = [] := List.length_eq_zero_iff.1 (by simpa using hl2)
    subst this
    have : params = [] := by
      cases params with
      | nil => rfl
      | cons a b => simp at hp
    subst this
    exact ⟨hr, hsz⟩
  | p :: ps, params, args, us, regs, tmps, hp, hsz, hr, hrel, hl1, hl2 => by
    match params, args, us, hp, hrel, hl1, hl2 with
    | t :: params, v :: args, u :: us, hp, hrel, hl1, hl2 =>
      simp only [List.map_cons, List.cons.injEq] at hp
      simp only [RelVs] at hrel
      simp only [List.zip_cons_cons, List.foldl_cons, putAll]
      refine putAll_rel h1 h2 hp.2 (by simpa using hsz) ?_ hrel.2 (by simpa using hl1) (by simpa using hl2)
      intro j t' hj
      rw [nth_put]
      by_cases e : j = p
      · subst e
        rw [hp.1, Option.some.injEq] at hj
        subst hj
        rw [if_pos rfl]
        split
        · have ht : t < tmps.size := by
            rw [hsz]
            have := List.all_eq_true.1 h2 t (List.mem_of_getElem? hp.1)
            simpa using this
          simp [Array.getD, ht]
          exact hrel.1
        · exact relV_any
      · rw [if_neg e]
        have hne : t ≠ t' := fun e' => e (by subst e'; exact once_inj h1 hj hp.1)
        have : (tmps.setIfInBounds t u).getD t' undef = tmps.getD t' undef := by
          rw [Array.getD_eq_getD_getElem?, Array.getD_eq_getD_getElem?, Array.getElem?_setIfInBounds_ne hne]
        rw [this]
        exact hr j t' hj

theorem round_ok {P : Program} {E : Env} (hE : EnvOk P E) {M : MM} {w : World} {cv : Value} {us : List Value} {id n : Nat} {args : List V} {H : Heap} {regs regs1 regs2 : List V} {ps ps1 ps2 : List Nat} {asg asg1 asg2 body body1 body2 : I} {s1 s2 : St} {ex : Ex}
    (hG : GlobOk E.glob M.imm) (hcv : RelC M (.yld id) cv) (hargs : RelVs M args us) (hlen : args.length = us.length) (hs : Sat P M H 0 w) (ho : ob? H id = some (.loop true none regs ps asg body)) (hpl : args.length = ps.length)
    (hx1 : exec E n true asg ⟨putAll regs ps args, H⟩ = some (.nrm, s1)) (ho1 : ob? s1.heap id = some (.loop true none regs1 ps1 asg1 body1))
    (hx2 : exec E n true body ⟨s1.regs, setOb s1.heap id (.loop false none regs1 ps1 asg1 body1)⟩ = some (ex, s2)) (ho2 : ob? s2.heap id = some (.loop false none regs2 ps2 asg2 body2)) :
    ∃ l f tmps asg' body', cv = .func (.yield l) #[] #[] ∧ (Instr.yield l us.toArray).run P w = .ok (.round l f tmps asg' body') w ∧
      RoundIn Fence.wide 0 P l f tmps asg' body' w fun e w' => ∃ v' M', e = .returned v' ∧ RelV M' (.c (.d (.bool (ex == .nrm)))) v' ∧ Sat P M' (setOb s2.heap id (.loop (ex == .nrm) (if ex == .nrm then none else some ex) regs2 ps2 asg2 body2)) 0 w' ∧ Fr M M' w w' := by
  simp only [RelC] at hcv
  obtain ⟨hid, l, rfl, hloc⟩ := hcv
  obtain ⟨hg0, b, c, hl, L, hL, _, him, ⟨hst, hpe⟩, tm, nt, k1, k2, k3, k4, k5, k6, k7⟩ := loop_at hs ho hloc
  have hsz : us.toArray.size = L.params.size := by
    have := congrArg List.length k3
    simp at this
    simp; omega
  have hfold : ((L.params.zip us.toArray).foldl (fun tmps (t, a) => tmps.setIfInBounds t a) L.tmps) = ((L.params.toList.zip us).foldl (fun tmps (t, a) => tmps.setIfInBounds t a) L.tmps) := by
    rw [← Array.foldl_toList]
    congr 1
    simp
  obtain ⟨hr1, hsz1⟩ := putAll_rel k5 k7 k3 k6 k4 hargs hlen hpl
  refine ⟨l, L.fn, _, L.assign, L.body, rfl, run_yield hL hsz, roundIn_of_wpIn trivial ?_⟩
  rw [hfold]
  -- the assignment
  have hst0 : StRel P tm nt M w ⟨putAll regs ps args, H⟩ { tmps := (L.params.toList.zip us).foldl (fun tmps (t, a) => tmps.setIfInBounds t a) L.tmps, defers := [] } w := ⟨M, hs, Fr.refl M w, hr1, hsz1, Marks.nil M w w⟩
  refine exec_ok hE n asg (some l) M w L.assign _ s1 .nrm _ w _ hx1 k1 hG hst0 fun a1 w1 hs1 => ?_
  obtain ⟨M1, m1, m2, m3, m4, m5⟩ := hs1
  have keep : ∀ (M' : MM) (H' : Heap) (w' : World) (rdy : Bool) (pend : Option Ex) (regs' : List V) (ps' : List Nat) (asg' body' : I), Sat P M' H' 0 w' → Fr M M' w w' → ob? H' id = some (.loop rdy pend regs' ps' asg' body') →
      M'.gen id = 0 ∧ M'.loc id = some (some (l, b, c)) ∧ LoopSat P M' w' 0 rdy pend regs' ps' asg' body' l := by
    intro M' H' w' rdy pend regs' ps' asg' body' hs' hf ho'
    have hloc' : M'.gen id = 0 → ∃ b c, M'.loc id = some (some (l, b, c)) := fun hg => ⟨b, c, hf.ext.loc id _ hid (by rw [hg, hg0]) hl⟩
    obtain ⟨g1, b', c', g2, g3⟩ := loop_at hs' ho' hloc'
    exact ⟨g1, hf.ext.loc id _ hid (by rw [g1, hg0]) hl, g3⟩
  obtain ⟨n1, n2, L1, hL1, _, him1, ⟨hst1, _⟩, r1⟩ := keep _ _ _ _ _ _ _ _ _ m1 m2 ho1
  obtain ⟨t1, t2⟩ := turn_sat (q := .loop false none regs1 ps1 asg1 body1) (o := .loop { L1 with state := .busy }) m1 n2 him1 ho1 (fun w' hw' => by
    simp only [ObSat]
    exact ⟨n1, _, hw', Nat.zero_le _, him1, rfl, r1⟩) ⟨_, hL1⟩
  refine ⟨_, run_beginRound hL1 hst1, ?_⟩
  have hst1' : StRel P tm nt M w ⟨s1.regs, setOb s1.heap id (.loop false none regs1 ps1 asg1 body1)⟩ a1 (w1.putObj l (.loop { L1 with state := .busy })) := ⟨M1, t1, m2.trans t2, m3, m4, m5.keep t2⟩
  refine exec_ok hE n body (some l) M w L.body _ s2 ex _ _ _ hx2 k2 hG hst1' fun a2 w2 hs2 => ?_
  obtain ⟨M2, p1, p2, _⟩ := hs2
  obtain ⟨v1, v2, L2, hL2, _, him2, _, r2⟩ := keep _ _ _ _ _ _ _ _ _ p1 p2 ho2
  have fin : ∀ (j : Option Code) (q : Ob), ObSat P M2 (w2.putObj l (.loop { L2 with state := if j.isNone then .ready else .done, pending := j })) 0 id q (some (l, b, c)) → q = (.loop (ex == .nrm) (if ex == .nrm then none else some ex) regs2 ps2 asg2 body2) → j.isNone = (ex == .nrm) →
      ∃ v w', (Instr.endRound l j).run P w2 = .ok v w' ∧ ∃ v' M', Ending.returned v = .returned v' ∧ RelV M' (.c (.d (.bool (ex == .nrm)))) v' ∧ Sat P M' (setOb s2.heap id (.loop (ex == .nrm) (if ex == .nrm then none else some ex) regs2 ps2 asg2 body2)) 0 w' ∧ Fr M M' w w' := by
    intro j q hq hq' hj
    obtain ⟨y1, y2⟩ := turn_sat (q := q) (o := .loop { L2 with state := if j.isNone then .ready else .done, pending := j }) p1 v2 him2 ho2 (fun w' hw' => by
      subst hq'
      simp only [ObSat] at hq ⊢
      obtain ⟨z1, L3, z2, z3, z4, z5, z6⟩ := hq
      rw [World.putObj_heap_same (Array.getElem?_eq_some_iff.1 hL2).1] at z2
      rw [z2] at hw'
      exact ⟨z1, L3, hw', z3, z4, z5, z6⟩) ⟨_, hL2⟩
    subst hq'
    refine ⟨_, _, run_endRound j hL2, _, M2, rfl, ?_, y1, p2.trans y2⟩
    rw [relV_bool, hj]
  have lay : ∀ (j : Option Code) (rdy : Bool) (pend : Option Ex), (match rdy, pend with
        | true, none => (if j.isNone then LoopState.ready else .done) = .ready ∧ j = none
        | false, none => (if j.isNone then LoopState.ready else .done) = .busy
        | false, some e => (if j.isNone then LoopState.ready else .done) = .done ∧ j = jump e ∧ e ≠ .nrm
        | _, _ => False) → ObSat P M2 (w2.putObj l (.loop { L2 with state := if j.isNone then .ready else .done, pending := j })) 0 id (.loop rdy pend regs2 ps2 asg2 body2) (some (l, b, c)) := by
    intro j rdy pend hm
    simp only [ObSat]
    exact ⟨v1, _, World.putObj_heap_same (Array.getElem?_eq_some_iff.1 hL2).1, Nat.zero_le _, him2, hm, r2⟩
  cases ex with
  | nrm => exact fin none _ (lay none true none ⟨rfl, rfl⟩) rfl rfl
  | exit i => exact fin (some (.exit i)) _ (lay (some (.exit i)) false (some (.exit i)) ⟨rfl, rfl, by simp⟩) rfl rfl
  | ret => exact fin (some .ret) _ (lay (some .ret) false (some .ret) ⟨rfl, rfl, by simp⟩) rfl rfl

theorem callN_ok {P : Program} {X : Ctx} (hX : CtxOk P X) : ∀ (n : Nat) (c : C) (args : List V) (H : Heap) (v : V) (H' : Heap), callN X n c args H = some (v, H') → HeapCall P X.glob c args H v H'
  | 0, _, _, _, _, _, h => by simp [callN] at h
  | n + 1, c, args, H, v, H', h => by
    have hE : EnvOk P (envN X n) := by
      refine ⟨fun c args H v H' h => callN_ok hX n c args H v H' h, fun f vs r h => ?_, hX.prim⟩
      simp only [envN] at h
      split at h
      · rename_i r' hp
        cases h
        exact hX.prim f vs _ hp
      split at h <;> try (cases h; done)
      rename_i r' H1 hc
      exact ⟨callN_enters hX hc, val_of_heap (callN_ok hX n _ _ _ _ _ hc) h⟩
    intro M w cv us hG hcv hargs hlen hs
    have go : ∀ (f : FuncId) (F : Fn) (first caps : List V) (a b : Array Value), X.fns f = some F → RelVs M first a.toList → a.size = first.length → RelVs M caps b.toList → b.size = caps.length → runFn (envN X n) n F (first ++ args ++ caps) H = some (v, H') →
        Enters P f ∧ Calls P f (a ++ us.toArray ++ b) w fun e w' => ∃ v' M', e = .returned v' ∧ RelV M' v v' ∧ Sat P M' H' 0 w' ∧ Fr M M' w w' := by
      intro f F first caps a b hF h1 h2 h3 h4 hrun
      obtain ⟨hent, fn, hfn, hok⟩ := hX.fns f F hF
      refine ⟨hent, ?_⟩
      have hl1 : first.length = a.toList.length := by simp [h2]
      have hl2 : caps.length = b.toList.length := by simp [h4]
      have := runFn_ok (us := a.toList ++ us ++ b.toList) hE hfn hok hrun hG hs (RelVs.append (RelVs.append h1 hl1 hargs) (by simp only [List.length_append]; omega) h3) (by simp only [List.length_append]; omega)
      have e : (a.toList ++ us ++ b.toList).toArray = a ++ us.toArray ++ b := by apply Array.ext'; simp
      rw [e] at this
      exact this
    have hpr : ∀ (f : FuncId) (first caps : List V) (a b : Array Value), RelVs M first a.toList → a.size = first.length → RelVs M caps b.toList → b.size = caps.length → X.hprim f (first ++ args ++ caps) H = some (v, H') →
        Enters P f ∧ Calls P f (a ++ us.toArray ++ b) w fun e w' => ∃ v' M', e = .returned v' ∧ RelV M' v v' ∧ Sat P M' H' 0 w' ∧ Fr M M' w w' := by
      intro f first caps a b h1 h2 h3 h4 hrun
      obtain ⟨hent, hp⟩ := hX.hprim _ _ _ _ _ hrun
      refine ⟨hent, ?_⟩
      have hl1 : first.length = a.toList.length := by simp [h2]
      have hl2 : caps.length = b.toList.length := by simp [h4]
      have := hp M w (a.toList ++ us ++ b.toList) hG (RelVs.append (RelVs.append h1 hl1 hargs) (by simp only [List.length_append]; omega) h3) (by simp only [List.length_append]; omega) hs
      have e : (a.toList ++ us ++ b.toList).toArray = a ++ us.toArray ++ b := by apply Array.ext'; simp
      rw [e] at this
      exact this
    simp only [callN] at h
    split at h
    · rename_i f first caps
      simp only [RelC, RelD] at hcv
      obtain ⟨a, b, rfl, r1, r2, r3, r4⟩ := hcv
      have q1 : RelVs M (first.map fun x => V.c (.d x)) a.toList := by
        have := RelVs.of_cs (RelCs.of_d.2 r1 : RelCs M (first.map .d) a.toList)
        rw [List.map_map] at this
        exact this
      have q2 : RelVs M (caps.map fun x => V.c (.d x)) b.toList := by
        have := RelVs.of_cs (RelCs.of_d.2 r3 : RelCs M (caps.map .d) b.toList)
        rw [List.map_map] at this
        exact this
      split at h
      · rename_i F hF
        obtain ⟨k1, k2⟩ := go f F _ _ a b hF q1 (by simp [r2]) q2 (by simp [r4]) h
        exact .inl ⟨f, a, b, rfl, k1, k2⟩
      · obtain ⟨k1, k2⟩ := hpr f _ _ a b q1 (by simp [r2]) q2 (by simp [r4]) h
        exact .inl ⟨f, a, b, rfl, k1, k2⟩
    · rename_i f first caps
      simp only [RelC] at hcv
      obtain ⟨a, b, rfl, r1, r2, r3, r4⟩ := hcv
      split at h
      · rename_i F hF
        obtain ⟨k1, k2⟩ := go f F _ _ a b hF (RelVs.of_cs r1) (by simp [r2]) (RelVs.of_cs r3) (by simp [r4]) h
        exact .inl ⟨f, a, b, rfl, k1, k2⟩
      · obtain ⟨k1, k2⟩ := hpr f _ _ a b (RelVs.of_cs r1) (by simp [r2]) (RelVs.of_cs r3) (by simp [r4]) h
        exact .inl ⟨f, a, b, rfl, k1, k2⟩
    · rename_i id
      split at h <;> try (cases h; done)
      rename_i regs ps asg body ho
      split at h <;> try (cases h; done)
      rename_i hpl
      split at h <;> try (cases h; done)
      rename_i s1 hx1
      split at h <;> try (cases h; done)
      rename_i regs1 ps1 asg1 body1 ho1
      split at h <;> try (cases h; done)
      rename_i ex s2 hx2
      split at h <;> try (cases h; done)
      rename_i regs2 ps2 asg2 body2 ho2
      simp only [Option.some.injEq, Prod.mk.injEq] at h
      obtain ⟨rfl, rfl⟩ := h
      exact .inr (round_ok hE hG hcv hargs hlen hs ho hpl hx1 ho1 hx2 ho2)
    · cases h

/-- What the abstract machine answers, the code answers. -/
theorem vcallN_ok {P : Program} {X : Ctx} (hX : CtxOk P X) {n : Nat} {f : FuncId} {vs : List V} {r : V} (h : vcallN X n f vs = some r) : ValCall P X.glob f vs r := by
  unfold vcallN at h
  split at h <;> try (cases h; done)
  rename_i r' H' hc
  exact val_of_heap (callN_ok hX n _ _ _ _ _ hc) h
end Mini
end Go.Proofs.YtmcgaakbkgdljaaGreatDoor
