/-
  Calls: what the abstract machine answers, the code answers.
-/
import Derived.Test.YtcilepbdddgpoaaDoorMiniE19
namespace Go.Proofs.YtcilepbdddgpoaaDoor
namespace Mini
open Go

structure CtxOk (P : Program) (X : Ctx) : Prop where
  fns : ∀ f F, X.fns f = some F → Enters P f ∧ ∃ fn, P.funcs[f]? = some fn ∧ okFn P F fn = true
  prim : ∀ f vs r, X.prim f vs = some r → Enters P f ∧ ValCall P X.glob f vs r

section
variable {P : Program} {M : MM} {w : World} {E : Env}

theorem RelVs.append : ∀ {xs ys : List V} {us vs : List Value}, RelVs M xs us → xs.length = us.length → RelVs M ys vs → RelVs M (xs ++ ys) (us ++ vs)
  | [], ys, [], vs, _, _, h => h
  | [], ys, _ :: _, vs, _, hl, _ => by simp at hl
  | x :: xs, ys, [], vs, _, hl, _ => by simp at hl
  | x :: xs, ys, u :: us, vs, h, hl, k => by
    simp only [RelVs] at h
    simp only [List.cons_append, RelVs]
    exact ⟨h.1, RelVs.append h.2 (by simpa using hl) k⟩

theorem RelVs.of_cs : ∀ {cs : List C} {vs : List Value}, RelCs M cs vs → RelVs M (cs.map .c) vs
  | [], _, _ => RelVs.nil _ _
  | _ :: _, [], h => by simp only [RelCs] at h
  | c :: cs, v :: vs, h => by
    simp only [RelCs] at h
    simp only [List.map_cons, RelVs, RelV]
    exact ⟨h.1, RelVs.of_cs h.2⟩

theorem nth_append (xs ys : List V) (j : Nat) : nth (xs ++ ys) j = if j < xs.length then nth xs j else nth ys (j - xs.length) := by
  induction xs generalizing j with
  | nil => simp []
  | cons x xs ih =>
    cases j with
    | zero => simp [nth]
    | succ j =>
      simp only [List.cons_append, nth, ih, List.length_cons]
      by_cases h : j < xs.length
      · rw [if_pos h, if_pos (by omega)]
      · rw [if_neg h, if_neg (by omega), show j + 1 - (xs.length + 1) = j - xs.length by omega]
theorem nth_replicate (n j : Nat) : nth (List.replicate n V.any) j = .any := by
  induction n generalizing j with
  | zero => simp [nth]
  | succ n ih => cases j <;> simp [List.replicate_succ, nth, ih]

theorem nth_rel : ∀ {xs : List V} {us : List Value} {j : Nat}, RelVs M xs us → RelV M (nth xs j) (us.getD j undef)
  | [], us, j, _ => relV_any
  | _ :: _, [], j, h => by simp only [RelVs] at h
  | x :: xs, u :: us, 0, h => by simp only [RelVs] at h; simp only [nth]; exact h.1
  | x :: xs, u :: us, j + 1, h => by
    simp only [RelVs] at h
    simp only [nth]
    have := nth_rel (j := j) h.2
    simpa using this

theorem runFn_ok (hE : EnvOk P E) {fuel : Nat} {F : Fn} {fn : Func} {f : FuncId} {args : List V} {us : List Value} {H H' : Heap} {v : V} (hf : P.funcs[f]? = some fn) (hok : okFn P F fn = true) (h : runFn E fuel F args H = some (v, H'))
    (hG : GlobOk E.glob M.imm) (hs : Sat P M H 0 w) (hargs : RelVs M args us) (hl : args.length = us.length) :
    Calls P f us.toArray w fun e w' => ∃ v' M', e = .returned v' ∧ RelV M' v v' ∧ Sat P M' H' 0 w' ∧ Fr M M' w w' := by
  unfold okFn at hok
  simp only [Bool.and_eq_true, decide_eq_true_eq, List.all_eq_true] at hok
  obtain ⟨⟨⟨⟨⟨⟨⟨h1, h2⟩, h3⟩, h4⟩, h5⟩, h6⟩, h7⟩, h8⟩ := hok
  split at h8 <;> try (cases h8; done)
  rename_i c hc
  unfold runFn at h
  split at h <;> try (cases h; done)
  rename_i hnp
  -- how the frame begins
  have hle : us.length ≤ fn.ntmps := by
    rw [← hl, hnp]
    rcases Nat.eq_zero_or_pos F.np with h0 | hpos
    · omega
    · have hm : F.np - 1 ∈ F.tm := by
        have : (F.tm.take F.np)[F.np - 1]? = some (F.np - 1) := by rw [h4, List.getElem?_range (by omega)]
        rw [List.getElem?_take, if_pos (by omega)] at this
        exact List.mem_of_getElem? this
      have := h6 _ hm
      omega
  have hst : StRel P F.tm fn.ntmps M w [] ⟨pad F.nr args, H⟩ { tmps := us.toArray ++ Array.replicate (fn.ntmps - us.toArray.size) undef, defers := [] } w := by
    refine ⟨M, hs, Fr.refl M w, ?_, by simp; omega, rfl⟩
    intro j t hj
    simp only [pad]
    rw [nth_append]
    split
    · rename_i hlt
      have ht : t = j := by
        have : (F.tm.take F.np)[j]? = some t := by rw [List.getElem?_take, if_pos (by omega)]; exact hj
        rw [h4, List.getElem?_range (by omega)] at this
        exact (Option.some.inj this).symm
      subst ht
      have := nth_rel (j := t) hargs
      have e : (us.toArray ++ Array.replicate (fn.ntmps - us.toArray.size) undef).getD t undef = us.getD t undef := by
        rw [Array.getD_eq_getD_getElem?, List.getD_eq_getElem?_getD, Array.getElem?_append_left (by simp; omega)]
        simp
      rw [e]
      exact this
    · rw [nth_replicate]; exact relV_any
  cases hx : exec E fuel false F.body ⟨pad F.nr args, H⟩ with
  | none => rw [hx] at h; simp at h
  | some r =>
    obtain ⟨e, s⟩ := r
    rw [hx] at h
    have hne : ∀ id, e ≠ .exit id := fun id he => by subst he; simp at h
    have hres : ((Mini.results s.regs s.heap F.res).map fun v => (v, s.heap)) = some (v, H') := by
      cases e with
      | nrm => exact h
      | ret => exact h
      | exit id => exact absurd rfl (hne id)
    simp only [Option.map_eq_some_iff, Prod.mk.injEq] at hres
    obtain ⟨v0, hres, rfl, rfl⟩ := hres
    refine (callsIn_wide (n := 0)).1 (callsIn_of_wp hf hc trivial (exec_ok hE fuel F.body M w [] c _ s e _ w _ hx h8 hG hst fun a' w' hs' => ?_))
    obtain ⟨M', k1, k2, k3, k4, k5⟩ := hs'
    obtain ⟨u, hu, hru⟩ := results_ok k1 k3 hres h7
    have hb : a'.defers = [] ∧ ∃ v, (Go.results fn a'.tmps).run P w' = .ok v w' ∧ ∃ v' M'', Ending.returned v = .returned v' ∧ RelV M'' v0 v' ∧ Sat P M'' s.heap 0 w' ∧ Fr M M'' w w' := ⟨k5, u, hu, u, M', rfl, hru, k1, k2⟩
    cases e with
    | nrm => exact hb
    | ret => exact hb
    | exit id => exact absurd rfl (hne id)

/-- Results, read out. -/
theorem deepV_rel {H : Heap} {r rv : V} {v : Value} (hs : Sat P M H 0 w) (h : deepV H r = some rv) (hr : RelV M r v) : ∃ ids, RelV (mm (immX M w ids)) rv v := by
  by_cases ht : ∃ vs, r = .tup vs
  · obtain ⟨vs, rfl⟩ := ht
    simp only [deepV, Option.map_eq_some_iff] at h
    obtain ⟨ys, hys, rfl⟩ := h
    rw [relV_tup] at hr
    obtain ⟨arr, rfl, h1, h2⟩ := hr
    obtain ⟨hlen, hget⟩ := mapO_get hys
    refine ⟨vs.flatMap (reachV H), ?_⟩
    rw [relV_tup]
    refine ⟨arr, rfl, by omega, ?_⟩
    rw [RelVs.iff]
    intro j y hy
    obtain ⟨x, hx, hxy⟩ := hget j y hy
    obtain ⟨u, hu, hru⟩ := RelVs.iff.1 h2 j x hx
    exact ⟨u, hu, deepV1_rel hs (Sub.refl H) hxy hru fun id hid => List.mem_flatMap.2 ⟨x, List.mem_of_getElem? hx, hid⟩⟩
  · have h' : deepV1 H r = some rv := by
      cases r with
      | tup vs => exact absurd ⟨vs, rfl⟩ ht
      | _ => exact h
    exact ⟨reachV H r, deepV1_rel hs (Sub.refl H) h' hr fun _ h => h⟩

theorem sat_nil {I : Imm} (h : ∀ B o, I B = some o → w.heap[B]? = some o) : Sat P (mm I) [] 0 w :=
  ⟨rfl, fun _ _ => ⟨rfl, rfl⟩, h, fun id l h => (by cases h), fun id o h => (by simp [ob?] at h), fun _ _ _ _ _ _ _ h => (by cases h)⟩

/-- A call on an empty heap is a call by value. -/
theorem val_of_heap {G : Nat → Option (List D)} {f : FuncId} {vs : List V} {r rv : V} {H' : Heap} (h : HeapCall P G (.d (.fn f [] [])) vs [] r H') (hd : deepV H' r = some rv) : ValCall P G f vs rv := by
  intro I w us hG hI hrel hlen
  obtain ⟨f', first, caps, h1, h2, h3⟩ := h (mm I) w (.func (.func f) #[] #[]) us hG (by simp only [RelC, RelD]; exact ⟨#[], #[], rfl, RelDs.nil _ _, rfl, RelDs.nil _ _, rfl⟩) hrel hlen (sat_nil hI)
  simp only [Value.func.injEq, Fn.func.injEq] at h1
  obtain ⟨rfl, rfl, rfl⟩ := h1
  have e : #[] ++ us.toArray ++ #[] = us.toArray := by simp
  rw [e] at h3
  refine h3.mono fun e w' hh => ?_
  obtain ⟨v', M', rfl, k1, k2, k3⟩ := hh
  obtain ⟨ids, hr⟩ := deepV_rel k2 hd k1
  refine ⟨v', immX M' w' ids, rfl, hr, fun B o hB => immX_le B o (k3.ext.imm B o hB), fun B o hB => immX_heap k2 hB, ?_, k3.os, k3.tape, k3.output, k3.size, fun B hB => k3.keep B hB (fun ⟨_, _, _, h⟩ => by cases h)⟩
  intro B o hB
  have own : ∀ B, M'.Owns B → w.heap.size ≤ B := fun B hB => (k3.own B hB).resolve_left (fun ⟨_, _, _, h⟩ => by cases h)
  unfold immX at hB
  split at hB
  · rename_i o' ho'
    cases hB
    rcases k3.imm B _ ho' with h | ⟨_, _, _, h⟩ | h
    · exact .inl h
    · cases h
    · exact .inr h
  · split at hB
    · rename_i hex
      obtain ⟨id, _, b, c, hl⟩ := hex
      exact .inr (own B ⟨id, b, c, hl⟩)
    · cases hB
end

def envN (X : Ctx) (n : Nat) : Env := {
  call := callN X n
  vcall := fun f vs => match X.prim f vs with
    | some r => some r
    | none => match callN X n (.d (.fn f [] [])) vs [] with
      | some (r, H') => deepV H' r
      | none => none
  prim := X.prim, bprim := X.bprim, glob := X.glob }

theorem callN_fns {X : Ctx} {n : Nat} {f : FuncId} {first caps : List D} {vs : List V} {H H' : Heap} {r : V} (h : callN X n (.d (.fn f first caps)) vs H = some (r, H')) : ∃ F, X.fns f = some F := by
  cases n with
  | zero => simp [callN] at h
  | succ n =>
    simp only [callN] at h
    split at h
    · rename_i F hF; exact ⟨F, hF⟩
    · cases h

theorem callN_ok {P : Program} {X : Ctx} (hX : CtxOk P X) : ∀ (n : Nat) (c : C) (args : List V) (H : Heap) (v : V) (H' : Heap), callN X n c args H = some (v, H') → HeapCall P X.glob c args H v H'
  | 0, _, _, _, _, _, h => by simp [callN] at h
  | n + 1, c, args, H, v, H', h => by
    have hE : EnvOk P (envN X n) := by
      refine ⟨fun c args H v H' h => callN_ok hX n c args H v H' h, fun f vs r h => ?_, hX.prim⟩
      simp only [envN] at h
      split at h
      · rename_i r' hp
        cases h
        exact hX.prim f vs _ hp
      split at h <;> try (cases h; done)
      rename_i r' H1 hc
      obtain ⟨F, hF⟩ := callN_fns hc
      exact ⟨(hX.fns f F hF).1, val_of_heap (callN_ok hX n _ _ _ _ _ hc) h⟩
    intro M w cv us hG hcv hargs hlen hs
    have go : ∀ (f : FuncId) (F : Fn) (first caps : List V) (a b : Array Value), X.fns f = some F → RelVs M first a.toList → a.size = first.length → RelVs M caps b.toList → b.size = caps.length → runFn (envN X n) n F (first ++ args ++ caps) H = some (v, H') →
        Enters P f ∧ Calls P f (a ++ us.toArray ++ b) w fun e w' => ∃ v' M', e = .returned v' ∧ RelV M' v v' ∧ Sat P M' H' 0 w' ∧ Fr M M' w w' := by
      intro f F first caps a b hF h1 h2 h3 h4 hrun
      obtain ⟨hent, fn, hfn, hok⟩ := hX.fns f F hF
      refine ⟨hent, ?_⟩
      have hl1 : first.length = a.toList.length := by simp [h2]
      have hl2 : caps.length = b.toList.length := by simp [h4]
      have := runFn_ok (us := a.toList ++ us ++ b.toList) hE hfn hok hrun hG hs (RelVs.append (RelVs.append h1 hl1 hargs) (by simp only [List.length_append]; omega) h3) (by simp only [List.length_append]; omega)
      have e : (a.toList ++ us ++ b.toList).toArray = a ++ us.toArray ++ b := by apply Array.ext'; simp
      rw [e] at this
      exact this
    simp only [callN] at h
    split at h
    · rename_i f first caps
      split at h <;> try (cases h; done)
      rename_i F hF
      simp only [RelC, RelD] at hcv
      obtain ⟨a, b, rfl, r1, r2, r3, r4⟩ := hcv
      have q1 : RelVs M (first.map fun x => V.c (.d x)) a.toList := by
        have := RelVs.of_cs (RelCs.of_d.2 r1 : RelCs M (first.map .d) a.toList)
        rw [List.map_map] at this
        exact this
      have q2 : RelVs M (caps.map fun x => V.c (.d x)) b.toList := by
        have := RelVs.of_cs (RelCs.of_d.2 r3 : RelCs M (caps.map .d) b.toList)
        rw [List.map_map] at this
        exact this
      obtain ⟨k1, k2⟩ := go f F _ _ a b hF q1 (by simp [r2]) q2 (by simp [r4]) h
      exact ⟨f, a, b, rfl, k1, k2⟩
    · rename_i f first caps
      split at h <;> try (cases h; done)
      rename_i F hF
      simp only [RelC] at hcv
      obtain ⟨a, b, rfl, r1, r2, r3, r4⟩ := hcv
      obtain ⟨k1, k2⟩ := go f F _ _ a b hF (RelVs.of_cs r1) (by simp [r2]) (RelVs.of_cs r3) (by simp [r4]) h
      exact ⟨f, a, b, rfl, k1, k2⟩
    · simp only [RelC] at hcv
    · cases h

/-- What the abstract machine answers, the code answers. -/
theorem vcallN_ok {P : Program} {X : Ctx} (hX : CtxOk P X) {n : Nat} {f : FuncId} {vs : List V} {r : V} (h : vcallN X n f vs = some r) : ValCall P X.glob f vs r := by
  unfold vcallN at h
  split at h <;> try (cases h; done)
  rename_i r' H' hc
  exact val_of_heap (callN_ok hX n _ _ _ _ _ hc) h
end Mini
end Go.Proofs.YtcilepbdddgpoaaDoor
