/-
  The code of a function, carried out: every form; what the function hands back.
-/
import Derived.Test.YtmcgaakbkgdljaaGreatDoorMiniE22
import Derived.Scope
namespace Go.Proofs.YtmcgaakbkgdljaaGreatDoor
namespace Mini
open Go

section
variable {P : Program} {tm : List Nat} {nt : Nat} {M0 : MM} {w0 : World} {E : Env}

/-- An operand between two regions. -/
theorem operand0 {M : MM} {regs : List V} {a : Act} (hG : GlobOk E.glob M.imm) (hr : RelRegs M tm regs a.tmps) {x : Operand} {b : A} (hok : okA ⟨0, tm, [], [], fun _ => true⟩ x b = true) : RelV M (look E regs [] b) (a.eval x) := by
  unfold okA at hok
  split at hok <;> try (cases hok; done)
  · rename_i t j
    simp only [Bool.and_eq_true, beq_iff_eq] at hok
    simp only [look, Act.eval]
    exact hr j t hok.1
  · simp only [look, Act.eval]; exact okV_rel hok
  · rename_i g b'
    simp only [beq_iff_eq] at hok
    subst hok
    simp only [look, Act.eval]
    split
    · rename_i cs hg
      rw [relV_d]
      exact (hG _ _ hg).1
    · exact relV_any
  · rename_i f f'
    simp only [beq_iff_eq] at hok
    subst hok
    simp only [look, Act.eval]
    rw [relV_d]
    simp only [RelD]
    exact ⟨#[], #[], rfl, RelDs.nil _ _, rfl, RelDs.nil _ _, rfl⟩

def Holds (P : Program) (tm : List Nat) (nt : Nat) (E : Env) (fuel : Nat) (i : I) : Prop :=
  ∀ (rd : Option Nat) (M0 : MM) (w0 : World) (c : Code) (s s' : St) (e : Ex) (a : Act) (w : World) (Q : Exit → Act → World → Prop), exec E fuel rd.isSome i s = some (e, s') → okI P tm nt i c = true → GlobOk E.glob M0.imm → StRel P tm nt M0 w0 s a w →
    (∀ a' w', StRel P tm nt M0 w0 s' a' w' → Q (exitOf e) a' w') → c.wpIn (rnd rd) 0 P Q a w

theorem least {p : Nat → Prop} (h : ∃ n, p n) : ∃ n, p n ∧ ∀ m, p m → n ≤ m := by
  obtain ⟨n, hn⟩ := h
  induction n using Nat.strongRecOn with
  | _ n ih =>
    by_cases hx : ∃ m, m < n ∧ p m
    · obtain ⟨m, h1, h2⟩ := hx
      exact ih m h1 h2
    · exact ⟨n, hn, fun m hm => Nat.le_of_not_lt fun hlt => hx ⟨m, hlt, hm⟩⟩
open Classical in
noncomputable def leastOf (p : Nat → Prop) : Nat := if h : ∃ n, p n then Classical.choose (least h) else 0
theorem leastOf_spec {p : Nat → Prop} (h : ∃ n, p n) : p (leastOf p) ∧ ∀ m, p m → leastOf p ≤ m := by
  unfold leastOf
  rw [dif_pos h]
  exact Classical.choose_spec (least h)

theorem exec_loop {fuel : Nat} {js : Option (List Nat)} {i : I} (ih : Holds P tm nt E fuel i) : Holds P tm nt E fuel (.loop js i) := by
  intro rd M0 w0 c s s' e a w Q h hok hG hs hQ
  cases c <;> simp only [okI] at hok <;> try (cases hok; done)
  rename_i c
  simp only [exec] at h
  have hle : M0.n ≤ s.heap.length := by
    obtain ⟨M, h1, h2, _⟩ := hs
    rw [← h1.n]
    exact h2.ext.n
  let I : Nat → Act → World → Prop := fun n a w => ∃ s1, iter js s.heap.length (exec E fuel rd.isSome i) n s1 = some (e, s') ∧ StRel P tm nt M0 w0 s1 a w
  refine wpIn_loop (fun a w => ∃ n, I n a w) (fun a w => leastOf fun n => I n a w) ⟨fuel, _, h, hs.tidy hle js⟩ ?_
  intro a w hI
  obtain ⟨s1, h1, h2⟩ := (leastOf_spec hI).1
  generalize hn : (leastOf fun n => I n a w) = m at h1 ⊢
  cases m with
  | zero => simp [iter] at h1
  | succ n =>
    simp only [iter] at h1
    cases hb : exec E fuel rd.isSome i s1 with
    | none => rw [hb] at h1; simp at h1
    | some r =>
      obtain ⟨e1, s2⟩ := r
      rw [hb] at h1
      refine ih rd M0 w0 c s1 s2 e1 a w _ hb hok hG h2 fun a' w' h3 => ?_
      cases e1 with
      | nrm =>
        simp only at h1
        show (∃ n, I n a' w') ∧ (leastOf fun n => I n a' w') < n + 1
        have hI' : I n a' w' := ⟨_, h1, h3.tidy hle js⟩
        exact ⟨⟨n, hI'⟩, Nat.lt_succ_of_le ((leastOf_spec ⟨n, hI'⟩).2 n hI')⟩
      | exit id =>
        simp only [Option.some.injEq, Prod.mk.injEq] at h1
        obtain ⟨rfl, rfl⟩ := h1
        exact hQ a' w' h3
      | ret =>
        simp only [Option.some.injEq, Prod.mk.injEq] at h1
        obtain ⟨rfl, rfl⟩ := h1
        exact hQ a' w' h3

/-! ### A range over a function -/
def MM.loop (M : MM) (id B Db : Nat) : MM := { M with loc := fun j => if j = id then some (some (B, Db, 0)) else M.loc j, n := id + 1 }
def MM.dead (M : MM) (id : Nat) : MM := { M with loc := fun j => if j = id then none else M.loc j, gen := fun j => if j = id then 1 else M.gen j }

/-- The record of the loop, just laid. -/
def loopRec (fn : FuncId) (a : Act) (w : World) (params : Array Tmp) (ca cb : Code) : Loop := { state := .ready, pending := none, fn, tmps := a.tmps, params, assign := ca, body := cb, defers := w.heap.size }
def enterW (fn : FuncId) (a : Act) (w : World) (params : Array Tmp) (ca cb : Code) : World := (w.alloc (.deferred (some []))).alloc (.loop (loopRec fn a w params ca cb))

theorem enterW_size (fn : FuncId) (a : Act) (w : World) (params : Array Tmp) (ca cb : Code) : (enterW fn a w params ca cb).heap.size = w.heap.size + 2 := by
  simp [enterW]
theorem enterW_old (fn : FuncId) (a : Act) (w : World) (params : Array Tmp) (ca cb : Code) {B : Nat} (h : B < w.heap.size) : (enterW fn a w params ca cb).heap[B]? = w.heap[B]? := by
  show ((w.heap.push _).push _)[B]? = _
  rw [Array.getElem?_push, if_neg (by simp; omega), Array.getElem?_push, if_neg (Nat.ne_of_lt h)]
theorem enterW_mark (fn : FuncId) (a : Act) (w : World) (params : Array Tmp) (ca cb : Code) : (enterW fn a w params ca cb).heap[w.heap.size]? = some (.deferred (some [])) := by
  show ((w.heap.push _).push _)[w.heap.size]? = _
  rw [Array.getElem?_push, if_neg (by simp), Array.getElem?_push, if_pos rfl]
theorem enterW_loop (fn : FuncId) (a : Act) (w : World) (params : Array Tmp) (ca cb : Code) : (enterW fn a w params ca cb).heap[w.heap.size + 1]? = some (.loop (loopRec fn a w params ca cb)) := by
  show ((w.heap.push _).push _)[w.heap.size + 1]? = _
  rw [Array.getElem?_push, if_pos (by simp)]

theorem enter_sat {M : MM} {w : World} {H : Heap} {a : Act} {regs : List V} {ps : List Nat} {asg body : I} {params : Array Tmp} {ca cb : Code} (fn : FuncId) (hs : Sat P M H 0 w) (hr : RelRegs M tm regs a.tmps) (hsz : a.tmps.size = nt)
    (k2 : ps.map (fun j => tm[j]?) = params.toList.map some) (k3 : once tm = true) (k4 : tm.all (fun t => decide (t < nt)) = true) (k5 : okI P tm nt asg ca = true) (k6 : okI P tm nt body cb = true) :
    Sat P (M.loop H.length (w.heap.size + 1) w.heap.size) (H ++ [.loop true none regs ps asg body]) 0 (enterW fn a w params ca cb) ∧ Fr M (M.loop H.length (w.heap.size + 1) w.heap.size) w (enterW fn a w params ca cb) := by
  have hn := hs.n
  have hout := hs.out H.length (by omega)
  have hext : Ext M (M.loop H.length (w.heap.size + 1) w.heap.size) := ⟨fun _ _ h => h, by simp only [MM.loop]; omega, fun _ _ => Nat.le_refl _, fun id l hid _ hl => by simp only [MM.loop]; rw [if_neg (by omega)]; exact hl, fun _ _ h => h⟩
  have hkeep : ∀ B : Nat, B < w.heap.size → (enterW fn a w params ca cb).heap[B]? = w.heap[B]? := fun B hB => enterW_old fn a w params ca cb hB
  have hob : ∀ id, id < H.length → ob? (H ++ [.loop true none regs ps asg body]) id = ob? H id := fun id hid => by rw [ob?_eq, ob?_eq, List.getElem?_append_left hid]
  refine ⟨⟨by simp only [MM.loop, List.length_append, List.length_cons, List.length_nil], ?_, ?_, ?_, ?_, ?_, fun B t hb => by
      obtain ⟨a', f, hh⟩ := hs.ty B t hb
      exact ⟨a', f, by rw [hkeep B (Array.getElem?_eq_some_iff.1 hh).1]; exact hh⟩, fun id B b c hid hg => by
      simp only [MM.loop] at hid hg
      split at hid
      · rename_i e; rw [e, hout.2] at hg; exact absurd hg (by decide)
      · exact hs.bty id B b c hid hg⟩, ⟨hext, rfl, rfl, rfl, by rw [enterW_size]; omega, fun B hB _ => hkeep B hB, ?_, fun B o ho => .inl ho⟩⟩
  · intro id hid
    simp only [MM.loop] at hid ⊢
    rw [if_neg (by omega)]
    exact hs.out id (by omega)
  · intro B o hB
    have := hs.imm B o hB
    rw [hkeep B (Array.getElem?_eq_some_iff.1 this).1]
    exact this
  · intro id l hl
    simp only [MM.loop] at hl
    split at hl
    · rename_i e
      subst e
      simp only [Option.some.injEq] at hl
      subst hl
      refine ⟨.loop true none regs ps asg body, by rw [ob?_eq, List.getElem?_append_right (Nat.le_refl _), Nat.sub_self]; rfl, ?_⟩
      simp only [ObSat]
      exact ⟨hout.2, _, enterW_loop fn a w params ca cb, Nat.zero_le _, hs.imm_lt (by omega), ⟨rfl, rfl⟩, tm, nt, k5, k6, k2, fun j t hj => RelV.mono hext (hr j t hj), k3, hsz, k4⟩
    · obtain ⟨o, ho, hos⟩ := hs.obj id l hl
      refine ⟨o, by rw [hob id (ob?_lt ho)]; exact ho, hos.keep hext rfl (fun B b c e => ?_) (fun B hB => by rw [hkeep B (Array.getElem?_eq_some_iff.1 hB).1]; exact hB)⟩
      subst e
      exact ⟨hkeep B (hs.block_lt ⟨id, b, c, hl⟩), fun x => x⟩
  · intro id o ho hl
    simp only [MM.loop] at hl ⊢
    split at hl
    · cases hl
    · rename_i hne
      rcases Nat.lt_or_ge id H.length with hlt | hge
      · rw [hob id hlt] at ho
        exact hs.idle id o ho hl
      · exact .inr (hs.out id (by omega)).2
  · intro id id' B b c b' c' e1 e2
    simp only [MM.loop] at e1 e2
    split at e1
    · rename_i h1
      split at e2
      · rename_i h2; rw [h1, h2]
      · simp only [Option.some.injEq, Prod.mk.injEq] at e1
        have := hs.block_lt ⟨id', b', c', e2⟩
        omega
    · split at e2
      · simp only [Option.some.injEq, Prod.mk.injEq] at e2
        have := hs.block_lt ⟨id, b, c, e1⟩
        omega
      · exact hs.inj id id' B b c b' c' e1 e2
  · rintro B ⟨id, b, c, hid⟩
    simp only [MM.loop] at hid
    split at hid
    · simp only [Option.some.injEq, Prod.mk.injEq] at hid
      exact .inr (by omega)
    · exact .inl ⟨id, b, c, hid⟩

theorem dead_sat {M : MM} {w : World} {H : Heap} {id B b c : Nat} {o : Obj} {q : Ob} (hs : Sat P M H 0 w) (hl : M.loc id = some (some (B, b, c))) (hi : M.imm B = none) (hg : M.gen id = 0) (ho : ob? H id = some q) (hL : ∃ L, w.heap[B]? = some (.loop L)) :
    Sat P (M.dead id) (setOb H id .dead) 0 (w.putObj B o) ∧ Fr M (M.dead id) w (w.putObj B o) := by
  have hidn := hs.id_lt hl
  have hext : Ext M (M.dead id) := ⟨fun _ _ h => h, Nat.le_refl _, fun j _ => by
    simp only [MM.dead]
    split
    · rename_i e; subst e; omega
    · exact Nat.le_refl _, fun j l _ hgj hlj => by
    simp only [MM.dead] at hgj ⊢
    split at hgj
    · rename_i e; subst e; omega
    · rename_i e; rw [if_neg e]; exact hlj, fun _ _ h => h⟩
  have hkeep : ∀ B' : Nat, B' ≠ B → (w.putObj B o).heap[B']? = w.heap[B']? := fun B' hB => World.putObj_heap_other hB
  refine ⟨⟨by rw [setOb_length]; exact hs.n, ?_, ?_, ?_, ?_, ?_, fun B' t hb => by
      obtain ⟨a, f, hh⟩ := hs.ty B' t hb
      obtain ⟨L, hL⟩ := hL
      exact ⟨a, f, by rw [hkeep B' (fun e => by subst e; rw [hL] at hh; cases hh)]; exact hh⟩, fun j B' b' c' hj hg' => by
      simp only [MM.dead] at hj hg'
      split at hj
      · cases hj
      · rename_i e; rw [if_neg e] at hg'; exact hs.bty j B' b' c' hj hg'⟩, ⟨hext, rfl, rfl, rfl, by simp, fun B' _ hno => hkeep B' (fun e => hno ⟨id, b, c, by rw [e]; exact hl⟩), ?_, fun B o ho => .inl ho⟩⟩
  · intro j hj
    have hj' : M.n ≤ j := hj
    simp only [MM.dead]
    rw [if_neg (by omega), if_neg (by omega)]
    exact hs.out j hj'
  · intro B' o' hB'
    rw [hkeep B' (fun e => by subst e; simp only [MM.dead] at hB'; rw [hi] at hB'; cases hB')]
    exact hs.imm B' o' hB'
  · intro j l hj
    simp only [MM.dead] at hj
    split at hj
    · cases hj
    · rename_i hne
      obtain ⟨o', ho', hos⟩ := hs.obj j l hj
      refine ⟨o', by rw [ob?_setOb_ne hne]; exact ho', ?_⟩
      cases l with
      | none =>
        cases o' <;> simp only [ObSat] at hos ⊢ <;> try (exact hos.elim)
        simp only [MM.dead]
        rw [if_neg hne]
        exact hos
      | some l =>
        obtain ⟨B', b', c'⟩ := l
        have hBB : B' ≠ B := fun e => hne (hs.inj j id B b' c' b c (by rw [← e]; exact hj) hl)
        refine obSat_move (M' := M.dead id) hext (by simp only [MM.dead]; rw [if_neg hne]) (hkeep B' hBB) (fun h => h) hos
  · intro j q' hq hlj
    by_cases e : j = id
    · subst e
      rw [ob?_setOb_same ho] at hq
      cases hq
      exact .inl rfl
    · rw [ob?_setOb_ne e] at hq
      simp only [MM.dead] at hlj ⊢
      rw [if_neg e] at hlj ⊢
      exact hs.idle j q' hq hlj
  · intro j j' B' b1 c1 b2 c2 e1 e2
    simp only [MM.dead] at e1 e2
    split at e1 <;> try (cases e1; done)
    split at e2 <;> try (cases e2; done)
    exact hs.inj j j' B' b1 c1 b2 c2 e1 e2
  · rintro B' ⟨j, b', c', hj⟩
    simp only [MM.dead] at hj
    split at hj
    · cases hj
    · exact .inl ⟨j, b', c', hj⟩

theorem rf_ok (hE : EnvOk P E) {fuel : Nat} {f : A} {ps : List Nat} {asg body : I} {g : Operand} {params : Array Tmp} {ca cb : Code} {s s' : St} {e : Ex} {a : Act} {w : World} {Q : Exit → Act → World → Prop} (h : exec E fuel false (.rf f ps asg body) s = some (e, s'))
    (k1 : okA ⟨0, tm, [], [], fun _ => true⟩ g f = true) (k2 : ps.map (fun j => tm[j]?) = params.toList.map some) (k3 : once tm = true) (k4 : tm.all (fun t => decide (t < nt)) = true) (k5 : okI P tm nt asg ca = true) (k6 : okI P tm nt body cb = true)
    (hG : GlobOk E.glob M0.imm) (hs : StRel P tm nt M0 w0 s a w) (hQ : ∀ a' w', StRel P tm nt M0 w0 s' a' w' → Q (exitOf e) a' w') : (Code.rangeFunc g params ca cb).wpIn (rnd none) 0 P Q a w := by
  simp only [exec, Bool.false_eq_true, if_false] at h
  split at h <;> try (cases h; done)
  rename_i x hx
  split at h <;> try (cases h; done)
  rename_i hfn
  split at h <;> try (cases h; done)
  rename_i v H1 hcall
  obtain ⟨M, s1, s2, s3, s4, s5⟩ := hs
  refine wpIn_rangeFunc fun fn _ => ?_
  obtain ⟨t1, t2⟩ := enter_sat fn s1 s3 s4 k2 k3 k4 k5 k6
  have hxr : RelC (M.loop s.heap.length (w.heap.size + 1) w.heap.size) x (a.eval g) := by
    have := RelV.mono t2.ext (operand0 (E := E) (hG.mono s2.ext.imm) s3 k1)
    rw [hx, relV_c] at this
    exact this
  have hy : RelVs (M.loop s.heap.length (w.heap.size + 1) w.heap.size) [.c (.yld s.heap.length)] [.func (.yield (w.heap.size + 1)) #[] #[]] := by
    simp only [RelVs, RelV, RelC, and_true]
    exact ⟨by simp [MM.loop], w.heap.size + 1, rfl, fun _ => ⟨w.heap.size, 0, by simp [MM.loop]⟩⟩
  rcases hE.call x _ _ _ _ hcall _ _ _ _ (hG.mono (s2.trans t2).ext.imm) hxr hy rfl t1 with ⟨fid, first, caps, hcv, hent, hc⟩ | ⟨l, fid, tmps, asg', body', hcv, _, _⟩
  rotate_left
  · exfalso
    rw [hcv] at hxr
    unfold C.isFn at hfn
    split at hfn
    · simp only [RelC, RelD] at hxr
      obtain ⟨_, _, hh, _⟩ := hxr
      cases hh
    · simp only [RelC] at hxr
      obtain ⟨_, _, hh, _⟩ := hxr
      cases hh
    · simp at hfn
  obtain ⟨fn', e1, e2, e3⟩ := hent
  refine ⟨w.heap.size + 1, [markOf w.heap.size], enterW fn a w params ca cb, ⟨.fn (.func fid) caps, first ++ #[.func (.yield (w.heap.size + 1)) #[] #[]]⟩, enterW fn a w params ca cb, fid, first ++ #[.func (.yield (w.heap.size + 1)) #[] #[]] ++ caps, enterW fn a w params ca cb, ?_, ?_, fun _ _ => trivial, ?_, fun h => by simp [rnd, Fence.wide] at h, ?_⟩
  · exact run_enterLoop_outer fn a.tmps params ca cb
  · show (Deferred.ofValue (a.eval g) (#[Operand.const (.func (.yield (w.heap.size + 1)) #[] #[])].map a.eval)).run P _ = _
    rw [hcv]
    simp [Deferred.ofValue, Act.eval]
  · simp only [invoke, callFunc, Sem.run_bind, run_program, Result.andThen_ok, e1, e2, Bool.false_eq_true, if_false, e3, Sem.run_pure]
  · refine callsIn_rnd (rd := none) (hc.mono fun e' w' hh => ?_)
    obtain ⟨v', M', rfl, r1, r2, r3⟩ := hh
    -- the record, when the function has ended
    have hrec : ∀ rdy pend regs ps' asg' body', ob? H1 s.heap.length = some (.loop rdy pend regs ps' asg' body') → M'.gen s.heap.length = 0 ∧ M'.loc s.heap.length = some (some (w.heap.size + 1, w.heap.size, 0)) ∧ LoopSat P M' w' 0 rdy pend regs ps' asg' body' (w.heap.size + 1) := by
      intro rdy pend regs ps' asg' body' ho
      have hg0 : M'.gen s.heap.length = 0 := by
        cases hl : M'.loc s.heap.length with
        | none =>
          rcases r2.idle _ _ ho hl with e | e
          · cases e
          · exact e
        | some l =>
          obtain ⟨o, ho', hos⟩ := r2.obj _ _ hl
          rw [ho] at ho'
          cases ho'
          cases l with
          | none => simp [ObSat] at hos
          | some l => simp only [ObSat] at hos; exact hos.1
      have hl := r3.ext.loc s.heap.length (some (w.heap.size + 1, w.heap.size, 0)) (by simp [MM.loop]) (by rw [hg0]; exact (s1.out _ (by rw [s1.n]; exact Nat.le_refl _)).2) (by simp [MM.loop])
      obtain ⟨o, ho', hos⟩ := r2.obj _ _ hl
      rw [ho] at ho'
      cases ho'
      simp only [ObSat] at hos
      exact ⟨hg0, hl, hos.2⟩
    have fin : ∀ (rdy : Bool) (pend : Option Ex) (regs : List V) (ps' : List Nat) (asg' body' : I) (L : Loop), ob? H1 s.heap.length = some (.loop rdy pend regs ps' asg' body') → w'.heap[w.heap.size + 1]? = some (.loop L) → M'.imm (w.heap.size + 1) = none →
        StRel P tm nt M0 w0 ⟨s.regs, setOb H1 s.heap.length .dead⟩ { a with defers := [markOf w.heap.size] ++ a.defers } (w'.putObj (w.heap.size + 1) (.loop { L with state := .exhausted })) := by
      intro rdy pend regs ps' asg' body' L ho hL him
      obtain ⟨g1, g2, _⟩ := hrec _ _ _ _ _ _ ho
      obtain ⟨u1, u2⟩ := dead_sat (o := .loop { L with state := .exhausted }) r2 g2 him g1 ho ⟨_, hL⟩
      have hall := t2.trans (r3.trans u2)
      refine ⟨_, u1, s2.trans hall, fun j t hj => RelV.mono hall.ext (s3 j t hj), s4, ?_⟩
      have hback := r3.trans u2
      have hsz := enterW_size fn a w params ca cb
      have hno : ¬ (M.loop s.heap.length (w.heap.size + 1) w.heap.size).Owns w.heap.size := fun ho => by
        rcases t2.own _ ho with ⟨id, b, c, hid⟩ | _
        · exact Nat.lt_irrefl _ (s1.block_lt ⟨id, b, c, hid⟩)
        · obtain ⟨id, b, c, hid⟩ := ho
          simp only [MM.loop] at hid
          split at hid
          · simp only [Option.some.injEq, Prod.mk.injEq] at hid
            omega
          · exact Nat.lt_irrefl _ (s1.block_lt ⟨id, b, c, hid⟩)
      obtain ⟨rs, q1, q2, q3⟩ := s5
      have hold := (show Marks M w0 w a.defers from ⟨rs, q1, q2, q3⟩).keep hall
      obtain ⟨rs', z1, z2, z3⟩ := hold
      have hlt : ∀ r ∈ rs, r < w.heap.size := fun r hr => (Array.getElem?_eq_some_iff.1 (q3 r hr).2.1).1
      refine ⟨w.heap.size :: rs, by simp [q1], List.nodup_cons.2 ⟨fun hm => Nat.lt_irrefl _ (hlt _ hm), q2⟩, fun r hr => ?_⟩
      rcases List.mem_cons.1 hr with rfl | hr
      · refine ⟨s2.size, ?_, fun ho => ?_, ?_⟩
        · rw [hback.keep _ (by omega) hno]
          exact enterW_mark fn a w params ca cb
        · rcases hback.own _ ho with h' | h'
          · exact hno h'
          · omega
        · cases hi : (M'.dead s.heap.length).imm w.heap.size with
          | none => rfl
          | some o =>
            exfalso
            rcases hback.imm _ o hi with h' | h' | h'
            · have := s1.imm _ _ h'
              have := (Array.getElem?_eq_some_iff.1 this).1
              omega
            · exact hno h'
            · omega
      · have hm := marks_mem hall (q3 r hr)
        exact hm
    split at h <;> try (cases h; done)
    · rename_i regs ps' asg' body' ho
      simp only [Option.some.injEq, Prod.mk.injEq] at h
      obtain ⟨rfl, rfl⟩ := h
      obtain ⟨_, _, L, hL, _, him, ⟨hst, hpe⟩, _⟩ := hrec _ _ _ _ _ _ ho
      refine ⟨_, _, run_endLoop hL (by rw [hst]; simp), ?_⟩
      have := hQ _ _ (fin _ _ _ _ _ _ L ho hL him)
      generalize w'.putObj (w.heap.size + 1) (.loop { L with state := .exhausted }) = W at this ⊢
      rw [hpe]
      exact this
    · rename_i ex regs ps' asg' body' ho
      simp only [Option.some.injEq, Prod.mk.injEq] at h
      obtain ⟨rfl, rfl⟩ := h
      obtain ⟨_, _, L, hL, _, him, ⟨hst, hpe, hne⟩, _⟩ := hrec _ _ _ _ _ _ ho
      refine ⟨_, _, run_endLoop hL (by rw [hst]; simp), ?_⟩
      have := hQ _ _ (fin _ _ _ _ _ _ L ho hL him)
      generalize w'.putObj (w.heap.size + 1) (.loop { L with state := .exhausted }) = W at this ⊢
      rw [hpe]
      cases ex with
      | nrm => exact absurd rfl hne
      | exit id => exact wpIn_exit this
      | ret => exact wpIn_ret this

theorem exec_ok (hE : EnvOk P E) (fuel : Nat) : ∀ i : I, Holds P tm nt E fuel i
  | .skip => by
    intro rd M0 w0 c s s' e a w Q h hok hG hs hQ
    cases c <;> simp only [okI] at hok <;> try (cases hok; done)
    all_goals (simp only [exec, Option.some.injEq, Prod.mk.injEq] at h
               obtain ⟨rfl, rfl⟩ := h)
    · exact wpIn_skip (hQ _ _ hs)
    · exact wpIn_label (hQ _ _ hs)
  | .scope b => by
    intro rd M0 w0 c s s' e a w Q h hok hG hs hQ
    cases c <;> simp only [okI] at hok <;> try (cases hok; done)
    rename_i c
    cases rd with
    | some l => simp [exec] at h
    | none =>
    simp only [exec, Option.isSome_none, Bool.false_eq_true, if_false] at h
    have := exec_ok hE fuel b none M0 w0 c s s' e a w (Exit.noGoto Q) h hok hG hs fun a' w' k => by cases e <;> exact hQ a' w' k
    exact wpIn_wide.2 (wp_scope_straight (wpIn_wide.1 this))
  | .exit id => by
    intro rd M0 w0 c s s' e a w Q h hok hG hs hQ
    cases c <;> simp only [okI] at hok <;> try (cases hok; done)
    simp only [beq_iff_eq] at hok
    subst hok
    simp only [exec, Option.some.injEq, Prod.mk.injEq] at h
    obtain ⟨rfl, rfl⟩ := h
    exact wpIn_exit (hQ _ _ hs)
  | .ret => by
    intro rd M0 w0 c s s' e a w Q h hok hG hs hQ
    cases c <;> simp only [okI] at hok <;> try (cases hok; done)
    simp only [exec, Option.some.injEq, Prod.mk.injEq] at h
    obtain ⟨rfl, rfl⟩ := h
    exact wpIn_ret (hQ _ _ hs)
  | .keep js => by
    intro rd M0 w0 c s s' e a w Q h hok hG hs hQ
    cases c <;> simp [okI] at hok
  | .fresh _ _ _ => by
    intro rd M0 w0 c s s' e a w Q h hok hG hs hQ
    cases c <;> simp [okI] at hok
  | .freshb _ _ => by
    intro rd M0 w0 c s s' e a w Q h hok hG hs hQ
    cases c <;> simp [okI] at hok
  | .nxm it jt jb => by
    intro rd M0 w0 c s s' e a w Q h hok hG hs hQ
    simp only [exec] at h
    split at h <;> try (cases h; done)
    rename_i id hit
    split at h <;> try (cases h; done)
    · rename_i cur ho
      simp only [Option.some.injEq, Prod.mk.injEq] at h
      obtain ⟨rfl, rfl⟩ := h
      exact nxm_ok hok hG hs hit ho (fun _ a' w' k1 => hQ a' w' k1) (fun j k v hj => by simp at hj)
    · rename_i x cur ho
      simp only [Option.some.injEq, Prod.mk.injEq] at h
      obtain ⟨rfl, rfl⟩ := h
      refine nxm_ok hok hG hs hit ho (fun h => by cases h) (fun j k v hj a' w' k1 => ?_)
      cases j with
      | zero =>
        simp only [List.getElem?_cons_zero, Option.some.injEq] at hj
        subst hj
        exact hQ a' w' k1
      | succ j => simp at hj
  | .bad => by
    intro rd M0 w0 c s s' e a w Q h hok hG hs hQ
    simp [exec] at h
  | .chain _ => by
    intro rd M0 w0 c s s' e a w Q h hok hG hs hQ
    simp [exec] at h
  | .rf f ps asg body => by
    intro rd M0 w0 c s s' e a w Q h hok hG hs hQ
    cases c <;> simp only [okI] at hok <;> try (cases hok; done)
    rename_i g params ca cb
    simp only [Bool.and_eq_true, beq_iff_eq] at hok
    obtain ⟨⟨⟨⟨⟨k1, k2⟩, k3⟩, k4⟩, k5⟩, k6⟩ := hok
    cases rd with
    | some l => simp [exec] at h
    | none => exact rf_ok hE h k1 k2 k3 k4 k5 k6 hG hs hQ
  | .reg draw ops exp aps => by
    intro rd M0 w0 c s s' e a w Q h hok hG hs hQ
    cases c <;> simp only [okI] at hok <;> try (cases hok; done)
    simp only [Bool.and_eq_true, beq_iff_eq] at hok
    obtain ⟨rfl, hok⟩ := hok
    simp only [exec] at h
    split at h <;> try (cases h; done)
    rename_i ts H hrun
    split at h <;> try (cases h; done)
    rename_i hap
    simp only [Option.some.injEq, Prod.mk.injEq] at h
    obtain ⟨rfl, rfl⟩ := h
    obtain ⟨M, h1, h2, h3, h4, h5⟩ := hs
    exact region_ok hE (hG.mono h2.ext.imm) hok hrun (fun x hx => .inl (List.all_eq_true.1 hap x hx)) h1 h3 h4 fun M' a' w' k1 k2 k3 k4 k5 => hQ a' w' ⟨M', k1, h2.trans k2, k3, k4, by rw [k5]; exact h5.keep k2⟩
  | .regk draw ops exp ks aps => by
    intro rd M0 w0 c s s' e a w Q h hok hG hs hQ
    cases c <;> simp only [okI] at hok <;> try (cases hok; done)
    simp only [Bool.and_eq_true, beq_iff_eq] at hok
    obtain ⟨rfl, hok⟩ := hok
    simp only [exec] at h
    split at h <;> try (cases h; done)
    rename_i hks
    split at h <;> try (cases h; done)
    rename_i ts H hrun
    split at h <;> try (cases h; done)
    rename_i hap
    simp only [Option.some.injEq, Prod.mk.injEq] at h
    obtain ⟨rfl, rfl⟩ := h
    obtain ⟨M, h1, h2, h3, h4, h5⟩ := hs
    refine region_ok hE (hG.mono h2.ext.imm) hok hrun (fun x hx => ?_) h1 h3 h4 fun M' a' w' k1 k2 k3 k4 k5 => hQ a' w' ⟨M', k1, h2.trans k2, k3, k4, by rw [k5]; exact h5.keep k2⟩
    rcases List.mem_append.1 hx with hx | hx
    · exact .inl (List.all_eq_true.1 hap x hx)
    · obtain ⟨k, hk, rfl⟩ := List.mem_map.1 hx
      exact .inr ⟨k, rfl, List.all_eq_true.1 hks k hk⟩
  | .cond x i j => by
    intro rd M0 w0 c s s' e a w Q h hok hG hs hQ
    cases c <;> simp only [okI] at hok <;> try (cases hok; done)
    simp only [Bool.and_eq_true] at hok
    obtain ⟨⟨h1, h2⟩, h3⟩ := hok
    simp only [exec] at h
    split at h <;> try (cases h; done)
    rename_i t hx
    obtain ⟨M, k1, k2, k3, k4⟩ := hs
    have hrel := operand0 (E := E) (hG.mono k2.ext.imm) k3 h1
    rw [hx, relV_bool] at hrel
    refine wpIn_cond hrel ?_
    cases t with
    | true => exact exec_ok hE fuel i rd M0 w0 _ s s' e a w Q h h2 hG ⟨M, k1, k2, k3, k4⟩ hQ
    | false => exact exec_ok hE fuel j rd M0 w0 _ s s' e a w Q h h3 hG ⟨M, k1, k2, k3, k4⟩ hQ
  | .block id i => by
    intro rd M0 w0 c s s' e a w Q h hok hG hs hQ
    cases c <;> simp only [okI] at hok <;> try (cases hok; done)
    simp only [Bool.and_eq_true, beq_iff_eq] at hok
    obtain ⟨rfl, hok⟩ := hok
    simp only [exec] at h
    refine wpIn_block ?_
    cases hb : exec E fuel rd.isSome i s with
    | none => rw [hb] at h; simp at h
    | some r =>
      obtain ⟨e1, s1⟩ := r
      rw [hb] at h
      refine exec_ok hE fuel i rd M0 w0 _ s s1 e1 a w _ hb hok hG hs fun a' w' h3 => ?_
      cases e1 with
      | nrm =>
        simp only [Option.some.injEq, Prod.mk.injEq] at h
        obtain ⟨rfl, rfl⟩ := h
        exact hQ a' w' h3
      | ret =>
        simp only [Option.some.injEq, Prod.mk.injEq] at h
        obtain ⟨rfl, rfl⟩ := h
        exact hQ a' w' h3
      | exit id' =>
        simp only at h
        simp only [exitOf, Exit.inBlock]
        split at h
        · rename_i he
          simp only [Option.some.injEq, Prod.mk.injEq] at h
          obtain ⟨rfl, rfl⟩ := h
          rw [if_pos he]
          exact hQ a' w' h3
        · rename_i he
          simp only [Option.some.injEq, Prod.mk.injEq] at h
          obtain ⟨rfl, rfl⟩ := h
          rw [if_neg he]
          exact hQ a' w' h3
  | .loop js i => exec_loop (exec_ok hE fuel i)
  | .seq i j => by
    intro rd M0 w0 c s s' e a w Q h hok hG hs hQ
    have hj := exec_ok hE fuel j
    have plain : ∀ c d, c = c → okI P tm nt i c = true → okI P tm nt j d = true → (Code.seq c d).wpIn (rnd rd) 0 P Q a w := by
      intro c d _ h1 h2
      refine wpIn_seq ?_
      simp only [exec] at h
      cases hb : exec E fuel rd.isSome i s with
      | none => rw [hb] at h; simp at h
      | some r =>
        obtain ⟨e1, s1⟩ := r
        rw [hb] at h
        refine exec_ok hE fuel i rd M0 w0 c s s1 e1 a w _ hb h1 hG hs fun a' w' h3 => ?_
        cases e1 with
        | nrm => exact hj rd M0 w0 d s1 s' e a' w' Q h h2 hG h3 hQ
        | exit id =>
          simp only [Option.some.injEq, Prod.mk.injEq] at h
          obtain ⟨rfl, rfl⟩ := h
          exact hQ a' w' h3
        | ret =>
          simp only [Option.some.injEq, Prod.mk.injEq] at h
          obtain ⟨rfl, rfl⟩ := h
          exact hQ a' w' h3
    cases i with
    | keep js =>
      simp only [okI] at hok
      simp only [exec] at h
      exact hj rd M0 w0 c _ s' e a w Q h hok hG (hs.keep js) hQ
    | fresh jj off sz =>
      simp only [okI] at hok
      simp only [exec] at h
      exact hj rd M0 w0 c _ s' e a w Q h hok hG (hs.fresh jj off sz) hQ
    | freshb jj off =>
      simp only [okI] at hok
      simp only [exec] at h
      exact hj rd M0 w0 c _ s' e a w Q h hok hG (hs.freshB jj off) hQ
    | _ =>
      cases c <;> simp only [okI] at hok <;> try (cases hok; done)
      all_goals (rw [Bool.and_eq_true] at hok; exact plain _ _ rfl hok.1 hok.2)

/-! ### What a function hands back -/
def resV (tmps : Array Value) : ResultVar → Sem Value
  | .tmp t => pure (tmps.getD t undef)
  | .cell a t => do loadVar t (← asAddr (tmps.getD a undef))

theorem result_rel {M : MM} {regs : List V} {H : Heap} {w : World} {tmps : Array Value} (hs : Sat P M H 0 w) (hr : RelRegs M tm regs tmps) {rv : Rv} {x : ResultVar} {v : V} (h : result regs H rv = some v) (hok : okRv P tm rv x = true) :
    ∃ u, (resV tmps x).run P w = .ok u w ∧ RelV M v u := by
  unfold okRv at hok
  split at hok <;> try (cases hok; done)
  · rename_i j t
    simp only [beq_iff_eq] at hok
    simp only [result] at h
    split at h <;> try (cases h; done)
    simp only [Option.some.injEq] at h
    subst h
    exact ⟨_, rfl, hr j t hok⟩
  · rename_i j n g t ty
    simp only [Bool.and_eq_true, beq_iff_eq, decide_eq_true_eq] at hok
    obtain ⟨⟨⟨h1, h2⟩, h3⟩, h4⟩ := hok
    simp only [result] at h
    split at h <;> try (cases h; done)
    rename_i id gen off hx
    split at h <;> try (cases h; done)
    rename_i cs g' fz ho
    split at h <;> try (cases h; done)
    rename_i hg
    subst hg
    have r1 := hr j t h1
    rw [hx, relV_c] at r1
    obtain ⟨B, b0, bs, fz', hl, hv', arr, T, fr, e1, e2, e3, e4, _⟩ := live_ptr hs (Sub.refl H) ho r1
    have hlen : n ≤ (cs.drop off).length := ofCells_len h
    have hd := e4.drop off
    rw [List.drop_drop] at hd
    obtain ⟨u, hu, hru⟩ := run_loadVar_row (P := P) h3 h2 e1 (by simp at hlen; omega) hd h
    refine ⟨u, ?_, hru⟩
    simp only [resV, hv', Sem.run_bind, asAddr, Sem.run_pure, Result.andThen_ok]
    exact hu

theorem results_rel {M : MM} {regs : List V} {H : Heap} {w : World} {tmps : Array Value} (hs : Sat P M H 0 w) (hr : RelRegs M tm regs tmps) : ∀ {rvs : List Rv} {xs : List ResultVar} {vs : List V}, mapO (result regs H) rvs = some vs → okRvs P tm rvs xs = true →
    ∃ us : List Value, (xs.mapM (resV tmps)).run P w = .ok us w ∧ RelVs M vs us ∧ vs.length = us.length
  | [], [], vs, h, _ => by
    simp only [mapO, Option.some.injEq] at h
    subst h
    exact ⟨[], rfl, RelVs.nil _ _, rfl⟩
  | [], _ :: _, _, _, hok => by simp [okRvs] at hok
  | _ :: _, [], _, _, hok => by simp [okRvs] at hok
  | rv :: rvs, x :: xs, vs, h, hok => by
    simp only [okRvs, Bool.and_eq_true] at hok
    simp only [mapO] at h
    split at h <;> try (cases h; done)
    rename_i y hy
    split at h <;> try (cases h; done)
    rename_i ys hys
    simp only [Option.some.injEq] at h
    subst h
    obtain ⟨u, h1, h2⟩ := result_rel hs hr hy hok.1
    obtain ⟨us, h3, h4, h5⟩ := results_rel hs hr hys hok.2
    refine ⟨u :: us, ?_, by simp only [RelVs]; exact ⟨h2, h4⟩, by simp [h5]⟩
    rw [List.mapM_cons, Sem.run_bind, h1]
    simp only [Result.andThen_ok, Sem.run_bind, h3, Sem.run_pure]

theorem results_ok {M : MM} {regs : List V} {H : Heap} {w : World} {tmps : Array Value} {fn : Func} {rvs : List Rv} {v : V} (hs : Sat P M H 0 w) (hr : RelRegs M tm regs tmps) (h : Mini.results regs H rvs = some v) (hok : okRvs P tm rvs fn.results.toList = true) :
    ∃ u, (Go.results fn tmps).run P w = .ok u w ∧ RelV M v u := by
  unfold Mini.results at h
  cases hm : mapO (result regs H) rvs with
  | none => rw [hm] at h; simp at h
  | some vs =>
    rw [hm] at h
    obtain ⟨us, h1, h2, h3⟩ := results_rel hs hr hm hok
    have hrun : ∀ u, (if h : us.toArray.size = 1 then us.toArray[0] else Value.tuple us.toArray) = u → (Go.results fn tmps).run P w = .ok u w := by
      intro u hu
      have e : Go.results fn tmps = (do let vs ← fn.results.mapM (resV tmps); pure (if h : vs.size = 1 then vs[0] else .tuple vs)) := by
        unfold Go.results
        congr 1
      rw [e, Array.mapM_eq_mapM_toList]
      simp only [Sem.run_bind, Sem.run_map, h1, Result.andThen_ok, Sem.run_pure]
      rw [← hu]
    split at h
    · rename_i v' e
      cases e
      simp only [Option.some.injEq] at h
      subst h
      obtain ⟨u, rfl⟩ : ∃ u, us = [u] := by
        match us, h3 with
        | [u], _ => exact ⟨u, rfl⟩
      simp only [RelVs] at h2
      exact ⟨u, hrun u (by simp), h2.1⟩
    · rename_i vs' hne e
      cases e
      simp only [Option.some.injEq] at h
      subst h
      have hl : us.length ≠ 1 := by
        intro e
        rw [e] at h3
        obtain ⟨x, rfl⟩ : ∃ x, vs = [x] := by
          match vs, h3 with
          | [x], _ => exact ⟨x, rfl⟩
        exact hne x rfl
      refine ⟨.tuple us.toArray, hrun _ (by simp [hl]), ?_⟩
      rw [relV_tup]
      exact ⟨_, rfl, by simp [h3], h2⟩
    · cases h
end
end Mini
end Go.Proofs.YtmcgaakbkgdljaaGreatDoor
