/-
  The code of a function, carried out.
-/
import Derived.Test.YtmcgaakbkgdljaaGreatDoorMiniE17
namespace Go.Proofs.YtmcgaakbkgdljaaGreatDoor
namespace Mini
open Go

def exitOf : Ex → Exit
  | .nrm => .normal
  | .exit i => .exit i
  | .ret => .ret

def markOf (r : Nat) : Deferred := { target := .collected r, args := #[] }
/-- What the loops over functions have left to be done at the function's end. -/
def Marks (M : MM) (w0 w : World) (ds : List Deferred) : Prop :=
  ∃ rs : List Nat, ds = rs.map markOf ∧ rs.Nodup ∧ ∀ r ∈ rs, w0.heap.size ≤ r ∧ w.heap[r]? = some (.deferred (some [])) ∧ ¬ M.Owns r ∧ M.imm r = none

theorem Marks.nil (M : MM) (w0 w : World) : Marks M w0 w [] := ⟨[], rfl, List.nodup_nil, fun _ h => by cases h⟩
theorem Marks.keep {M M' : MM} {w0 w w' : World} {ds : List Deferred} (h : Marks M w0 w ds) (hf : Fr M M' w w') : Marks M' w0 w' ds := by
  obtain ⟨rs, h1, h2, h3⟩ := h
  refine ⟨rs, h1, h2, fun r hr => ?_⟩
  obtain ⟨k1, k2, k3, k4⟩ := h3 r hr
  have hlt := (Array.getElem?_eq_some_iff.1 k2).1
  refine ⟨k1, by rw [hf.keep r hlt k3]; exact k2, fun ho => (hf.own r ho).elim k3 (fun h => by omega), ?_⟩
  cases hi : M'.imm r with
  | none => rfl
  | some o =>
    rcases hf.imm r o hi with h | h | h
    · rw [k4] at h; cases h
    · exact absurd h k3
    · omega
theorem Marks.same {M M' : MM} {w0 w : World} {ds : List Deferred} (h : Marks M w0 w ds) (ho : ∀ B, M'.Owns B → M.Owns B) (hi : M'.imm = M.imm) : Marks M' w0 w ds := by
  obtain ⟨rs, h1, h2, h3⟩ := h
  refine ⟨rs, h1, h2, fun r hr => ?_⟩
  obtain ⟨k1, k2, k3, k4⟩ := h3 r hr
  exact ⟨k1, k2, fun h => k3 (ho r h), by rw [hi]; exact k4⟩

theorem marks_mem {M M' : MM} {w0 w w' : World} {r : Nat} (hf : Fr M M' w w') (h : w0.heap.size ≤ r ∧ w.heap[r]? = some (.deferred (some [])) ∧ ¬ M.Owns r ∧ M.imm r = none) : w0.heap.size ≤ r ∧ w'.heap[r]? = some (.deferred (some [])) ∧ ¬ M'.Owns r ∧ M'.imm r = none := by
  have h1 : Marks M w0 w ([r].map markOf) := ⟨[r], rfl, by simp, fun r' hr => by rw [List.mem_singleton] at hr; subst hr; exact h⟩
  obtain ⟨rs, k1, _, k3⟩ := h1.keep hf
  have : rs = [r] := by
    match rs, k1 with
    | [r'], k1 => simp [markOf] at k1; rw [k1]
  subst this
  exact k3 r (by simp)

/-- An object whose block lies as it lay. -/
theorem obSat_move {P : Program} {M M' : MM} {w w' : World} {base : Nat} {id : Nat} {o : Ob} {B b c : Nat} (he : Ext M M') (hg : M'.gen id = M.gen id) (hb : w'.heap[B]? = w.heap[B]?) (hi : M.imm B = none → M'.imm B = none)
    (h : ObSat P M w base id o (some (B, b, c))) : ObSat P M' w' base id o (some (B, b, c)) := by
  cases o with
  | dead => simp [ObSat] at h
  | bld s => simp [ObSat] at h
  | map es fz =>
    simp only [ObSat] at h ⊢
    obtain ⟨hgen, xs, cl, ys, h3, h4, h5, h6, h7, h8⟩ := h
    exact ⟨by rw [hg]; exact hgen, xs, cl, ys, by rw [hb]; exact h3, h4, h5.imp (fun q => ⟨q.1, hi q.2⟩) (fun q => ⟨q.1, he.imm _ _ q.2⟩), h6, h7, RelM.mono he h8⟩
  | sit s pos =>
    simp only [ObSat] at h ⊢
    obtain ⟨hgen, hz, bs, h3, h4, h5, h6⟩ := h
    exact ⟨by rw [hg]; exact hgen, hz, bs, by rw [hb]; exact h3, h4, hi h5, h6⟩
  | chn cap buf =>
    simp only [ObSat] at h ⊢
    exact ⟨by rw [hg]; exact h.1, h.2.move he hb hi⟩
  | mit l c =>
    simp only [ObSat] at h ⊢
    obtain ⟨hgen, hz, h⟩ := h
    exact ⟨by rw [hg]; exact hgen, hz, h.move he hb hi⟩
  | cells cs g fz =>
    simp only [ObSat] at h ⊢
    obtain ⟨hgen, arr, T, fr, h3, h4, h5, h6, h7⟩ := h
    refine ⟨by rw [hg]; exact hgen, arr, T, fr, by rw [hb]; exact h3, h4, h5, RelCs.mono he h6, ?_⟩
    rcases h7 with ⟨h7, h8, h9⟩ | ⟨h7, h8⟩
    · exact .inl ⟨h7, hi h8, h9⟩
    · exact .inr ⟨h7, he.imm _ _ h8⟩
  | loop ready pend regs ps asg body =>
    simp only [ObSat] at h ⊢
    obtain ⟨hgen, L, h3, h4, h5, h8, tm, nt, h9, h10, h11, h12, h13⟩ := h
    exact ⟨by rw [hg]; exact hgen, L, by rw [hb]; exact h3, h4, hi h5, h8, tm, nt, h9, h10, h11, fun j t ht => RelV.mono he (h12 j t ht), h13⟩

/-- The abstract state and the machine's. -/
def StRel (P : Program) (tm : List Nat) (nt : Nat) (M0 : MM) (w0 : World) (s : St) (a : Act) (w : World) : Prop :=
  ∃ M, Sat P M s.heap 0 w ∧ Fr M0 M w0 w ∧ RelRegs M tm s.regs a.tmps ∧ a.tmps.size = nt ∧ Marks M w0 w a.defers

section
variable {P : Program} {tm : List Nat} {nt : Nat} {M0 M : MM} {w0 w : World} {s : St} {a : Act} {E : Env}

theorem nth_keepOnly (js : List Nat) : ∀ (regs : List V) (j0 j : Nat), nth (keepOnly js j0 regs) j = if js.contains (j0 + j) then nth regs j else .any
  | [], j0, j => by simp [keepOnly, nth]
  | x :: xs, j0, 0 => by simp [keepOnly, nth]
  | x :: xs, j0, j + 1 => by
    simp only [keepOnly, nth, nth_keepOnly js xs (j0 + 1) j]
    rw [show j0 + 1 + j = j0 + (j + 1) by omega]

theorem StRel.keep (h : StRel P tm nt M0 w0 s a w) (js : List Nat) : StRel P tm nt M0 w0 ⟨keepOnly js 0 s.regs, s.heap⟩ a w := by
  obtain ⟨M, h1, h2, h3, h4⟩ := h
  refine ⟨M, h1, h2, fun j t hj => ?_, h4⟩
  rw [nth_keepOnly]
  split
  · exact h3 j t hj
  · exact relV_any

/-! ### Objects let go -/
def MM.cut (M : MM) (n : Nat) : MM := ⟨M.imm, fun id => if id < n then M.loc id else none, fun id => if id < n then M.gen id else 0, n, M.ty⟩

mutual
theorem RelC.cut {n : Nat} : ∀ {c : C} {v : Value}, RelC M c v → c.under n = true → RelC (M.cut n) c v
  | .d _, _, r, _ => by simp only [RelC] at r ⊢; exact r
  | .ptr id g off, v, r, h => by
    simp only [C.under, decide_eq_true_eq] at h
    simp only [RelC, MM.cut] at r ⊢
    rw [if_pos h, if_pos h]
    exact ⟨h, r.2⟩
  | .os id g off len sz cap, v, r, h => by
    simp only [C.under, decide_eq_true_eq] at h
    simp only [RelC, MM.cut] at r ⊢
    rw [if_pos h, if_pos h]
    exact ⟨h, r.2⟩
  | .fn f a b, v, r, h => by
    simp only [C.under, Bool.and_eq_true] at h
    simp only [RelC] at r ⊢
    obtain ⟨x, y, h1, h2, h3, h4, h5⟩ := r
    exact ⟨x, y, h1, RelCs.cut h2 h.1, h3, RelCs.cut h4 h.2, h5⟩
  | .yld id, _, r, h => by
    simp only [C.under, decide_eq_true_eq] at h
    simp only [RelC, MM.cut] at r ⊢
    rw [if_pos h, if_pos h]
    exact ⟨h, r.2⟩
  | .bt id t, _, r, h => by
    simp only [C.under, decide_eq_true_eq] at h
    simp only [RelC, MM.cut] at r ⊢
    rw [if_pos h, if_pos h]
    exact ⟨h, r.2⟩
  | .mp id, _, r, h => by
    simp only [C.under, decide_eq_true_eq] at h
    simp only [RelC, MM.cut] at r ⊢
    rw [if_pos h, if_pos h]
    exact ⟨h, r.2⟩
  | .ch id, _, r, h => by
    simp only [C.under, decide_eq_true_eq] at h
    simp only [RelC, MM.cut] at r ⊢
    rw [if_pos h, if_pos h]
    exact ⟨h, r.2⟩
theorem RelCs.cut {n : Nat} : ∀ {cs : List C} {vs : List Value}, RelCs M cs vs → undersC n cs = true → RelCs (M.cut n) cs vs
  | [], _, _, _ => RelCs.nil _ _
  | _ :: _, [], r, _ => by simp only [RelCs] at r
  | c :: cs, v :: vs, r, h => by
    simp only [undersC, Bool.and_eq_true] at h
    simp only [RelCs] at r ⊢
    exact ⟨RelC.cut r.1 h.1, RelCs.cut r.2 h.2⟩
end

theorem RelV.cut {n : Nat} {x : V} {v : Value} (r : RelV M x v) (h : x.under n = true) : RelV (M.cut n) x v := by
  cases x with
  | c x => rw [relV_c] at r ⊢; exact RelC.cut r h
  | agg cs =>
    rw [relV_agg] at r ⊢
    obtain ⟨arr, h1, h2, h3⟩ := r
    exact ⟨arr, h1, h2, RelCs.cut h3 h⟩
  | tup vs =>
    simp only [V.under, List.isEmpty_iff] at h
    subst h
    rw [relV_tup] at r ⊢
    obtain ⟨arr, h1, h2, h3⟩ := r
    exact ⟨arr, h1, h2, RelVs.nil _ _⟩
  | any => exact relV_any

theorem RelM.cut {n : Nat} : ∀ {es : List (V × V)} {xs : List MapEntry}, RelM M es xs → (es.all fun e => e.1.under n && e.2.under n) = true → RelM (M.cut n) es xs
  | [], [], _, _ => by simp only [RelM]
  | [], _ :: _, r, _ => by simp only [RelM] at r
  | _ :: _, [], r, _ => by simp only [RelM] at r
  | _ :: _, _ :: _, r, h => by
    simp only [List.all_cons, Bool.and_eq_true] at h
    simp only [RelM] at r ⊢
    exact ⟨RelV.cut r.1 h.1.1, RelV.cut r.2.1 h.1.2, r.2.2.1, r.2.2.2.1, RelM.cut r.2.2.2.2 h.2⟩
theorem nth_mem : ∀ (regs : List V) (j : Nat), nth regs j = .any ∨ nth regs j ∈ regs
  | [], _ => .inl rfl
  | x :: xs, 0 => .inr (by simp [nth])
  | x :: xs, j + 1 => by
    rcases nth_mem xs j with h | h
    · exact .inl h
    · exact .inr (by simp [nth, h])

theorem Sat.cut {H : Heap} (h1 : Sat P M H 0 w) {hl : Nat} (hge : hl ≤ H.length) (hc2 : ∀ o ∈ H.take hl, o.under hl = true) : Sat P (M.cut hl) (H.take hl) 0 w := by
  have hob : ∀ id, id < hl → ob? (H.take hl) id = ob? H id := fun id hid => by rw [ob?_eq, ob?_eq, List.getElem?_take, if_pos hid]
  refine ⟨?_, ?_, h1.imm, ?_, ?_, ?_, h1.ty, fun id B b c hid hg => by
    simp only [MM.cut] at hid hg
    split at hid
    · rename_i e; rw [if_pos e] at hg; exact h1.bty id B b c hid hg
    · cases hid⟩
  · simp only [MM.cut, List.length_take]; omega
  · intro id hid
    simp only [MM.cut] at hid ⊢
    rw [if_neg (by omega), if_neg (by omega)]
    exact ⟨rfl, rfl⟩
  · intro id l hid
    simp only [MM.cut] at hid
    split at hid
    · rename_i hlt
      obtain ⟨o, ho, hos⟩ := h1.obj id l hid
      refine ⟨o, by rw [hob id hlt]; exact ho, ?_⟩
      have hund : o.under hl = true := hc2 o (by
        rw [ob?_eq] at ho
        exact List.mem_of_getElem? (by rw [List.getElem?_take, if_pos hlt]; exact ho))
      have hg : (M.cut hl).gen id = M.gen id := by simp only [MM.cut]; rw [if_pos hlt]
      cases o with
      | cells cs g fz =>
        cases l with
        | none => simp only [ObSat] at hos ⊢; rw [hg]; exact hos
        | some l =>
          obtain ⟨B, b0, bs⟩ := l
          simp only [ObSat] at hos ⊢
          obtain ⟨e0, arr, T, fr, e1, e2, e3, e4, e5⟩ := hos
          exact ⟨by rw [hg]; exact e0, arr, T, fr, e1, e2, e3, RelCs.cut e4 hund, e5⟩
      | loop ready pend regs ps asg body =>
        cases l with
        | none => simp [ObSat] at hos
        | some l =>
          obtain ⟨B, b0, bs⟩ := l
          simp only [ObSat] at hos ⊢
          obtain ⟨e0, L, e1, e2, e3, e6, tm', nt', e7, e8, e9, e10, e11⟩ := hos
          refine ⟨by rw [hg]; exact e0, L, e1, e2, e3, e6, tm', nt', e7, e8, e9, fun j t hj => ?_, e11⟩
          refine RelV.cut (e10 j t hj) ?_
          rcases nth_mem regs j with e | e
          · rw [e]; rfl
          · simp only [Ob.under, List.all_eq_true] at hund; exact hund _ e
      | bld _ => cases l <;> simp [ObSat] at hos
      | dead => cases l <;> simp [ObSat] at hos
      | map es fz =>
        cases l with
        | none => simp [ObSat] at hos
        | some l =>
          obtain ⟨B, b0, bs⟩ := l
          simp only [ObSat] at hos ⊢
          obtain ⟨e0, xs, cl, ys, e1, e2, e3, e4, e5, e6⟩ := hos
          refine ⟨by rw [hg]; exact e0, xs, cl, ys, e1, e2, e3, e4, e5, RelM.cut e6 ?_⟩
          simp only [Ob.under] at hund
          exact hund
      | sit s pos =>
        cases l with
        | none => simp [ObSat] at hos
        | some l =>
          obtain ⟨B, b0, bs⟩ := l
          simp only [ObSat] at hos ⊢
          exact ⟨by rw [hg]; exact hos.1, hos.2⟩
      | chn cap buf =>
        cases l with
        | none => simp [ObSat] at hos
        | some l =>
          obtain ⟨B, b0, bs⟩ := l
          simp only [ObSat] at hos ⊢
          exact ⟨by rw [hg]; exact hos.1, hos.2⟩
      | mit l' c =>
        cases l with
        | none => simp [ObSat] at hos
        | some l =>
          obtain ⟨B, b0, bs⟩ := l
          simp only [ObSat] at hos ⊢
          obtain ⟨e0, hz, m, since, seen, stp, k1, k2, k3, k4⟩ := hos
          refine ⟨by rw [hg]; exact e0, hz, m, since, seen, stp, k1, k2, k3, ?_⟩
          rcases k4 with k4 | ⟨bm, xs, clock, ys, q1, q2, q3, q4, q5, q6, q7, q8⟩
          · exact .inl k4
          · simp only [Ob.under, Bool.and_eq_true] at hund
            refine .inr ⟨bm, xs, clock, ys, q1, q2, q3, q4, q5, q6, RelM.cut q7 hund.1, fun k v hc => ?_⟩
            obtain ⟨e, z1, z2, z3, z4, z5⟩ := q8 k v hc
            subst hc
            have hu := hund.2
            simp only [Option.toList_some, List.all_cons, List.all_nil, Bool.and_true, Bool.and_eq_true] at hu
            exact ⟨e, z1, z2, z3, RelV.cut z4 hu.1, RelV.cut z5 hu.2⟩
    · cases hid
  · intro id o ho hl'
    rcases Nat.lt_or_ge id hl with hlt | hge2
    · rw [hob id hlt] at ho
      simp only [MM.cut] at hl' ⊢
      rw [if_pos hlt] at hl' ⊢
      exact h1.idle id o ho hl'
    · simp only [MM.cut]
      rw [if_neg (by omega)]
      exact .inr rfl
  · intro id id' B b c b' c' e1 e2
    simp only [MM.cut] at e1 e2
    split at e1 <;> try (cases e1; done)
    split at e2 <;> try (cases e2; done)
    exact h1.inj id id' B b c b' c' e1 e2

theorem StRel.gc (h : StRel P tm nt M0 w0 s a w) {hl : Nat} (hle : M0.n ≤ hl) : StRel P tm nt M0 w0 (gc hl s) a w := by
  unfold Mini.gc
  split
  · rename_i hc
    simp only [Bool.and_eq_true, List.all_eq_true] at hc
    obtain ⟨hc1, hc2⟩ := hc
    rcases Nat.lt_or_ge s.heap.length hl with hlt | hge
    · rw [List.take_of_length_le (by omega)]; exact h
    · obtain ⟨M, h1, h2, h3, h4, h5⟩ := h
      refine ⟨M.cut hl, h1.cut hge hc2, ⟨⟨h2.ext.imm, hle, ?_, ?_, h2.ext.ty⟩, h2.os, h2.tape, h2.output, h2.size, h2.keep, ?_, h2.imm⟩, ?_, h4, ?_⟩
      · intro id hid
        simp only [MM.cut]
        rw [if_pos (by omega)]
        exact h2.ext.gen id hid
      · intro id l hid hg hl'
        simp only [MM.cut] at hg ⊢
        rw [if_pos (by omega)] at hg ⊢
        exact h2.ext.loc id l hid hg hl'
      · rintro B ⟨id, b, c, hid⟩
        simp only [MM.cut] at hid
        split at hid
        · exact h2.own B ⟨id, b, c, hid⟩
        · cases hid
      · intro j t hj
        refine RelV.cut (h3 j t hj) ?_
        rcases nth_mem s.regs j with e | e
        · rw [e]; rfl
        · exact hc1 _ e
      · refine h5.same ?_ rfl
        rintro B ⟨id, b, c, hid⟩
        simp only [MM.cut] at hid
        split at hid
        · exact ⟨id, b, c, hid⟩
        · cases hid
  · exact h

theorem StRel.tidy (h : StRel P tm nt M0 w0 s a w) {hl : Nat} (hle : M0.n ≤ hl) (js : Option (List Nat)) : StRel P tm nt M0 w0 (tidy hl js s) a w := by
  cases js with
  | none => exact h
  | some js => exact (h.keep js).gc hle

/-! ### An empty object for a nil slice -/
def MM.nil (M : MM) (id : Nat) : MM := { M with loc := fun j => if j = id then some none else M.loc j, n := id + 1 }

theorem StRel.fresh (h : StRel P tm nt M0 w0 s a w) (j : Nat) (off : Option Nat) (sz : Nat) : StRel P tm nt M0 w0 (freshen j off sz s) a w := by
  obtain ⟨M, h1, h2, h3, h4, h5⟩ := h
  have hn := h1.n
  have h5' : Marks (M.nil s.heap.length) w0 w a.defers := by
    refine h5.same ?_ rfl
    rintro B ⟨id, b, c, hid⟩
    simp only [MM.nil] at hid
    split at hid
    · cases hid
    · exact ⟨id, b, c, hid⟩
  have hext : Ext M (M.nil s.heap.length) := ⟨fun _ _ h => h, by simp only [MM.nil]; omega, fun _ _ => Nat.le_refl _, fun id l hid _ hl => by simp only [MM.nil]; rw [if_neg (by omega)]; exact hl, fun _ _ h => h⟩
  have hout := h1.out s.heap.length (by omega)
  have hnil : ∀ v, v = Value.slice none 0 0 → RelC (M.nil s.heap.length) (.os s.heap.length 0 0 0 sz none) v := by
    rintro v rfl
    simp only [RelC, MM.nil]
    exact ⟨by omega, Nat.zero_le _, none, 0, rfl, Nat.le_refl _, .inl rfl, (fun k hk => by cases hk), fun _ => by simp [OsAt]⟩
  -- a heap of as many objects, each at its place
  have sat : ∀ H : Heap, H.length = s.heap.length → (∀ id o, ob? s.heap id = some o → ∀ l, ObSat P M w 0 id o l → ∃ o', ob? H id = some o' ∧ ObSat P (M.nil s.heap.length) w 0 id o' l) →
      (∀ id o, ob? H id = some o → M.loc id = none → o = .dead ∨ M.gen id = 0) → Sat P (M.nil s.heap.length) (H ++ [.cells [] 0 false]) 0 w := by
    intro H hlen hobs hidle
    have hob : ∀ id, id < H.length → ob? (H ++ [.cells [] 0 false]) id = ob? H id := fun id hid => by rw [ob?_eq, ob?_eq, List.getElem?_append_left hid]
    refine ⟨by simp only [MM.nil, List.length_append, List.length_cons, List.length_nil]; omega, ?_, h1.imm, ?_, ?_, ?_, h1.ty, fun id B b c hid hg => by
      simp only [MM.nil] at hid hg
      split at hid
      · cases hid
      · exact h1.bty id B b c hid hg⟩
    · intro id hid
      simp only [MM.nil] at hid ⊢
      rw [if_neg (by omega)]
      exact h1.out id (by omega)
    · intro id l hl
      simp only [MM.nil] at hl
      split at hl
      · rename_i e
        subst e
        simp only [Option.some.injEq] at hl
        subst hl
        refine ⟨.cells [] 0 false, by rw [ob?_eq, ← hlen, List.getElem?_append_right (Nat.le_refl _), Nat.sub_self]; rfl, ?_⟩
        simp only [ObSat]
        exact ⟨trivial, hout.2⟩
      · obtain ⟨o, ho, hos⟩ := h1.obj id l hl
        obtain ⟨o', ho', hos'⟩ := hobs id o ho l hos
        exact ⟨o', by rw [hob id (ob?_lt ho')]; exact ho', hos'⟩
    · intro id o ho hl
      simp only [MM.nil] at hl ⊢
      split at hl
      · cases hl
      · rename_i hne
        rcases Nat.lt_or_ge id H.length with hlt | hge
        · rw [hob id hlt] at ho
          exact hidle id o ho hl
        · exact .inr (h1.out id (by omega)).2
    · intro id id' B b c b' c' e1 e2
      simp only [MM.nil] at e1 e2
      split at e1 <;> try (cases e1; done)
      split at e2 <;> try (cases e2; done)
      exact h1.inj id id' B b c b' c' e1 e2
  have fr : Fr M0 (M.nil s.heap.length) w0 w := by
    refine ⟨h2.ext.trans hext, h2.os, h2.tape, h2.output, h2.size, h2.keep, ?_, h2.imm⟩
    rintro B ⟨id, b, c, hid⟩
    simp only [MM.nil] at hid
    split at hid
    · cases hid
    · exact h2.own B ⟨id, b, c, hid⟩
  have obk : ∀ id o l, ObSat P M w 0 id o l → ObSat P (M.nil s.heap.length) w 0 id o l := fun id o l ho => ho.keep hext rfl (fun B b c _ => ⟨rfl, fun h => h⟩) (fun B hB => hB)
  unfold freshen
  split
  · split
    · rename_i hj
      refine ⟨M.nil s.heap.length, sat s.heap rfl (fun id o ho l hos => ⟨o, ho, obk id o l hos⟩) (fun id o ho hl => h1.idle id o ho hl), fr, fun j' t hj' => ?_, h4, h5'⟩
      simp only [nth_put]
      split
      · rename_i e
        subst e
        split
        · have := h3 j' t hj'
          rw [hj, relV_nils] at this
          rw [relV_c]
          exact hnil _ this
        · exact relV_any
      · exact RelV.mono hext (h3 j' t hj')
    · exact ⟨M, h1, h2, h3, h4, h5⟩
  · rename_i o
    split
    · rename_i id gen hj
      split
      · rename_i cs g ho
        split
        · rename_i hcell
          split
          · rename_i hg
            have hlen : o < cs.length := (List.getElem?_eq_some_iff.1 hcell).1
            have hsl : (splice cs o [.os s.heap.length 0 0 0 sz none]).length = cs.length := splice_length (by simp only [List.length_cons, List.length_nil]; omega)
            refine ⟨M.nil s.heap.length, sat (setOb s.heap id (.cells (splice cs o [.os s.heap.length 0 0 0 sz none]) g false)) (setOb_length _ _ _) ?_ ?_, fr, fun j' t hj' => RelV.mono hext (h3 j' t hj'), h4, h5'⟩
            · intro id' o' ho' l hos
              by_cases e : id' = id
              · subst e
                rw [ho] at ho'
                cases ho'
                refine ⟨_, ob?_setOb_same ho, ?_⟩
                cases l with
                | none =>
                  simp only [ObSat] at hos
                  rw [hos.1] at hlen
                  simp at hlen
                | some l =>
                  obtain ⟨B, b0, bs⟩ := l
                  have hos' := obk _ _ _ hos
                  simp only [ObSat] at hos' ⊢
                  obtain ⟨e0, arr, T, fr', e1, e2, e3, e4, e5⟩ := hos'
                  refine ⟨e0, arr, T, fr', e1, e2, by rw [hsl]; exact e3, ?_, e5⟩
                  rw [RelCs.iff] at e4 ⊢
                  intro m d hd
                  by_cases hm : m = o
                  · subst hm
                    obtain ⟨u, hu, hr⟩ := e4 m _ hcell
                    refine ⟨u, hu, ?_⟩
                    have hd' : d = .os s.heap.length 0 0 0 sz none := by
                      simp only [splice] at hd
                      rw [List.append_assoc, List.getElem?_append_right (by rw [List.length_take]; omega), List.length_take, Nat.min_eq_left (by omega), Nat.sub_self] at hd
                      simp at hd
                      exact hd.symm
                    rw [hd']
                    refine hnil u ?_
                    simpa [RelC, RelD] using hr
                  · have hd' : cs[m]? = some d := by
                      simp only [splice, List.length_cons, List.length_nil, Nat.zero_add] at hd
                      rcases Nat.lt_or_ge m o with hlt | hge
                      · rw [List.append_assoc, List.getElem?_append_left (by rw [List.length_take]; omega), List.getElem?_take, if_pos hlt] at hd
                        exact hd
                      · rw [List.getElem?_append_right (by simp only [List.length_append, List.length_take, List.length_cons, List.length_nil]; omega), List.getElem?_drop] at hd
                        simp only [List.length_append, List.length_take, List.length_cons, List.length_nil] at hd
                        rw [show o + 1 + (m - (min o cs.length + (0 + 1))) = m by omega] at hd
                        exact hd
                    exact e4 m d hd'
              · exact ⟨o', by rw [ob?_setOb_ne e]; exact ho', obk _ _ _ hos⟩
            · intro id' o' ho' hl
              by_cases e : id' = id
              · subst e
                exact (h1.idle id' _ ho hl).elim (fun h => by cases h) .inr
              · rw [ob?_setOb_ne e] at ho'
                exact h1.idle id' o' ho' hl
          · exact ⟨M, h1, h2, h3, h4, h5⟩
        · exact ⟨M, h1, h2, h3, h4, h5⟩
      · exact ⟨M, h1, h2, h3, h4, h5⟩
    · exact ⟨M, h1, h2, h3, h4, h5⟩

/-! ### An empty object for a builder's nil slice -/
def MM.nilB (M : MM) (id : Nat) : MM := { M with loc := fun j => if j = id then some none else M.loc j, gen := fun j => if j = id then genK else M.gen j, n := id + 1 }

theorem StRel.freshB (h : StRel P tm nt M0 w0 s a w) (j o : Nat) : StRel P tm nt M0 w0 (freshenB j o s) a w := by
  obtain ⟨M, h1, h2, h3, h4, h5⟩ := h
  have hn := h1.n
  have h5' : Marks (M.nilB s.heap.length) w0 w a.defers := by
    refine h5.same ?_ rfl
    rintro B ⟨id, b, c, hid⟩
    simp only [MM.nilB] at hid
    split at hid
    · cases hid
    · exact ⟨id, b, c, hid⟩
  have hext : Ext M (M.nilB s.heap.length) := ⟨fun _ _ h => h, by simp only [MM.nilB]; omega, fun id hid => by simp only [MM.nilB]; rw [if_neg (by omega)]; exact Nat.le_refl _, fun id l hid _ hl => by simp only [MM.nilB]; rw [if_neg (by omega)]; exact hl, fun _ _ h => h⟩
  have hout := h1.out s.heap.length (by omega)
  have hnil : ∀ v, v = Value.slice none 0 0 → RelC (M.nilB s.heap.length) (.os s.heap.length genK 0 0 1 none) v := by
    rintro v rfl
    simp only [RelC, MM.nilB]
    exact ⟨by omega, by rw [if_pos trivial]; exact Nat.le_refl _, none, 0, rfl, Nat.le_refl _, .inl rfl, (fun k hk => by cases hk), fun _ => by simp [OsAt]⟩
  -- a heap of as many objects, each at its place
  have sat : ∀ H : Heap, H.length = s.heap.length → (∀ id o, ob? s.heap id = some o → ∀ l, ObSat P M w 0 id o l → ∃ o', ob? H id = some o' ∧ ObSat P (M.nilB s.heap.length) w 0 id o' l) →
      (∀ id o, ob? H id = some o → M.loc id = none → o = .dead ∨ M.gen id = 0) → Sat P (M.nilB s.heap.length) (H ++ [.cells [] genK false]) 0 w := by
    intro H hlen hobs hidle
    have hob : ∀ id, id < H.length → ob? (H ++ [.cells [] genK false]) id = ob? H id := fun id hid => by rw [ob?_eq, ob?_eq, List.getElem?_append_left hid]
    refine ⟨by simp only [MM.nilB, List.length_append, List.length_cons, List.length_nil]; omega, ?_, h1.imm, ?_, ?_, ?_, h1.ty, fun id B b c hid hg => by
      simp only [MM.nilB] at hid hg
      split at hid
      · cases hid
      · rename_i e; rw [if_neg e] at hg; exact h1.bty id B b c hid hg⟩
    · intro id hid
      simp only [MM.nilB] at hid ⊢
      rw [if_neg (by omega), if_neg (by omega)]
      exact h1.out id (by omega)
    · intro id l hl
      simp only [MM.nilB] at hl
      split at hl
      · rename_i e
        subst e
        simp only [Option.some.injEq] at hl
        subst hl
        refine ⟨.cells [] genK false, by rw [ob?_eq, ← hlen, List.getElem?_append_right (Nat.le_refl _), Nat.sub_self]; rfl, ?_⟩
        simp only [ObSat]
        exact ⟨trivial, by simp [MM.nilB]⟩
      · obtain ⟨o, ho, hos⟩ := h1.obj id l hl
        obtain ⟨o', ho', hos'⟩ := hobs id o ho l hos
        exact ⟨o', by rw [hob id (ob?_lt ho')]; exact ho', hos'⟩
    · intro id o ho hl
      simp only [MM.nilB] at hl ⊢
      split at hl
      · cases hl
      · rename_i hne
        rw [if_neg hne]
        rcases Nat.lt_or_ge id H.length with hlt | hge
        · rw [hob id hlt] at ho
          exact hidle id o ho hl
        · exact .inr (h1.out id (by omega)).2
    · intro id id' B b c b' c' e1 e2
      simp only [MM.nilB] at e1 e2
      split at e1 <;> try (cases e1; done)
      split at e2 <;> try (cases e2; done)
      exact h1.inj id id' B b c b' c' e1 e2
  have fr : Fr M0 (M.nilB s.heap.length) w0 w := by
    refine ⟨h2.ext.trans hext, h2.os, h2.tape, h2.output, h2.size, h2.keep, ?_, h2.imm⟩
    rintro B ⟨id, b, c, hid⟩
    simp only [MM.nilB] at hid
    split at hid
    · cases hid
    · exact h2.own B ⟨id, b, c, hid⟩
  have obk : ∀ id o l, id < s.heap.length → ObSat P M w 0 id o l → ObSat P (M.nilB s.heap.length) w 0 id o l := fun id o l hid ho => ho.keep hext (by simp only [MM.nilB]; rw [if_neg (by omega)]) (fun B b c _ => ⟨rfl, fun h => h⟩) (fun B hB => hB)
  unfold freshenB
  split
  · rename_i id gen hj
    split
    · rename_i cs g ho
      split
      · rename_i hcell
        split
        · rename_i hg
          have hlen : o < cs.length := (List.getElem?_eq_some_iff.1 hcell).1
          have hsl : (splice cs o [.os s.heap.length genK 0 0 1 none]).length = cs.length := splice_length (by simp only [List.length_cons, List.length_nil]; omega)
          refine ⟨M.nilB s.heap.length, sat (setOb s.heap id (.cells (splice cs o [.os s.heap.length genK 0 0 1 none]) g false)) (setOb_length _ _ _) ?_ ?_, fr, fun j' t hj' => RelV.mono hext (h3 j' t hj'), h4, h5'⟩
          · intro id' o' ho' l hos
            by_cases e : id' = id
            · subst e
              rw [ho] at ho'
              cases ho'
              refine ⟨_, ob?_setOb_same ho, ?_⟩
              cases l with
              | none =>
                simp only [ObSat] at hos
                rw [hos.1] at hlen
                simp at hlen
              | some l =>
                obtain ⟨B, b0, bs⟩ := l
                have hos' := obk _ _ _ (ob?_lt ho) hos
                simp only [ObSat] at hos' ⊢
                obtain ⟨e0, arr, T, fr', e1, e2, e3, e4, e5⟩ := hos'
                refine ⟨e0, arr, T, fr', e1, e2, by rw [hsl]; exact e3, ?_, e5⟩
                rw [RelCs.iff] at e4 ⊢
                intro m d hd
                by_cases hm : m = o
                · subst hm
                  obtain ⟨u, hu, hr⟩ := e4 m _ hcell
                  refine ⟨u, hu, ?_⟩
                  have hd' : d = .os s.heap.length genK 0 0 1 none := by
                    simp only [splice] at hd
                    rw [List.append_assoc, List.getElem?_append_right (by rw [List.length_take]; omega), List.length_take, Nat.min_eq_left (by omega), Nat.sub_self] at hd
                    simp at hd
                    exact hd.symm
                  rw [hd']
                  refine hnil u ?_
                  simpa [RelC, RelD] using hr
                · have hd' : cs[m]? = some d := by
                    simp only [splice, List.length_cons, List.length_nil, Nat.zero_add] at hd
                    rcases Nat.lt_or_ge m o with hlt | hge
                    · rw [List.append_assoc, List.getElem?_append_left (by rw [List.length_take]; omega), List.getElem?_take, if_pos hlt] at hd
                      exact hd
                    · rw [List.getElem?_append_right (by simp only [List.length_append, List.length_take, List.length_cons, List.length_nil]; omega), List.getElem?_drop] at hd
                      simp only [List.length_append, List.length_take, List.length_cons, List.length_nil] at hd
                      rw [show o + 1 + (m - (min o cs.length + (0 + 1))) = m by omega] at hd
                      exact hd
                  exact e4 m d hd'
            · exact ⟨o', by rw [ob?_setOb_ne e]; exact ho', obk _ _ _ (ob?_lt ho') hos⟩
          · intro id' o' ho' hl
            by_cases e : id' = id
            · subst e
              exact (h1.idle id' _ ho hl).elim (fun h => by cases h) .inr
            · rw [ob?_setOb_ne e] at ho'
              exact h1.idle id' o' ho' hl
        · exact ⟨M, h1, h2, h3, h4, h5⟩
      · exact ⟨M, h1, h2, h3, h4, h5⟩
    · exact ⟨M, h1, h2, h3, h4, h5⟩
  · exact ⟨M, h1, h2, h3, h4, h5⟩
end
end Mini
end Go.Proofs.YtmcgaakbkgdljaaGreatDoor
