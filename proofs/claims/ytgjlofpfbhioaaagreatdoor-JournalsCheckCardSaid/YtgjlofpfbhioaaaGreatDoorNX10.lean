/-
  JournalsCheck: texts of the proof, part 11.
-/
import Derived.Test.YtgjlofpfbhioaaaGreatDoorNX09
namespace Go.Proofs.YtgjlofpfbhioaaaGreatDoor
namespace Mini
open Go
def exitOf : Ex → Exit
  | .nrm => .normal
  | .exit i => .exit i
  | .ret => .ret
def markOf (r : Nat) : Deferred := { target := .collected r, args := #[] }
def Marks (M : MM) (w0 w : World) (ds : List Deferred) : Prop :=
  ∃ rs : List Nat, ds = rs.map markOf ∧ rs.Nodup ∧ ∀ r ∈ rs, w0.heap.size ≤ r ∧ w.heap[r]? = some (.deferred (some [])) ∧ ¬ M.Owns r ∧ M.imm r = none
theorem Marks.nil (M : MM) (w0 w : World) : Marks M w0 w [] := ⟨[], rfl, List.nodup_nil, fun _ h => by cases h⟩
theorem Marks.keep {M M' : MM} {w0 w w' : World} {ds : List Deferred} (h : Marks M w0 w ds) (hf : Fr M M' w w') : Marks M' w0 w' ds := by
  obtain ⟨rs, h1, h2, h3⟩ := h
  refine ⟨rs, h1, h2, fun r hr => ?_⟩
  obtain ⟨k1, k2, k3, k4⟩ := h3 r hr
  have hlt := (Array.getElem?_eq_some_iff.1 k2).1
  refine ⟨k1, by rw [hf.keep r hlt k3]; exact k2, fun ho => (hf.own r ho).elim k3 (fun h => by omega), ?_⟩
  cases hi : M'.imm r with
  | none => rfl
  | some o =>
    rcases hf.imm r o hi with h | h | h
    · rw [k4] at h; cases h
    · exact absurd h k3
    · omega
theorem Marks.same {M M' : MM} {w0 w : World} {ds : List Deferred} (h : Marks M w0 w ds) (ho : ∀ B, M'.Owns B → M.Owns B) (hi : M'.imm = M.imm) : Marks M' w0 w ds := by
  obtain ⟨rs, h1, h2, h3⟩ := h
  refine ⟨rs, h1, h2, fun r hr => ?_⟩
  obtain ⟨k1, k2, k3, k4⟩ := h3 r hr
  exact ⟨k1, k2, fun h => k3 (ho r h), by rw [hi]; exact k4⟩
theorem marks_mem {M M' : MM} {w0 w w' : World} {r : Nat} (hf : Fr M M' w w') (h : w0.heap.size ≤ r ∧ w.heap[r]? = some (.deferred (some [])) ∧ ¬ M.Owns r ∧ M.imm r = none) : w0.heap.size ≤ r ∧ w'.heap[r]? = some (.deferred (some [])) ∧ ¬ M'.Owns r ∧ M'.imm r = none := by
  have h1 : Marks M w0 w ([r].map markOf) := ⟨[r], rfl, by simp, fun r' hr => by rw [List.mem_singleton] at hr; subst hr; exact h⟩
  obtain ⟨rs, k1, _, k3⟩ := h1.keep hf
  have : rs = [r] := by
    match rs, k1 with
    | [r'], k1 => simp [markOf] at k1; rw [k1]
  subst this
  exact k3 r (by simp)
theorem obSat_move {P : Program} {M M' : MM} {w w' : World} {base : Nat} {id : Nat} {o : Ob} {B b c : Nat} (he : Ext M M') (hg : M'.gen id = M.gen id) (hb : w'.heap[B]? = w.heap[B]?) (hi : M.imm B = none → M'.imm B = none)
    (h : ObSat P M w base id o (some (B, b, c))) : ObSat P M' w' base id o (some (B, b, c)) := by
  cases o with
  | dead => simp [ObSat] at h
  | bld s => simp [ObSat] at h
  | map es =>
    simp only [ObSat] at h ⊢
    obtain ⟨hgen, xs, cl, h3, h4, h5, h6⟩ := h
    exact ⟨by rw [hg]; exact hgen, xs, cl, by rw [hb]; exact h3, h4, hi h5, RelM.mono he h6⟩
  | cells cs g fz =>
    simp only [ObSat] at h ⊢
    obtain ⟨hgen, arr, T, fr, h3, h4, h5, h6, h7⟩ := h
    refine ⟨by rw [hg]; exact hgen, arr, T, fr, by rw [hb]; exact h3, h4, h5, RelCs.mono he h6, ?_⟩
    rcases h7 with ⟨h7, h8, h9⟩ | ⟨h7, h8⟩
    · exact .inl ⟨h7, hi h8, h9⟩
    · exact .inr ⟨h7, he.imm _ _ h8⟩
  | loop ready pend regs ps asg body =>
    simp only [ObSat] at h ⊢
    obtain ⟨hgen, L, h3, h4, h5, h8, tm, nt, h9, h10, h11, h12, h13⟩ := h
    exact ⟨by rw [hg]; exact hgen, L, by rw [hb]; exact h3, h4, hi h5, h8, tm, nt, h9, h10, h11, fun j t ht => RelV.mono he (h12 j t ht), h13⟩
def StRel (P : Program) (tm : List Nat) (nt : Nat) (M0 : MM) (w0 : World) (s : St) (a : Act) (w : World) : Prop :=
  ∃ M, Sat P M s.heap 0 w ∧ Fr M0 M w0 w ∧ RelRegs M tm s.regs a.tmps ∧ a.tmps.size = nt ∧ Marks M w0 w a.defers
section
variable {P : Program} {tm : List Nat} {nt : Nat} {M0 M : MM} {w0 w : World} {s : St} {a : Act} {E : Env}
theorem nth_keepOnly (js : List Nat) : ∀ (regs : List V) (j0 j : Nat), nth (keepOnly js j0 regs) j = if js.contains (j0 + j) then nth regs j else .any
  | [], j0, j => by simp [keepOnly, nth]
  | x :: xs, j0, 0 => by simp [keepOnly, nth]
  | x :: xs, j0, j + 1 => by
    simp only [keepOnly, nth, nth_keepOnly js xs (j0 + 1) j]
    rw [show j0 + 1 + j = j0 + (j + 1) by omega]
theorem StRel.keep (h : StRel P tm nt M0 w0 s a w) (js : List Nat) : StRel P tm nt M0 w0 ⟨keepOnly js 0 s.regs, s.heap⟩ a w := by
  obtain ⟨M, h1, h2, h3, h4⟩ := h
  refine ⟨M, h1, h2, fun j t hj => ?_, h4⟩
  rw [nth_keepOnly]
  split
  · exact h3 j t hj
  · exact relV_any
def MM.cut (M : MM) (n : Nat) : MM := ⟨M.imm, fun id => if id < n then M.loc id else none, fun id => if id < n then M.gen id else 0, n, M.ty⟩
mutual
theorem RelC.cut {n : Nat} : ∀ {c : C} {v : Value}, RelC M c v → c.under n = true → RelC (M.cut n) c v
  | .d _, _, r, _ => by simp only [RelC] at r ⊢; exact r
  | .ptr id g off, v, r, h => by
    simp only [C.under, decide_eq_true_eq] at h
    simp only [RelC, MM.cut] at r ⊢
    rw [if_pos h, if_pos h]
    exact ⟨h, r.2⟩
  | .os id g off len sz cap, v, r, h => by
    simp only [C.under, decide_eq_true_eq] at h
    simp only [RelC, MM.cut] at r ⊢
    rw [if_pos h, if_pos h]
    exact ⟨h, r.2⟩
  | .fn f a b, v, r, h => by
    simp only [C.under, Bool.and_eq_true] at h
    simp only [RelC] at r ⊢
    obtain ⟨x, y, h1, h2, h3, h4, h5⟩ := r
    exact ⟨x, y, h1, RelCs.cut h2 h.1, h3, RelCs.cut h4 h.2, h5⟩
  | .yld id, _, r, h => by
    simp only [C.under, decide_eq_true_eq] at h
    simp only [RelC, MM.cut] at r ⊢
    rw [if_pos h, if_pos h]
    exact ⟨h, r.2⟩
  | .bt id t, _, r, h => by
    simp only [C.under, decide_eq_true_eq] at h
    simp only [RelC, MM.cut] at r ⊢
    rw [if_pos h, if_pos h]
    exact ⟨h, r.2⟩
  | .mp id, _, r, h => by
    simp only [C.under, decide_eq_true_eq] at h
    simp only [RelC, MM.cut] at r ⊢
    rw [if_pos h, if_pos h]
    exact ⟨h, r.2⟩
theorem RelCs.cut {n : Nat} : ∀ {cs : List C} {vs : List Value}, RelCs M cs vs → undersC n cs = true → RelCs (M.cut n) cs vs
  | [], _, _, _ => RelCs.nil _ _
  | _ :: _, [], r, _ => by simp only [RelCs] at r
  | c :: cs, v :: vs, r, h => by
    simp only [undersC, Bool.and_eq_true] at h
    simp only [RelCs] at r ⊢
    exact ⟨RelC.cut r.1 h.1, RelCs.cut r.2 h.2⟩
end
theorem RelV.cut {n : Nat} {x : V} {v : Value} (r : RelV M x v) (h : x.under n = true) : RelV (M.cut n) x v := by
  cases x with
  | c x => rw [relV_c] at r ⊢; exact RelC.cut r h
  | agg cs =>
    rw [relV_agg] at r ⊢
    obtain ⟨arr, h1, h2, h3⟩ := r
    exact ⟨arr, h1, h2, RelCs.cut h3 h⟩
  | tup vs =>
    simp only [V.under, List.isEmpty_iff] at h
    subst h
    rw [relV_tup] at r ⊢
    obtain ⟨arr, h1, h2, h3⟩ := r
    exact ⟨arr, h1, h2, RelVs.nil _ _⟩
  | any => exact relV_any
theorem RelM.cut {n : Nat} : ∀ {es : List (V × V)} {xs : List MapEntry}, RelM M es xs → (es.all fun e => e.1.under n && e.2.under n) = true → RelM (M.cut n) es xs
  | [], [], _, _ => by simp only [RelM]
  | [], _ :: _, r, _ => by simp only [RelM] at r
  | _ :: _, [], r, _ => by simp only [RelM] at r
  | _ :: _, _ :: _, r, h => by
    simp only [List.all_cons, Bool.and_eq_true] at h
    simp only [RelM] at r ⊢
    exact ⟨RelV.cut r.1 h.1.1, RelV.cut r.2.1 h.1.2, r.2.2.1, RelM.cut r.2.2.2 h.2⟩
theorem nth_mem : ∀ (regs : List V) (j : Nat), nth regs j = .any ∨ nth regs j ∈ regs
  | [], _ => .inl rfl
  | x :: xs, 0 => .inr (by simp [nth])
  | x :: xs, j + 1 => by
    rcases nth_mem xs j with h | h
    · exact .inl h
    · exact .inr (by simp [nth, h])
theorem StRel.gc (h : StRel P tm nt M0 w0 s a w) {hl : Nat} (hle : M0.n ≤ hl) : StRel P tm nt M0 w0 (gc hl s) a w := by
  unfold Mini.gc
  split
  · rename_i hc
    simp only [Bool.and_eq_true, List.all_eq_true] at hc
    obtain ⟨hc1, hc2⟩ := hc
    rcases Nat.lt_or_ge s.heap.length hl with hlt | hge
    · rw [List.take_of_length_le (by omega)]; exact h
    · obtain ⟨M, h1, h2, h3, h4, h5⟩ := h
      have hob : ∀ id, id < hl → ob? (s.heap.take hl) id = ob? s.heap id := fun id hid => by rw [ob?_eq, ob?_eq, List.getElem?_take, if_pos hid]
      refine ⟨M.cut hl, ⟨?_, ?_, h1.imm, ?_, ?_, ?_, h1.ty, fun id B b c hid hg => by
        simp only [MM.cut] at hid hg
        split at hid
        · rename_i e; rw [if_pos e] at hg; exact h1.bty id B b c hid hg
        · cases hid⟩, ⟨⟨h2.ext.imm, hle, ?_, ?_, h2.ext.ty⟩, h2.os, h2.tape, h2.output, h2.size, h2.keep, ?_, h2.imm⟩, ?_, h4, ?_⟩
      · simp only [MM.cut, List.length_take]; omega
      · intro id hid
        simp only [MM.cut] at hid ⊢
        rw [if_neg (by omega), if_neg (by omega)]
        exact ⟨rfl, rfl⟩
      · intro id l hid
        simp only [MM.cut] at hid
        split at hid
        · rename_i hlt
          obtain ⟨o, ho, hos⟩ := h1.obj id l hid
          refine ⟨o, by rw [hob id hlt]; exact ho, ?_⟩
          have hund : o.under hl = true := hc2 o (by
            rw [ob?_eq] at ho
            exact List.mem_of_getElem? (by rw [List.getElem?_take, if_pos hlt]; exact ho))
          have hg : (M.cut hl).gen id = M.gen id := by simp only [MM.cut]; rw [if_pos hlt]
          cases o with
          | cells cs g fz =>
            cases l with
            | none => simp only [ObSat] at hos ⊢; rw [hg]; exact hos
            | some l =>
              obtain ⟨B, b0, bs⟩ := l
              simp only [ObSat] at hos ⊢
              obtain ⟨e0, arr, T, fr, e1, e2, e3, e4, e5⟩ := hos
              exact ⟨by rw [hg]; exact e0, arr, T, fr, e1, e2, e3, RelCs.cut e4 hund, e5⟩
          | loop ready pend regs ps asg body =>
            cases l with
            | none => simp [ObSat] at hos
            | some l =>
              obtain ⟨B, b0, bs⟩ := l
              simp only [ObSat] at hos ⊢
              obtain ⟨e0, L, e1, e2, e3, e6, tm', nt', e7, e8, e9, e10, e11⟩ := hos
              refine ⟨by rw [hg]; exact e0, L, e1, e2, e3, e6, tm', nt', e7, e8, e9, fun j t hj => ?_, e11⟩
              refine RelV.cut (e10 j t hj) ?_
              rcases nth_mem regs j with e | e
              · rw [e]; rfl
              · simp only [Ob.under, List.all_eq_true] at hund; exact hund _ e
          | bld _ => cases l <;> simp [ObSat] at hos
          | dead => cases l <;> simp [ObSat] at hos
          | map es =>
            cases l with
            | none => simp [ObSat] at hos
            | some l =>
              obtain ⟨B, b0, bs⟩ := l
              simp only [ObSat] at hos ⊢
              obtain ⟨e0, xs, cl, e1, e2, e3, e4⟩ := hos
              refine ⟨by rw [hg]; exact e0, xs, cl, e1, e2, e3, RelM.cut e4 ?_⟩
              simp only [Ob.under] at hund
              exact hund
        · cases hid
      · intro id o ho hl'
        rcases Nat.lt_or_ge id hl with hlt | hge2
        · rw [hob id hlt] at ho
          simp only [MM.cut] at hl' ⊢
          rw [if_pos hlt] at hl' ⊢
          exact h1.idle id o ho hl'
        · simp only [MM.cut]
          rw [if_neg (by omega)]
          exact .inr rfl
      · intro id id' B b c b' c' e1 e2
        simp only [MM.cut] at e1 e2
        split at e1 <;> try (cases e1; done)
        split at e2 <;> try (cases e2; done)
        exact h1.inj id id' B b c b' c' e1 e2
      · intro id hid
        simp only [MM.cut]
        rw [if_pos (by omega)]
        exact h2.ext.gen id hid
      · intro id l hid hg hl'
        simp only [MM.cut] at hg ⊢
        rw [if_pos (by omega)] at hg ⊢
        exact h2.ext.loc id l hid hg hl'
      · rintro B ⟨id, b, c, hid⟩
        simp only [MM.cut] at hid
        split at hid
        · exact h2.own B ⟨id, b, c, hid⟩
        · cases hid
      · intro j t hj
        refine RelV.cut (h3 j t hj) ?_
        rcases nth_mem s.regs j with e | e
        · rw [e]; rfl
        · exact hc1 _ e
      · refine h5.same ?_ rfl
        rintro B ⟨id, b, c, hid⟩
        simp only [MM.cut] at hid
        split at hid
        · exact ⟨id, b, c, hid⟩
        · cases hid
  · exact h
theorem StRel.tidy (h : StRel P tm nt M0 w0 s a w) {hl : Nat} (hle : M0.n ≤ hl) (js : Option (List Nat)) : StRel P tm nt M0 w0 (tidy hl js s) a w := by
  cases js with
  | none => exact h
  | some js => exact (h.keep js).gc hle
def MM.nil (M : MM) (id : Nat) : MM := { M with loc := fun j => if j = id then some none else M.loc j, n := id + 1 }
theorem StRel.fresh (h : StRel P tm nt M0 w0 s a w) (j : Nat) (off : Option Nat) (sz : Nat) : StRel P tm nt M0 w0 (freshen j off sz s) a w := by
  obtain ⟨M, h1, h2, h3, h4, h5⟩ := h
  have hn := h1.n
  have h5' : Marks (M.nil s.heap.length) w0 w a.defers := by
    refine h5.same ?_ rfl
    rintro B ⟨id, b, c, hid⟩
    simp only [MM.nil] at hid
    split at hid
    · cases hid
    · exact ⟨id, b, c, hid⟩
  have hext : Ext M (M.nil s.heap.length) := ⟨fun _ _ h => h, by simp only [MM.nil]; omega, fun _ _ => Nat.le_refl _, fun id l hid _ hl => by simp only [MM.nil]; rw [if_neg (by omega)]; exact hl, fun _ _ h => h⟩
  have hout := h1.out s.heap.length (by omega)
  have hnil : ∀ v, v = Value.slice none 0 0 → RelC (M.nil s.heap.length) (.os s.heap.length 0 0 0 sz none) v := by
    rintro v rfl
    simp only [RelC, MM.nil]
    exact ⟨by omega, Nat.zero_le _, none, 0, rfl, Nat.le_refl _, .inl rfl, (fun k hk => by cases hk), fun _ => by simp [OsAt]⟩
  have sat : ∀ H : Heap, H.length = s.heap.length → (∀ id o, ob? s.heap id = some o → ∀ l, ObSat P M w 0 id o l → ∃ o', ob? H id = some o' ∧ ObSat P (M.nil s.heap.length) w 0 id o' l) →
      (∀ id o, ob? H id = some o → M.loc id = none → o = .dead ∨ M.gen id = 0) → Sat P (M.nil s.heap.length) (H ++ [.cells [] 0 false]) 0 w := by
    intro H hlen hobs hidle
    have hob : ∀ id, id < H.length → ob? (H ++ [.cells [] 0 false]) id = ob? H id := fun id hid => by rw [ob?_eq, ob?_eq, List.getElem?_append_left hid]
    refine ⟨by simp only [MM.nil, List.length_append, List.length_cons, List.length_nil]; omega, ?_, h1.imm, ?_, ?_, ?_, h1.ty, fun id B b c hid hg => by
      simp only [MM.nil] at hid hg
      split at hid
      · cases hid
      · exact h1.bty id B b c hid hg⟩
    · intro id hid
      simp only [MM.nil] at hid ⊢
      rw [if_neg (by omega)]
      exact h1.out id (by omega)
    · intro id l hl
      simp only [MM.nil] at hl
      split at hl
      · rename_i e
        subst e
        simp only [Option.some.injEq] at hl
        subst hl
        refine ⟨.cells [] 0 false, by rw [ob?_eq, ← hlen, List.getElem?_append_right (Nat.le_refl _), Nat.sub_self]; rfl, ?_⟩
        simp only [ObSat]
        exact ⟨trivial, hout.2⟩
      · obtain ⟨o, ho, hos⟩ := h1.obj id l hl
        obtain ⟨o', ho', hos'⟩ := hobs id o ho l hos
        exact ⟨o', by rw [hob id (ob?_lt ho')]; exact ho', hos'⟩
    · intro id o ho hl
      simp only [MM.nil] at hl ⊢
      split at hl
      · cases hl
      · rename_i hne
        rcases Nat.lt_or_ge id H.length with hlt | hge
        · rw [hob id hlt] at ho
          exact hidle id o ho hl
        · exact .inr (h1.out id (by omega)).2
    · intro id id' B b c b' c' e1 e2
      simp only [MM.nil] at e1 e2
      split at e1 <;> try (cases e1; done)
      split at e2 <;> try (cases e2; done)
      exact h1.inj id id' B b c b' c' e1 e2
  have fr : Fr M0 (M.nil s.heap.length) w0 w := by
    refine ⟨h2.ext.trans hext, h2.os, h2.tape, h2.output, h2.size, h2.keep, ?_, h2.imm⟩
    rintro B ⟨id, b, c, hid⟩
    simp only [MM.nil] at hid
    split at hid
    · cases hid
    · exact h2.own B ⟨id, b, c, hid⟩
  have obk : ∀ id o l, ObSat P M w 0 id o l → ObSat P (M.nil s.heap.length) w 0 id o l := fun id o l ho => ho.keep hext rfl (fun B b c _ => ⟨rfl, fun h => h⟩) (fun B hB => hB)
  unfold freshen
  split
  · split
    · rename_i hj
      refine ⟨M.nil s.heap.length, sat s.heap rfl (fun id o ho l hos => ⟨o, ho, obk id o l hos⟩) (fun id o ho hl => h1.idle id o ho hl), fr, fun j' t hj' => ?_, h4, h5'⟩
      simp only [nth_put]
      split
      · rename_i e
        subst e
        split
        · have := h3 j' t hj'
          rw [hj, relV_nils] at this
          rw [relV_c]
          exact hnil _ this
        · exact relV_any
      · exact RelV.mono hext (h3 j' t hj')
    · exact ⟨M, h1, h2, h3, h4, h5⟩
  · rename_i o
    split
    · rename_i id gen hj
      split
      · rename_i cs g ho
        split
        · rename_i hcell
          split
          · rename_i hg
            have hlen : o < cs.length := (List.getElem?_eq_some_iff.1 hcell).1
            have hsl : (splice cs o [.os s.heap.length 0 0 0 sz none]).length = cs.length := splice_length (by simp only [List.length_cons, List.length_nil]; omega)
            refine ⟨M.nil s.heap.length, sat (setOb s.heap id (.cells (splice cs o [.os s.heap.length 0 0 0 sz none]) g false)) (setOb_length _ _ _) ?_ ?_, fr, fun j' t hj' => RelV.mono hext (h3 j' t hj'), h4, h5'⟩
            · intro id' o' ho' l hos
              by_cases e : id' = id
              · subst e
                rw [ho] at ho'
                cases ho'
                refine ⟨_, ob?_setOb_same ho, ?_⟩
                cases l with
                | none =>
                  simp only [ObSat] at hos
                  rw [hos.1] at hlen
                  simp at hlen
                | some l =>
                  obtain ⟨B, b0, bs⟩ := l
                  have hos' := obk _ _ _ hos
                  simp only [ObSat] at hos' ⊢
                  obtain ⟨e0, arr, T, fr', e1, e2, e3, e4, e5⟩ := hos'
                  refine ⟨e0, arr, T, fr', e1, e2, by rw [hsl]; exact e3, ?_, e5⟩
                  rw [RelCs.iff] at e4 ⊢
                  intro m d hd
                  by_cases hm : m = o
                  · subst hm
                    obtain ⟨u, hu, hr⟩ := e4 m _ hcell
                    refine ⟨u, hu, ?_⟩
                    have hd' : d = .os s.heap.length 0 0 0 sz none := by
                      simp only [splice] at hd
                      rw [List.append_assoc, List.getElem?_append_right (by rw [List.length_take]; omega), List.length_take, Nat.min_eq_left (by omega), Nat.sub_self] at hd
                      simp at hd
                      exact hd.symm
                    rw [hd']
                    refine hnil u ?_
                    simpa [RelC, RelD] using hr
                  · have hd' : cs[m]? = some d := by
                      simp only [splice, List.length_cons, List.length_nil, Nat.zero_add] at hd
                      rcases Nat.lt_or_ge m o with hlt | hge
                      · rw [List.append_assoc, List.getElem?_append_left (by rw [List.length_take]; omega), List.getElem?_take, if_pos hlt] at hd
                        exact hd
                      · rw [List.getElem?_append_right (by simp only [List.length_append, List.length_take, List.length_cons, List.length_nil]; omega), List.getElem?_drop] at hd
                        simp only [List.length_append, List.length_take, List.length_cons, List.length_nil] at hd
                        rw [show o + 1 + (m - (min o cs.length + (0 + 1))) = m by omega] at hd
                        exact hd
                    exact e4 m d hd'
              · exact ⟨o', by rw [ob?_setOb_ne e]; exact ho', obk _ _ _ hos⟩
            · intro id' o' ho' hl
              by_cases e : id' = id
              · subst e
                exact (h1.idle id' _ ho hl).elim (fun h => by cases h) .inr
              · rw [ob?_setOb_ne e] at ho'
                exact h1.idle id' o' ho' hl
          · exact ⟨M, h1, h2, h3, h4, h5⟩
        · exact ⟨M, h1, h2, h3, h4, h5⟩
      · exact ⟨M, h1, h2, h3, h4, h5⟩
    · exact ⟨M, h1, h2, h3, h4, h5⟩
def MM.nilB (M : MM) (id : Nat) : MM := { M with loc := fun j => if j = id then some none else M.loc j, gen := fun j => if j = id then genK else M.gen j, n := id + 1 }
theorem StRel.freshB (h : StRel P tm nt M0 w0 s a w) (j o : Nat) : StRel P tm nt M0 w0 (freshenB j o s) a w := by
  obtain ⟨M, h1, h2, h3, h4, h5⟩ := h
  have hn := h1.n
  have h5' : Marks (M.nilB s.heap.length) w0 w a.defers := by
    refine h5.same ?_ rfl
    rintro B ⟨id, b, c, hid⟩
    simp only [MM.nilB] at hid
    split at hid
    · cases hid
    · exact ⟨id, b, c, hid⟩
  have hext : Ext M (M.nilB s.heap.length) := ⟨fun _ _ h => h, by simp only [MM.nilB]; omega, fun id hid => by simp only [MM.nilB]; rw [if_neg (by omega)]; exact Nat.le_refl _, fun id l hid _ hl => by simp only [MM.nilB]; rw [if_neg (by omega)]; exact hl, fun _ _ h => h⟩
  have hout := h1.out s.heap.length (by omega)
  have hnil : ∀ v, v = Value.slice none 0 0 → RelC (M.nilB s.heap.length) (.os s.heap.length genK 0 0 1 none) v := by
    rintro v rfl
    simp only [RelC, MM.nilB]
    exact ⟨by omega, by rw [if_pos trivial]; exact Nat.le_refl _, none, 0, rfl, Nat.le_refl _, .inl rfl, (fun k hk => by cases hk), fun _ => by simp [OsAt]⟩
  have sat : ∀ H : Heap, H.length = s.heap.length → (∀ id o, ob? s.heap id = some o → ∀ l, ObSat P M w 0 id o l → ∃ o', ob? H id = some o' ∧ ObSat P (M.nilB s.heap.length) w 0 id o' l) →
      (∀ id o, ob? H id = some o → M.loc id = none → o = .dead ∨ M.gen id = 0) → Sat P (M.nilB s.heap.length) (H ++ [.cells [] genK false]) 0 w := by
    intro H hlen hobs hidle
    have hob : ∀ id, id < H.length → ob? (H ++ [.cells [] genK false]) id = ob? H id := fun id hid => by rw [ob?_eq, ob?_eq, List.getElem?_append_left hid]
    refine ⟨by simp only [MM.nilB, List.length_append, List.length_cons, List.length_nil]; omega, ?_, h1.imm, ?_, ?_, ?_, h1.ty, fun id B b c hid hg => by
      simp only [MM.nilB] at hid hg
      split at hid
      · cases hid
      · rename_i e; rw [if_neg e] at hg; exact h1.bty id B b c hid hg⟩
    · intro id hid
      simp only [MM.nilB] at hid ⊢
      rw [if_neg (by omega), if_neg (by omega)]
      exact h1.out id (by omega)
    · intro id l hl
      simp only [MM.nilB] at hl
      split at hl
      · rename_i e
        subst e
        simp only [Option.some.injEq] at hl
        subst hl
        refine ⟨.cells [] genK false, by rw [ob?_eq, ← hlen, List.getElem?_append_right (Nat.le_refl _), Nat.sub_self]; rfl, ?_⟩
        simp only [ObSat]
        exact ⟨trivial, by simp [MM.nilB]⟩
      · obtain ⟨o, ho, hos⟩ := h1.obj id l hl
        obtain ⟨o', ho', hos'⟩ := hobs id o ho l hos
        exact ⟨o', by rw [hob id (ob?_lt ho')]; exact ho', hos'⟩
    · intro id o ho hl
      simp only [MM.nilB] at hl ⊢
      split at hl
      · cases hl
      · rename_i hne
        rw [if_neg hne]
        rcases Nat.lt_or_ge id H.length with hlt | hge
        · rw [hob id hlt] at ho
          exact hidle id o ho hl
        · exact .inr (h1.out id (by omega)).2
    · intro id id' B b c b' c' e1 e2
      simp only [MM.nilB] at e1 e2
      split at e1 <;> try (cases e1; done)
      split at e2 <;> try (cases e2; done)
      exact h1.inj id id' B b c b' c' e1 e2
  have fr : Fr M0 (M.nilB s.heap.length) w0 w := by
    refine ⟨h2.ext.trans hext, h2.os, h2.tape, h2.output, h2.size, h2.keep, ?_, h2.imm⟩
    rintro B ⟨id, b, c, hid⟩
    simp only [MM.nilB] at hid
    split at hid
    · cases hid
    · exact h2.own B ⟨id, b, c, hid⟩
  have obk : ∀ id o l, id < s.heap.length → ObSat P M w 0 id o l → ObSat P (M.nilB s.heap.length) w 0 id o l := fun id o l hid ho => ho.keep hext (by simp only [MM.nilB]; rw [if_neg (by omega)]) (fun B b c _ => ⟨rfl, fun h => h⟩) (fun B hB => hB)
  unfold freshenB
  split
  · rename_i id gen hj
    split
    · rename_i cs g ho
      split
      · rename_i hcell
        split
        · rename_i hg
          have hlen : o < cs.length := (List.getElem?_eq_some_iff.1 hcell).1
          have hsl : (splice cs o [.os s.heap.length genK 0 0 1 none]).length = cs.length := splice_length (by simp only [List.length_cons, List.length_nil]; omega)
          refine ⟨M.nilB s.heap.length, sat (setOb s.heap id (.cells (splice cs o [.os s.heap.length genK 0 0 1 none]) g false)) (setOb_length _ _ _) ?_ ?_, fr, fun j' t hj' => RelV.mono hext (h3 j' t hj'), h4, h5'⟩
          · intro id' o' ho' l hos
            by_cases e : id' = id
            · subst e
              rw [ho] at ho'
              cases ho'
              refine ⟨_, ob?_setOb_same ho, ?_⟩
              cases l with
              | none =>
                simp only [ObSat] at hos
                rw [hos.1] at hlen
                simp at hlen
              | some l =>
                obtain ⟨B, b0, bs⟩ := l
                have hos' := obk _ _ _ (ob?_lt ho) hos
                simp only [ObSat] at hos' ⊢
                obtain ⟨e0, arr, T, fr', e1, e2, e3, e4, e5⟩ := hos'
                refine ⟨e0, arr, T, fr', e1, e2, by rw [hsl]; exact e3, ?_, e5⟩
                rw [RelCs.iff] at e4 ⊢
                intro m d hd
                by_cases hm : m = o
                · subst hm
                  obtain ⟨u, hu, hr⟩ := e4 m _ hcell
                  refine ⟨u, hu, ?_⟩
                  have hd' : d = .os s.heap.length genK 0 0 1 none := by
                    simp only [splice] at hd
                    rw [List.append_assoc, List.getElem?_append_right (by rw [List.length_take]; omega), List.length_take, Nat.min_eq_left (by omega), Nat.sub_self] at hd
                    simp at hd
                    exact hd.symm
                  rw [hd']
                  refine hnil u ?_
                  simpa [RelC, RelD] using hr
                · have hd' : cs[m]? = some d := by
                    simp only [splice, List.length_cons, List.length_nil, Nat.zero_add] at hd
                    rcases Nat.lt_or_ge m o with hlt | hge
                    · rw [List.append_assoc, List.getElem?_append_left (by rw [List.length_take]; omega), List.getElem?_take, if_pos hlt] at hd
                      exact hd
                    · rw [List.getElem?_append_right (by simp only [List.length_append, List.length_take, List.length_cons, List.length_nil]; omega), List.getElem?_drop] at hd
                      simp only [List.length_append, List.length_take, List.length_cons, List.length_nil] at hd
                      rw [show o + 1 + (m - (min o cs.length + (0 + 1))) = m by omega] at hd
                      exact hd
                  exact e4 m d hd'
            · exact ⟨o', by rw [ob?_setOb_ne e]; exact ho', obk _ _ _ (ob?_lt ho') hos⟩
          · intro id' o' ho' hl
            by_cases e : id' = id
            · subst e
              exact (h1.idle id' _ ho hl).elim (fun h => by cases h) .inr
            · rw [ob?_setOb_ne e] at ho'
              exact h1.idle id' o' ho' hl
        · exact ⟨M, h1, h2, h3, h4, h5⟩
      · exact ⟨M, h1, h2, h3, h4, h5⟩
    · exact ⟨M, h1, h2, h3, h4, h5⟩
  · exact ⟨M, h1, h2, h3, h4, h5⟩
end
end Mini
end Go.Proofs.YtgjlofpfbhioaaaGreatDoor
namespace Go.Proofs.YtgjlofpfbhioaaaGreatDoor
namespace Mini
open Go
section
variable {P : Program} {tm : List Nat} {nt : Nat} {M0 : MM} {w0 : World} {E : Env}
theorem operand0 {M : MM} {regs : List V} {a : Act} (hG : GlobOk E.glob M.imm) (hr : RelRegs M tm regs a.tmps) {x : Operand} {b : A} (hok : okA ⟨0, tm, [], [], fun _ => true⟩ x b = true) : RelV M (look E regs [] b) (a.eval x) := by
  unfold okA at hok
  split at hok <;> try (cases hok; done)
  · rename_i t j
    simp only [Bool.and_eq_true, beq_iff_eq] at hok
    simp only [look, Act.eval]
    exact hr j t hok.1
  · simp only [look, Act.eval]; exact okV_rel hok
  · rename_i g b'
    simp only [beq_iff_eq] at hok
    subst hok
    simp only [look, Act.eval]
    split
    · rename_i cs hg
      rw [relV_d]
      exact (hG _ _ hg).1
    · exact relV_any
  · rename_i f f'
    simp only [beq_iff_eq] at hok
    subst hok
    simp only [look, Act.eval]
    rw [relV_d]
    simp only [RelD]
    exact ⟨#[], #[], rfl, RelDs.nil _ _, rfl, RelDs.nil _ _, rfl⟩
def Holds (P : Program) (tm : List Nat) (nt : Nat) (E : Env) (fuel : Nat) (i : I) : Prop :=
  ∀ (rd : Option Nat) (M0 : MM) (w0 : World) (c : Code) (s s' : St) (e : Ex) (a : Act) (w : World) (Q : Exit → Act → World → Prop), exec E fuel rd.isSome i s = some (e, s') → okI P tm nt i c = true → GlobOk E.glob M0.imm → StRel P tm nt M0 w0 s a w →
    (∀ a' w', StRel P tm nt M0 w0 s' a' w' → Q (exitOf e) a' w') → c.wpIn (rnd rd) 0 P Q a w
theorem least {p : Nat → Prop} (h : ∃ n, p n) : ∃ n, p n ∧ ∀ m, p m → n ≤ m := by
  obtain ⟨n, hn⟩ := h
  induction n using Nat.strongRecOn with
  | _ n ih =>
    by_cases hx : ∃ m, m < n ∧ p m
    · obtain ⟨m, h1, h2⟩ := hx
      exact ih m h1 h2
    · exact ⟨n, hn, fun m hm => Nat.le_of_not_lt fun hlt => hx ⟨m, hlt, hm⟩⟩
open Classical in
noncomputable def leastOf (p : Nat → Prop) : Nat := if h : ∃ n, p n then Classical.choose (least h) else 0
theorem leastOf_spec {p : Nat → Prop} (h : ∃ n, p n) : p (leastOf p) ∧ ∀ m, p m → leastOf p ≤ m := by
  unfold leastOf
  rw [dif_pos h]
  exact Classical.choose_spec (least h)
theorem exec_loop {fuel : Nat} {js : Option (List Nat)} {i : I} (ih : Holds P tm nt E fuel i) : Holds P tm nt E fuel (.loop js i) := by
  intro rd M0 w0 c s s' e a w Q h hok hG hs hQ
  cases c <;> simp only [okI] at hok <;> try (cases hok; done)
  rename_i c
  simp only [exec] at h
  have hle : M0.n ≤ s.heap.length := by
    obtain ⟨M, h1, h2, _⟩ := hs
    rw [← h1.n]
    exact h2.ext.n
  let I : Nat → Act → World → Prop := fun n a w => ∃ s1, iter js s.heap.length (exec E fuel rd.isSome i) n s1 = some (e, s') ∧ StRel P tm nt M0 w0 s1 a w
  refine wpIn_loop (fun a w => ∃ n, I n a w) (fun a w => leastOf fun n => I n a w) ⟨fuel, _, h, hs.tidy hle js⟩ ?_
  intro a w hI
  obtain ⟨s1, h1, h2⟩ := (leastOf_spec hI).1
  generalize hn : (leastOf fun n => I n a w) = m at h1 ⊢
  cases m with
  | zero => simp [iter] at h1
  | succ n =>
    simp only [iter] at h1
    cases hb : exec E fuel rd.isSome i s1 with
    | none => rw [hb] at h1; simp at h1
    | some r =>
      obtain ⟨e1, s2⟩ := r
      rw [hb] at h1
      refine ih rd M0 w0 c s1 s2 e1 a w _ hb hok hG h2 fun a' w' h3 => ?_
      cases e1 with
      | nrm =>
        simp only at h1
        show (∃ n, I n a' w') ∧ (leastOf fun n => I n a' w') < n + 1
        have hI' : I n a' w' := ⟨_, h1, h3.tidy hle js⟩
        exact ⟨⟨n, hI'⟩, Nat.lt_succ_of_le ((leastOf_spec ⟨n, hI'⟩).2 n hI')⟩
      | exit id =>
        simp only [Option.some.injEq, Prod.mk.injEq] at h1
        obtain ⟨rfl, rfl⟩ := h1
        exact hQ a' w' h3
      | ret =>
        simp only [Option.some.injEq, Prod.mk.injEq] at h1
        obtain ⟨rfl, rfl⟩ := h1
        exact hQ a' w' h3
def MM.loop (M : MM) (id B Db : Nat) : MM := { M with loc := fun j => if j = id then some (some (B, Db, 0)) else M.loc j, n := id + 1 }
def MM.dead (M : MM) (id : Nat) : MM := { M with loc := fun j => if j = id then none else M.loc j, gen := fun j => if j = id then 1 else M.gen j }
def loopRec (fn : FuncId) (a : Act) (w : World) (params : Array Tmp) (ca cb : Code) : Loop := { state := .ready, pending := none, fn, tmps := a.tmps, params, assign := ca, body := cb, defers := w.heap.size }
def enterW (fn : FuncId) (a : Act) (w : World) (params : Array Tmp) (ca cb : Code) : World := (w.alloc (.deferred (some []))).alloc (.loop (loopRec fn a w params ca cb))
theorem enterW_size (fn : FuncId) (a : Act) (w : World) (params : Array Tmp) (ca cb : Code) : (enterW fn a w params ca cb).heap.size = w.heap.size + 2 := by
  simp [enterW]
theorem enterW_old (fn : FuncId) (a : Act) (w : World) (params : Array Tmp) (ca cb : Code) {B : Nat} (h : B < w.heap.size) : (enterW fn a w params ca cb).heap[B]? = w.heap[B]? := by
  show ((w.heap.push _).push _)[B]? = _
  rw [Array.getElem?_push, if_neg (by simp; omega), Array.getElem?_push, if_neg (Nat.ne_of_lt h)]
theorem enterW_mark (fn : FuncId) (a : Act) (w : World) (params : Array Tmp) (ca cb : Code) : (enterW fn a w params ca cb).heap[w.heap.size]? = some (.deferred (some [])) := by
  show ((w.heap.push _).push _)[w.heap.size]? = _
  rw [Array.getElem?_push, if_neg (by simp), Array.getElem?_push, if_pos rfl]
theorem enterW_loop (fn : FuncId) (a : Act) (w : World) (params : Array Tmp) (ca cb : Code) : (enterW fn a w params ca cb).heap[w.heap.size + 1]? = some (.loop (loopRec fn a w params ca cb)) := by
  show ((w.heap.push _).push _)[w.heap.size + 1]? = _
  rw [Array.getElem?_push, if_pos (by simp)]
theorem enter_sat {M : MM} {w : World} {H : Heap} {a : Act} {regs : List V} {ps : List Nat} {asg body : I} {params : Array Tmp} {ca cb : Code} (fn : FuncId) (hs : Sat P M H 0 w) (hr : RelRegs M tm regs a.tmps) (hsz : a.tmps.size = nt)
    (k2 : ps.map (fun j => tm[j]?) = params.toList.map some) (k3 : once tm = true) (k4 : tm.all (fun t => decide (t < nt)) = true) (k5 : okI P tm nt asg ca = true) (k6 : okI P tm nt body cb = true) :
    Sat P (M.loop H.length (w.heap.size + 1) w.heap.size) (H ++ [.loop true none regs ps asg body]) 0 (enterW fn a w params ca cb) ∧ Fr M (M.loop H.length (w.heap.size + 1) w.heap.size) w (enterW fn a w params ca cb) := by
  have hn := hs.n
  have hout := hs.out H.length (by omega)
  have hext : Ext M (M.loop H.length (w.heap.size + 1) w.heap.size) := ⟨fun _ _ h => h, by simp only [MM.loop]; omega, fun _ _ => Nat.le_refl _, fun id l hid _ hl => by simp only [MM.loop]; rw [if_neg (by omega)]; exact hl, fun _ _ h => h⟩
  have hkeep : ∀ B : Nat, B < w.heap.size → (enterW fn a w params ca cb).heap[B]? = w.heap[B]? := fun B hB => enterW_old fn a w params ca cb hB
  have hob : ∀ id, id < H.length → ob? (H ++ [.loop true none regs ps asg body]) id = ob? H id := fun id hid => by rw [ob?_eq, ob?_eq, List.getElem?_append_left hid]
  refine ⟨⟨by simp only [MM.loop, List.length_append, List.length_cons, List.length_nil], ?_, ?_, ?_, ?_, ?_, fun B t hb => by
      obtain ⟨a', f, hh⟩ := hs.ty B t hb
      exact ⟨a', f, by rw [hkeep B (Array.getElem?_eq_some_iff.1 hh).1]; exact hh⟩, fun id B b c hid hg => by
      simp only [MM.loop] at hid hg
      split at hid
      · rename_i e; rw [e, hout.2] at hg; exact absurd hg (by decide)
      · exact hs.bty id B b c hid hg⟩, ⟨hext, rfl, rfl, rfl, by rw [enterW_size]; omega, fun B hB _ => hkeep B hB, ?_, fun B o ho => .inl ho⟩⟩
  · intro id hid
    simp only [MM.loop] at hid ⊢
    rw [if_neg (by omega)]
    exact hs.out id (by omega)
  · intro B o hB
    have := hs.imm B o hB
    rw [hkeep B (Array.getElem?_eq_some_iff.1 this).1]
    exact this
  · intro id l hl
    simp only [MM.loop] at hl
    split at hl
    · rename_i e
      subst e
      simp only [Option.some.injEq] at hl
      subst hl
      refine ⟨.loop true none regs ps asg body, by rw [ob?_eq, List.getElem?_append_right (Nat.le_refl _), Nat.sub_self]; rfl, ?_⟩
      simp only [ObSat]
      exact ⟨hout.2, _, enterW_loop fn a w params ca cb, Nat.zero_le _, hs.imm_lt (by omega), ⟨rfl, rfl⟩, tm, nt, k5, k6, k2, fun j t hj => RelV.mono hext (hr j t hj), k3, hsz, k4⟩
    · obtain ⟨o, ho, hos⟩ := hs.obj id l hl
      refine ⟨o, by rw [hob id (ob?_lt ho)]; exact ho, hos.keep hext rfl (fun B b c e => ?_) (fun B hB => by rw [hkeep B (Array.getElem?_eq_some_iff.1 hB).1]; exact hB)⟩
      subst e
      exact ⟨hkeep B (hs.block_lt ⟨id, b, c, hl⟩), fun x => x⟩
  · intro id o ho hl
    simp only [MM.loop] at hl ⊢
    split at hl
    · cases hl
    · rename_i hne
      rcases Nat.lt_or_ge id H.length with hlt | hge
      · rw [hob id hlt] at ho
        exact hs.idle id o ho hl
      · exact .inr (hs.out id (by omega)).2
  · intro id id' B b c b' c' e1 e2
    simp only [MM.loop] at e1 e2
    split at e1
    · rename_i h1
      split at e2
      · rename_i h2; rw [h1, h2]
      · simp only [Option.some.injEq, Prod.mk.injEq] at e1
        have := hs.block_lt ⟨id', b', c', e2⟩
        omega
    · split at e2
      · simp only [Option.some.injEq, Prod.mk.injEq] at e2
        have := hs.block_lt ⟨id, b, c, e1⟩
        omega
      · exact hs.inj id id' B b c b' c' e1 e2
  · rintro B ⟨id, b, c, hid⟩
    simp only [MM.loop] at hid
    split at hid
    · simp only [Option.some.injEq, Prod.mk.injEq] at hid
      exact .inr (by omega)
    · exact .inl ⟨id, b, c, hid⟩
theorem dead_sat {M : MM} {w : World} {H : Heap} {id B b c : Nat} {o : Obj} {q : Ob} (hs : Sat P M H 0 w) (hl : M.loc id = some (some (B, b, c))) (hi : M.imm B = none) (hg : M.gen id = 0) (ho : ob? H id = some q) (hL : ∃ L, w.heap[B]? = some (.loop L)) :
    Sat P (M.dead id) (setOb H id .dead) 0 (w.putObj B o) ∧ Fr M (M.dead id) w (w.putObj B o) := by
  have hidn := hs.id_lt hl
  have hext : Ext M (M.dead id) := ⟨fun _ _ h => h, Nat.le_refl _, fun j _ => by
    simp only [MM.dead]
    split
    · rename_i e; subst e; omega
    · exact Nat.le_refl _, fun j l _ hgj hlj => by
    simp only [MM.dead] at hgj ⊢
    split at hgj
    · rename_i e; subst e; omega
    · rename_i e; rw [if_neg e]; exact hlj, fun _ _ h => h⟩
  have hkeep : ∀ B' : Nat, B' ≠ B → (w.putObj B o).heap[B']? = w.heap[B']? := fun B' hB => World.putObj_heap_other hB
  refine ⟨⟨by rw [setOb_length]; exact hs.n, ?_, ?_, ?_, ?_, ?_, fun B' t hb => by
      obtain ⟨a, f, hh⟩ := hs.ty B' t hb
      obtain ⟨L, hL⟩ := hL
      exact ⟨a, f, by rw [hkeep B' (fun e => by subst e; rw [hL] at hh; cases hh)]; exact hh⟩, fun j B' b' c' hj hg' => by
      simp only [MM.dead] at hj hg'
      split at hj
      · cases hj
      · rename_i e; rw [if_neg e] at hg'; exact hs.bty j B' b' c' hj hg'⟩, ⟨hext, rfl, rfl, rfl, by simp, fun B' _ hno => hkeep B' (fun e => hno ⟨id, b, c, by rw [e]; exact hl⟩), ?_, fun B o ho => .inl ho⟩⟩
  · intro j hj
    have hj' : M.n ≤ j := hj
    simp only [MM.dead]
    rw [if_neg (by omega), if_neg (by omega)]
    exact hs.out j hj'
  · intro B' o' hB'
    rw [hkeep B' (fun e => by subst e; simp only [MM.dead] at hB'; rw [hi] at hB'; cases hB')]
    exact hs.imm B' o' hB'
  · intro j l hj
    simp only [MM.dead] at hj
    split at hj
    · cases hj
    · rename_i hne
      obtain ⟨o', ho', hos⟩ := hs.obj j l hj
      refine ⟨o', by rw [ob?_setOb_ne hne]; exact ho', ?_⟩
      cases l with
      | none =>
        cases o' <;> simp only [ObSat] at hos ⊢ <;> try (exact hos.elim)
        simp only [MM.dead]
        rw [if_neg hne]
        exact hos
      | some l =>
        obtain ⟨B', b', c'⟩ := l
        have hBB : B' ≠ B := fun e => hne (hs.inj j id B b' c' b c (by rw [← e]; exact hj) hl)
        refine obSat_move (M' := M.dead id) hext (by simp only [MM.dead]; rw [if_neg hne]) (hkeep B' hBB) (fun h => h) hos
  · intro j q' hq hlj
    by_cases e : j = id
    · subst e
      rw [ob?_setOb_same ho] at hq
      cases hq
      exact .inl rfl
    · rw [ob?_setOb_ne e] at hq
      simp only [MM.dead] at hlj ⊢
      rw [if_neg e] at hlj ⊢
      exact hs.idle j q' hq hlj
  · intro j j' B' b1 c1 b2 c2 e1 e2
    simp only [MM.dead] at e1 e2
    split at e1 <;> try (cases e1; done)
    split at e2 <;> try (cases e2; done)
    exact hs.inj j j' B' b1 c1 b2 c2 e1 e2
  · rintro B' ⟨j, b', c', hj⟩
    simp only [MM.dead] at hj
    split at hj
    · cases hj
    · exact .inl ⟨j, b', c', hj⟩
theorem rf_ok (hE : EnvOk P E) {fuel : Nat} {f : A} {ps : List Nat} {asg body : I} {g : Operand} {params : Array Tmp} {ca cb : Code} {s s' : St} {e : Ex} {a : Act} {w : World} {Q : Exit → Act → World → Prop} (h : exec E fuel false (.rf f ps asg body) s = some (e, s'))
    (k1 : okA ⟨0, tm, [], [], fun _ => true⟩ g f = true) (k2 : ps.map (fun j => tm[j]?) = params.toList.map some) (k3 : once tm = true) (k4 : tm.all (fun t => decide (t < nt)) = true) (k5 : okI P tm nt asg ca = true) (k6 : okI P tm nt body cb = true)
    (hG : GlobOk E.glob M0.imm) (hs : StRel P tm nt M0 w0 s a w) (hQ : ∀ a' w', StRel P tm nt M0 w0 s' a' w' → Q (exitOf e) a' w') : (Code.rangeFunc g params ca cb).wpIn (rnd none) 0 P Q a w := by
  simp only [exec, Bool.false_eq_true, if_false] at h
  split at h <;> try (cases h; done)
  rename_i x hx
  split at h <;> try (cases h; done)
  rename_i hfn
  split at h <;> try (cases h; done)
  rename_i v H1 hcall
  obtain ⟨M, s1, s2, s3, s4, s5⟩ := hs
  refine wpIn_rangeFunc fun fn _ => ?_
  obtain ⟨t1, t2⟩ := enter_sat fn s1 s3 s4 k2 k3 k4 k5 k6
  have hxr : RelC (M.loop s.heap.length (w.heap.size + 1) w.heap.size) x (a.eval g) := by
    have := RelV.mono t2.ext (operand0 (E := E) (hG.mono s2.ext.imm) s3 k1)
    rw [hx, relV_c] at this
    exact this
  have hy : RelVs (M.loop s.heap.length (w.heap.size + 1) w.heap.size) [.c (.yld s.heap.length)] [.func (.yield (w.heap.size + 1)) #[] #[]] := by
    simp only [RelVs, RelV, RelC, and_true]
    exact ⟨by simp [MM.loop], w.heap.size + 1, rfl, fun _ => ⟨w.heap.size, 0, by simp [MM.loop]⟩⟩
  rcases hE.call x _ _ _ _ hcall _ _ _ _ (hG.mono (s2.trans t2).ext.imm) hxr hy rfl t1 with ⟨fid, first, caps, hcv, hent, hc⟩ | ⟨l, fid, tmps, asg', body', hcv, _, _⟩
  rotate_left
  · exfalso
    rw [hcv] at hxr
    unfold C.isFn at hfn
    split at hfn
    · simp only [RelC, RelD] at hxr
      obtain ⟨_, _, hh, _⟩ := hxr
      cases hh
    · simp only [RelC] at hxr
      obtain ⟨_, _, hh, _⟩ := hxr
      cases hh
    · simp at hfn
  obtain ⟨fn', e1, e2, e3⟩ := hent
  refine ⟨w.heap.size + 1, [markOf w.heap.size], enterW fn a w params ca cb, ⟨.fn (.func fid) caps, first ++ #[.func (.yield (w.heap.size + 1)) #[] #[]]⟩, enterW fn a w params ca cb, fid, first ++ #[.func (.yield (w.heap.size + 1)) #[] #[]] ++ caps, enterW fn a w params ca cb, ?_, ?_, fun _ _ => trivial, ?_, fun h => by simp [rnd, Fence.wide] at h, ?_⟩
  · exact run_enterLoop_outer fn a.tmps params ca cb
  · show (Deferred.ofValue (a.eval g) (#[Operand.const (.func (.yield (w.heap.size + 1)) #[] #[])].map a.eval)).run P _ = _
    rw [hcv]
    simp [Deferred.ofValue, Act.eval]
  · simp only [invoke, callFunc, Sem.run_bind, run_program, Result.andThen_ok, e1, e2, Bool.false_eq_true, if_false, e3, Sem.run_pure]
  · refine callsIn_rnd (rd := none) (hc.mono fun e' w' hh => ?_)
    obtain ⟨v', M', rfl, r1, r2, r3⟩ := hh
    have hrec : ∀ rdy pend regs ps' asg' body', ob? H1 s.heap.length = some (.loop rdy pend regs ps' asg' body') → M'.gen s.heap.length = 0 ∧ M'.loc s.heap.length = some (some (w.heap.size + 1, w.heap.size, 0)) ∧ LoopSat P M' w' 0 rdy pend regs ps' asg' body' (w.heap.size + 1) := by
      intro rdy pend regs ps' asg' body' ho
      have hg0 : M'.gen s.heap.length = 0 := by
        cases hl : M'.loc s.heap.length with
        | none =>
          rcases r2.idle _ _ ho hl with e | e
          · cases e
          · exact e
        | some l =>
          obtain ⟨o, ho', hos⟩ := r2.obj _ _ hl
          rw [ho] at ho'
          cases ho'
          cases l with
          | none => simp [ObSat] at hos
          | some l => simp only [ObSat] at hos; exact hos.1
      have hl := r3.ext.loc s.heap.length (some (w.heap.size + 1, w.heap.size, 0)) (by simp [MM.loop]) (by rw [hg0]; exact (s1.out _ (by rw [s1.n]; exact Nat.le_refl _)).2) (by simp [MM.loop])
      obtain ⟨o, ho', hos⟩ := r2.obj _ _ hl
      rw [ho] at ho'
      cases ho'
      simp only [ObSat] at hos
      exact ⟨hg0, hl, hos.2⟩
    have fin : ∀ (rdy : Bool) (pend : Option Ex) (regs : List V) (ps' : List Nat) (asg' body' : I) (L : Loop), ob? H1 s.heap.length = some (.loop rdy pend regs ps' asg' body') → w'.heap[w.heap.size + 1]? = some (.loop L) → M'.imm (w.heap.size + 1) = none →
        StRel P tm nt M0 w0 ⟨s.regs, setOb H1 s.heap.length .dead⟩ { a with defers := [markOf w.heap.size] ++ a.defers } (w'.putObj (w.heap.size + 1) (.loop { L with state := .exhausted })) := by
      intro rdy pend regs ps' asg' body' L ho hL him
      obtain ⟨g1, g2, _⟩ := hrec _ _ _ _ _ _ ho
      obtain ⟨u1, u2⟩ := dead_sat (o := .loop { L with state := .exhausted }) r2 g2 him g1 ho ⟨_, hL⟩
      have hall := t2.trans (r3.trans u2)
      refine ⟨_, u1, s2.trans hall, fun j t hj => RelV.mono hall.ext (s3 j t hj), s4, ?_⟩
      have hback := r3.trans u2
      have hsz := enterW_size fn a w params ca cb
      have hno : ¬ (M.loop s.heap.length (w.heap.size + 1) w.heap.size).Owns w.heap.size := fun ho => by
        rcases t2.own _ ho with ⟨id, b, c, hid⟩ | _
        · exact Nat.lt_irrefl _ (s1.block_lt ⟨id, b, c, hid⟩)
        · obtain ⟨id, b, c, hid⟩ := ho
          simp only [MM.loop] at hid
          split at hid
          · simp only [Option.some.injEq, Prod.mk.injEq] at hid
            omega
          · exact Nat.lt_irrefl _ (s1.block_lt ⟨id, b, c, hid⟩)
      obtain ⟨rs, q1, q2, q3⟩ := s5
      have hold := (show Marks M w0 w a.defers from ⟨rs, q1, q2, q3⟩).keep hall
      obtain ⟨rs', z1, z2, z3⟩ := hold
      have hlt : ∀ r ∈ rs, r < w.heap.size := fun r hr => (Array.getElem?_eq_some_iff.1 (q3 r hr).2.1).1
      refine ⟨w.heap.size :: rs, by simp [q1], List.nodup_cons.2 ⟨fun hm => Nat.lt_irrefl _ (hlt _ hm), q2⟩, fun r hr => ?_⟩
      rcases List.mem_cons.1 hr with rfl | hr
      · refine ⟨s2.size, ?_, fun ho => ?_, ?_⟩
        · rw [hback.keep _ (by omega) hno]
          exact enterW_mark fn a w params ca cb
        · rcases hback.own _ ho with h' | h'
          · exact hno h'
          · omega
        · cases hi : (M'.dead s.heap.length).imm w.heap.size with
          | none => rfl
          | some o =>
            exfalso
            rcases hback.imm _ o hi with h' | h' | h'
            · have := s1.imm _ _ h'
              have := (Array.getElem?_eq_some_iff.1 this).1
              omega
            · exact hno h'
            · omega
      · have hm := marks_mem hall (q3 r hr)
        exact hm
    split at h <;> try (cases h; done)
    · rename_i regs ps' asg' body' ho
      simp only [Option.some.injEq, Prod.mk.injEq] at h
      obtain ⟨rfl, rfl⟩ := h
      obtain ⟨_, _, L, hL, _, him, ⟨hst, hpe⟩, _⟩ := hrec _ _ _ _ _ _ ho
      refine ⟨_, _, run_endLoop hL (by rw [hst]; simp), ?_⟩
      have := hQ _ _ (fin _ _ _ _ _ _ L ho hL him)
      generalize w'.putObj (w.heap.size + 1) (.loop { L with state := .exhausted }) = W at this ⊢
      rw [hpe]
      exact this
    · rename_i ex regs ps' asg' body' ho
      simp only [Option.some.injEq, Prod.mk.injEq] at h
      obtain ⟨rfl, rfl⟩ := h
      obtain ⟨_, _, L, hL, _, him, ⟨hst, hpe, hne⟩, _⟩ := hrec _ _ _ _ _ _ ho
      refine ⟨_, _, run_endLoop hL (by rw [hst]; simp), ?_⟩
      have := hQ _ _ (fin _ _ _ _ _ _ L ho hL him)
      generalize w'.putObj (w.heap.size + 1) (.loop { L with state := .exhausted }) = W at this ⊢
      rw [hpe]
      cases ex with
      | nrm => exact absurd rfl hne
      | exit id => exact wpIn_exit this
      | ret => exact wpIn_ret this
theorem exec_ok (hE : EnvOk P E) (fuel : Nat) : ∀ i : I, Holds P tm nt E fuel i
  | .skip => by
    intro rd M0 w0 c s s' e a w Q h hok hG hs hQ
    cases c <;> simp only [okI] at hok <;> try (cases hok; done)
    simp only [exec, Option.some.injEq, Prod.mk.injEq] at h
    obtain ⟨rfl, rfl⟩ := h
    exact wpIn_skip (hQ _ _ hs)
  | .exit id => by
    intro rd M0 w0 c s s' e a w Q h hok hG hs hQ
    cases c <;> simp only [okI] at hok <;> try (cases hok; done)
    simp only [beq_iff_eq] at hok
    subst hok
    simp only [exec, Option.some.injEq, Prod.mk.injEq] at h
    obtain ⟨rfl, rfl⟩ := h
    exact wpIn_exit (hQ _ _ hs)
  | .ret => by
    intro rd M0 w0 c s s' e a w Q h hok hG hs hQ
    cases c <;> simp only [okI] at hok <;> try (cases hok; done)
    simp only [exec, Option.some.injEq, Prod.mk.injEq] at h
    obtain ⟨rfl, rfl⟩ := h
    exact wpIn_ret (hQ _ _ hs)
  | .keep js => by
    intro rd M0 w0 c s s' e a w Q h hok hG hs hQ
    cases c <;> simp [okI] at hok
  | .fresh _ _ _ => by
    intro rd M0 w0 c s s' e a w Q h hok hG hs hQ
    cases c <;> simp [okI] at hok
  | .freshb _ _ => by
    intro rd M0 w0 c s s' e a w Q h hok hG hs hQ
    cases c <;> simp [okI] at hok
  | .rf f ps asg body => by
    intro rd M0 w0 c s s' e a w Q h hok hG hs hQ
    cases c <;> simp only [okI] at hok <;> try (cases hok; done)
    rename_i g params ca cb
    simp only [Bool.and_eq_true, beq_iff_eq] at hok
    obtain ⟨⟨⟨⟨⟨k1, k2⟩, k3⟩, k4⟩, k5⟩, k6⟩ := hok
    cases rd with
    | some l => simp [exec] at h
    | none => exact rf_ok hE h k1 k2 k3 k4 k5 k6 hG hs hQ
  | .reg draw ops exp aps => by
    intro rd M0 w0 c s s' e a w Q h hok hG hs hQ
    cases c <;> simp only [okI] at hok <;> try (cases hok; done)
    simp only [Bool.and_eq_true, beq_iff_eq] at hok
    obtain ⟨rfl, hok⟩ := hok
    simp only [exec] at h
    split at h <;> try (cases h; done)
    rename_i ts H hrun
    split at h <;> try (cases h; done)
    rename_i hap
    simp only [Option.some.injEq, Prod.mk.injEq] at h
    obtain ⟨rfl, rfl⟩ := h
    obtain ⟨M, h1, h2, h3, h4, h5⟩ := hs
    exact region_ok hE (hG.mono h2.ext.imm) hok hrun hap h1 h3 h4 fun M' a' w' k1 k2 k3 k4 k5 => hQ a' w' ⟨M', k1, h2.trans k2, k3, k4, by rw [k5]; exact h5.keep k2⟩
  | .cond x i j => by
    intro rd M0 w0 c s s' e a w Q h hok hG hs hQ
    cases c <;> simp only [okI] at hok <;> try (cases hok; done)
    simp only [Bool.and_eq_true] at hok
    obtain ⟨⟨h1, h2⟩, h3⟩ := hok
    simp only [exec] at h
    split at h <;> try (cases h; done)
    rename_i t hx
    obtain ⟨M, k1, k2, k3, k4⟩ := hs
    have hrel := operand0 (E := E) (hG.mono k2.ext.imm) k3 h1
    rw [hx, relV_bool] at hrel
    refine wpIn_cond hrel ?_
    cases t with
    | true => exact exec_ok hE fuel i rd M0 w0 _ s s' e a w Q h h2 hG ⟨M, k1, k2, k3, k4⟩ hQ
    | false => exact exec_ok hE fuel j rd M0 w0 _ s s' e a w Q h h3 hG ⟨M, k1, k2, k3, k4⟩ hQ
  | .block id i => by
    intro rd M0 w0 c s s' e a w Q h hok hG hs hQ
    cases c <;> simp only [okI] at hok <;> try (cases hok; done)
    simp only [Bool.and_eq_true, beq_iff_eq] at hok
    obtain ⟨rfl, hok⟩ := hok
    simp only [exec] at h
    refine wpIn_block ?_
    cases hb : exec E fuel rd.isSome i s with
    | none => rw [hb] at h; simp at h
    | some r =>
      obtain ⟨e1, s1⟩ := r
      rw [hb] at h
      refine exec_ok hE fuel i rd M0 w0 _ s s1 e1 a w _ hb hok hG hs fun a' w' h3 => ?_
      cases e1 with
      | nrm =>
        simp only [Option.some.injEq, Prod.mk.injEq] at h
        obtain ⟨rfl, rfl⟩ := h
        exact hQ a' w' h3
      | ret =>
        simp only [Option.some.injEq, Prod.mk.injEq] at h
        obtain ⟨rfl, rfl⟩ := h
        exact hQ a' w' h3
      | exit id' =>
        simp only at h
        simp only [exitOf, Exit.inBlock]
        split at h
        · rename_i he
          simp only [Option.some.injEq, Prod.mk.injEq] at h
          obtain ⟨rfl, rfl⟩ := h
          rw [if_pos he]
          exact hQ a' w' h3
        · rename_i he
          simp only [Option.some.injEq, Prod.mk.injEq] at h
          obtain ⟨rfl, rfl⟩ := h
          rw [if_neg he]
          exact hQ a' w' h3
  | .loop js i => exec_loop (exec_ok hE fuel i)
  | .seq i j => by
    intro rd M0 w0 c s s' e a w Q h hok hG hs hQ
    have hj := exec_ok hE fuel j
    have plain : ∀ c d, c = c → okI P tm nt i c = true → okI P tm nt j d = true → (Code.seq c d).wpIn (rnd rd) 0 P Q a w := by
      intro c d _ h1 h2
      refine wpIn_seq ?_
      simp only [exec] at h
      cases hb : exec E fuel rd.isSome i s with
      | none => rw [hb] at h; simp at h
      | some r =>
        obtain ⟨e1, s1⟩ := r
        rw [hb] at h
        refine exec_ok hE fuel i rd M0 w0 c s s1 e1 a w _ hb h1 hG hs fun a' w' h3 => ?_
        cases e1 with
        | nrm => exact hj rd M0 w0 d s1 s' e a' w' Q h h2 hG h3 hQ
        | exit id =>
          simp only [Option.some.injEq, Prod.mk.injEq] at h
          obtain ⟨rfl, rfl⟩ := h
          exact hQ a' w' h3
        | ret =>
          simp only [Option.some.injEq, Prod.mk.injEq] at h
          obtain ⟨rfl, rfl⟩ := h
          exact hQ a' w' h3
    cases i with
    | keep js =>
      simp only [okI] at hok
      simp only [exec] at h
      exact hj rd M0 w0 c _ s' e a w Q h hok hG (hs.keep js) hQ
    | fresh jj off sz =>
      simp only [okI] at hok
      simp only [exec] at h
      exact hj rd M0 w0 c _ s' e a w Q h hok hG (hs.fresh jj off sz) hQ
    | freshb jj off =>
      simp only [okI] at hok
      simp only [exec] at h
      exact hj rd M0 w0 c _ s' e a w Q h hok hG (hs.freshB jj off) hQ
    | _ =>
      cases c <;> simp only [okI] at hok <;> try (cases hok; done)
      all_goals (rw [Bool.and_eq_true] at hok; exact plain _ _ rfl hok.1 hok.2)
def resV (tmps : Array Value) : ResultVar → Sem Value
  | .tmp t => pure (tmps.getD t undef)
  | .cell a t => do loadVar t (← asAddr (tmps.getD a undef))
theorem result_rel {M : MM} {regs : List V} {H : Heap} {w : World} {tmps : Array Value} (hs : Sat P M H 0 w) (hr : RelRegs M tm regs tmps) {rv : Rv} {x : ResultVar} {v : V} (h : result regs H rv = some v) (hok : okRv P tm rv x = true) :
    ∃ u, (resV tmps x).run P w = .ok u w ∧ RelV M v u := by
  unfold okRv at hok
  split at hok <;> try (cases hok; done)
  · rename_i j t
    simp only [beq_iff_eq] at hok
    simp only [result] at h
    split at h <;> try (cases h; done)
    simp only [Option.some.injEq] at h
    subst h
    exact ⟨_, rfl, hr j t hok⟩
  · rename_i j n g t ty
    simp only [Bool.and_eq_true, beq_iff_eq, decide_eq_true_eq] at hok
    obtain ⟨⟨⟨h1, h2⟩, h3⟩, h4⟩ := hok
    simp only [result] at h
    split at h <;> try (cases h; done)
    rename_i id gen off hx
    split at h <;> try (cases h; done)
    rename_i cs g' fz ho
    split at h <;> try (cases h; done)
    rename_i hg
    subst hg
    have r1 := hr j t h1
    rw [hx, relV_c] at r1
    obtain ⟨B, b0, bs, fz', hl, hv', arr, T, fr, e1, e2, e3, e4, _⟩ := live_ptr hs (Sub.refl H) ho r1
    have hlen : n ≤ (cs.drop off).length := ofCells_len h
    have hd := e4.drop off
    rw [List.drop_drop] at hd
    obtain ⟨u, hu, hru⟩ := run_loadVar_row (P := P) h3 h2 e1 (by simp at hlen; omega) hd h
    refine ⟨u, ?_, hru⟩
    simp only [resV, hv', Sem.run_bind, asAddr, Sem.run_pure, Result.andThen_ok]
    exact hu
theorem results_rel {M : MM} {regs : List V} {H : Heap} {w : World} {tmps : Array Value} (hs : Sat P M H 0 w) (hr : RelRegs M tm regs tmps) : ∀ {rvs : List Rv} {xs : List ResultVar} {vs : List V}, mapO (result regs H) rvs = some vs → okRvs P tm rvs xs = true →
    ∃ us : List Value, (xs.mapM (resV tmps)).run P w = .ok us w ∧ RelVs M vs us ∧ vs.length = us.length
  | [], [], vs, h, _ => by
    simp only [mapO, Option.some.injEq] at h
    subst h
    exact ⟨[], rfl, RelVs.nil _ _, rfl⟩
  | [], _ :: _, _, _, hok => by simp [okRvs] at hok
  | _ :: _, [], _, _, hok => by simp [okRvs] at hok
  | rv :: rvs, x :: xs, vs, h, hok => by
    simp only [okRvs, Bool.and_eq_true] at hok
    simp only [mapO] at h
    split at h <;> try (cases h; done)
    rename_i y hy
    split at h <;> try (cases h; done)
    rename_i ys hys
    simp only [Option.some.injEq] at h
    subst h
    obtain ⟨u, h1, h2⟩ := result_rel hs hr hy hok.1
    obtain ⟨us, h3, h4, h5⟩ := results_rel hs hr hys hok.2
    refine ⟨u :: us, ?_, by simp only [RelVs]; exact ⟨h2, h4⟩, by simp [h5]⟩
    rw [List.mapM_cons, Sem.run_bind, h1]
    simp only [Result.andThen_ok, Sem.run_bind, h3, Sem.run_pure]
theorem results_ok {M : MM} {regs : List V} {H : Heap} {w : World} {tmps : Array Value} {fn : Func} {rvs : List Rv} {v : V} (hs : Sat P M H 0 w) (hr : RelRegs M tm regs tmps) (h : Mini.results regs H rvs = some v) (hok : okRvs P tm rvs fn.results.toList = true) :
    ∃ u, (Go.results fn tmps).run P w = .ok u w ∧ RelV M v u := by
  unfold Mini.results at h
  cases hm : mapO (result regs H) rvs with
  | none => rw [hm] at h; simp at h
  | some vs =>
    rw [hm] at h
    obtain ⟨us, h1, h2, h3⟩ := results_rel hs hr hm hok
    have hrun : ∀ u, (if h : us.toArray.size = 1 then us.toArray[0] else Value.tuple us.toArray) = u → (Go.results fn tmps).run P w = .ok u w := by
      intro u hu
      have e : Go.results fn tmps = (do let vs ← fn.results.mapM (resV tmps); pure (if h : vs.size = 1 then vs[0] else .tuple vs)) := by
        unfold Go.results
        congr 1
      rw [e, Array.mapM_eq_mapM_toList]
      simp only [Sem.run_bind, Sem.run_map, h1, Result.andThen_ok, Sem.run_pure]
      rw [← hu]
    split at h
    · rename_i v' e
      cases e
      simp only [Option.some.injEq] at h
      subst h
      obtain ⟨u, rfl⟩ : ∃ u, us = [u] := by
        match us, h3 with
        | [u], _ => exact ⟨u, rfl⟩
      simp only [RelVs] at h2
      exact ⟨u, hrun u (by simp), h2.1⟩
    · rename_i vs' hne e
      cases e
      simp only [Option.some.injEq] at h
      subst h
      have hl : us.length ≠ 1 := by
        intro e
        rw [e] at h3
        obtain ⟨x, rfl⟩ : ∃ x, vs = [x] := by
          match vs, h3 with
          | [x], _ => exact ⟨x, rfl⟩
        exact hne x rfl
      refine ⟨.tuple us.toArray, hrun _ (by simp [hl]), ?_⟩
      rw [relV_tup]
      exact ⟨_, rfl, by simp [h3], h2⟩
    · cases h
end
end Mini
end Go.Proofs.YtgjlofpfbhioaaaGreatDoor
namespace Go.Proofs.YtgjlofpfbhioaaaGreatDoor
namespace Mini
open Go
def HeapPrim (P : Program) (G : Nat → Option (List D)) (f : FuncId) (args : List V) (H : Heap) (v : V) (H' : Heap) : Prop :=
  ∀ (M : MM) (w : World) (us : List Value), GlobOk G M.imm → RelVs M args us → args.length = us.length → Sat P M H 0 w →
    Calls P f us.toArray w fun e w' => ∃ v' M', e = .returned v' ∧ RelV M' v v' ∧ Sat P M' H' 0 w' ∧ Fr M M' w w'
structure CtxOk (P : Program) (X : Ctx) : Prop where
  fns : ∀ f F, X.fns f = some F → Enters P f ∧ ∃ fn, P.funcs[f]? = some fn ∧ okFn P F fn = true
  prim : ∀ f vs r, X.prim f vs = some r → Enters P f ∧ ValCall P X.glob f vs r
  hprim : ∀ f vs H r H', X.hprim f vs H = some (r, H') → Enters P f ∧ HeapPrim P X.glob f vs H r H'
section
variable {P : Program} {M : MM} {w : World} {E : Env}
theorem RelVs.append : ∀ {xs ys : List V} {us vs : List Value}, RelVs M xs us → xs.length = us.length → RelVs M ys vs → RelVs M (xs ++ ys) (us ++ vs)
  | [], ys, [], vs, _, _, h => h
  | [], ys, _ :: _, vs, _, hl, _ => by simp at hl
  | x :: xs, ys, [], vs, _, hl, _ => by simp at hl
  | x :: xs, ys, u :: us, vs, h, hl, k => by
    simp only [RelVs] at h
    simp only [List.cons_append, RelVs]
    exact ⟨h.1, RelVs.append h.2 (by simpa using hl) k⟩
theorem RelVs.of_cs : ∀ {cs : List C} {vs : List Value}, RelCs M cs vs → RelVs M (cs.map .c) vs
  | [], _, _ => RelVs.nil _ _
  | _ :: _, [], h => by simp only [RelCs] at h
  | c :: cs, v :: vs, h => by
    simp only [RelCs] at h
    simp only [List.map_cons, RelVs, RelV]
    exact ⟨h.1, RelVs.of_cs h.2⟩
theorem nth_append (xs ys : List V) (j : Nat) : nth (xs ++ ys) j = if j < xs.length then nth xs j else nth ys (j - xs.length) := by
  induction xs generalizing j with
  | nil => simp []
  | cons x xs ih =>
    cases j with
    | zero => simp [nth]
    | succ j =>
      simp only [List.cons_append, nth, ih, List.length_cons]
      by_cases h : j < xs.length
      · rw [if_pos h, if_pos (by omega)]
      · rw [if_neg h, if_neg (by omega), show j + 1 - (xs.length + 1) = j - xs.length by omega]
theorem nth_replicate (n j : Nat) : nth (List.replicate n V.any) j = .any := by
  induction n generalizing j with
  | zero => simp [nth]
  | succ n ih => cases j <;> simp [List.replicate_succ, nth, ih]
theorem nth_rel : ∀ {xs : List V} {us : List Value} {j : Nat}, RelVs M xs us → RelV M (nth xs j) (us.getD j undef)
  | [], us, j, _ => relV_any
  | _ :: _, [], j, h => by simp only [RelVs] at h
  | x :: xs, u :: us, 0, h => by simp only [RelVs] at h; simp only [nth]; exact h.1
  | x :: xs, u :: us, j + 1, h => by
    simp only [RelVs] at h
    simp only [nth]
    have := nth_rel (j := j) h.2
    simpa using this
theorem leaves_marks {M' : MM} {H : Heap} {w0 : World} {fn : Func} {tmps : Array Value} {R : Ending → World → Prop} : ∀ (rs : List Nat) {w : World}, rs.Nodup → (∀ r ∈ rs, w0.heap.size ≤ r ∧ w.heap[r]? = some (.deferred (some [])) ∧ ¬ M'.Owns r ∧ M'.imm r = none) → Sat P M' H 0 w → Fr M M' w0 w →
    (∀ w1, Sat P M' H 0 w1 → Fr M M' w0 w1 → ∃ v, (Go.results fn tmps).run P w1 = .ok v w1 ∧ R (.returned v) w1) → LeavesInM Fence.wide 0 P fn tmps R (rs.map markOf) .returning w
  | [], w, _, _, hs, hf, hR => hR w hs hf
  | r :: rs, w, hnd, hm, hs, hf, hR => by
    obtain ⟨h1, h2, h3, h4⟩ := hm r (by simp)
    have hlt := (Array.getElem?_eq_some_iff.1 h2).1
    have hkeep : ∀ B : Nat, B ≠ r → (w.putObj r (.deferred none)).heap[B]? = w.heap[B]? := fun B hB => World.putObj_heap_other hB
    refine ⟨by simp, .inl ⟨r, w.putObj r (.deferred none), rfl, run_takeDeferred h2, leaves_marks rs (List.nodup_cons.1 hnd).2 (fun r' hr' => ?_) ?_ ?_ hR⟩⟩
    · obtain ⟨k1, k2, k3, k4⟩ := hm r' (by simp [hr'])
      exact ⟨k1, by rw [hkeep r' (fun e => (List.nodup_cons.1 hnd).1 (e ▸ hr'))]; exact k2, k3, k4⟩
    · refine ⟨hs.n, hs.out, fun B o hB => ?_, fun id l hl => ?_, hs.idle, hs.inj, fun B t hb => ?_, hs.bty⟩
      rotate_left 2
      · obtain ⟨a, f, hh⟩ := hs.ty B t hb
        exact ⟨a, f, by rw [hkeep B (fun e => by subst e; rw [h2] at hh; cases hh)]; exact hh⟩
      · rw [hkeep B (fun e => by subst e; rw [h4] at hB; cases hB)]
        exact hs.imm B o hB
      · obtain ⟨o, ho, hos⟩ := hs.obj id l hl
        refine ⟨o, ho, ?_⟩
        cases l with
        | none => cases o <;> simp only [ObSat] at hos ⊢ <;> first | exact hos | exact hos.elim
        | some l =>
          obtain ⟨B, b, c⟩ := l
          exact obSat_move (Ext.refl M') rfl (hkeep B (fun e => h3 ⟨id, b, c, by rw [← e]; exact hl⟩)) (fun h => h) hos
    · exact ⟨hf.ext, hf.os, hf.tape, hf.output, by simpa using hf.size, fun B hB hno => by rw [hkeep B (by omega)]; exact hf.keep B hB hno, hf.own, hf.imm⟩
theorem runFn_ok (hE : EnvOk P E) {fuel : Nat} {F : Fn} {fn : Func} {f : FuncId} {args : List V} {us : List Value} {H H' : Heap} {v : V} (hf : P.funcs[f]? = some fn) (hok : okFn P F fn = true) (h : runFn E fuel F args H = some (v, H'))
    (hG : GlobOk E.glob M.imm) (hs : Sat P M H 0 w) (hargs : RelVs M args us) (hl : args.length = us.length) :
    Calls P f us.toArray w fun e w' => ∃ v' M', e = .returned v' ∧ RelV M' v v' ∧ Sat P M' H' 0 w' ∧ Fr M M' w w' := by
  unfold okFn at hok
  simp only [Bool.and_eq_true, decide_eq_true_eq, List.all_eq_true] at hok
  obtain ⟨⟨⟨⟨⟨⟨⟨h1, h2⟩, h3⟩, h4⟩, h5⟩, h6⟩, h7⟩, h8⟩ := hok
  split at h8 <;> try (cases h8; done)
  rename_i c hc
  unfold runFn at h
  split at h <;> try (cases h; done)
  rename_i hnp
  have hle : us.length ≤ fn.ntmps := by
    rw [← hl, hnp]
    rcases Nat.eq_zero_or_pos F.np with h0 | hpos
    · omega
    · have hm : F.np - 1 ∈ F.tm := by
        have : (F.tm.take F.np)[F.np - 1]? = some (F.np - 1) := by rw [h4, List.getElem?_range (by omega)]
        rw [List.getElem?_take, if_pos (by omega)] at this
        exact List.mem_of_getElem? this
      have := h6 _ hm
      omega
  have hst : StRel P F.tm fn.ntmps M w ⟨pad F.nr args, H⟩ { tmps := us.toArray ++ Array.replicate (fn.ntmps - us.toArray.size) undef, defers := [] } w := by
    refine ⟨M, hs, Fr.refl M w, ?_, by simp; omega, Marks.nil M w w⟩
    intro j t hj
    simp only [pad]
    rw [nth_append]
    split
    · rename_i hlt
      have ht : t = j := by
        have : (F.tm.take F.np)[j]? = some t := by rw [List.getElem?_take, if_pos (by omega)]; exact hj
        rw [h4, List.getElem?_range (by omega)] at this
        exact (Option.some.inj this).symm
      subst ht
      have := nth_rel (j := t) hargs
      have e : (us.toArray ++ Array.replicate (fn.ntmps - us.toArray.size) undef).getD t undef = us.getD t undef := by
        rw [Array.getD_eq_getD_getElem?, List.getD_eq_getElem?_getD, Array.getElem?_append_left (by simp; omega)]
        simp
      rw [e]
      exact this
    · rw [nth_replicate]; exact relV_any
  cases hx : exec E fuel false F.body ⟨pad F.nr args, H⟩ with
  | none => rw [hx] at h; simp at h
  | some r =>
    obtain ⟨e, s⟩ := r
    rw [hx] at h
    have hne : ∀ id, e ≠ .exit id := fun id he => by subst he; simp at h
    have hres : ((Mini.results s.regs s.heap F.res).map fun v => (v, s.heap)) = some (v, H') := by
      cases e with
      | nrm => exact h
      | ret => exact h
      | exit id => exact absurd rfl (hne id)
    simp only [Option.map_eq_some_iff, Prod.mk.injEq] at hres
    obtain ⟨v0, hres, rfl, rfl⟩ := hres
    refine (callsIn_wide (n := 0)).1 (callsIn_of_wp_marks hf hc trivial (exec_ok hE fuel F.body none M w c _ s e _ w _ hx h8 hG hst fun a' w' hs' => ?_))
    obtain ⟨M', k1, k2, k3, k4, rs, k5, k6, k7⟩ := hs'
    have hb : LeavesInM Fence.wide 0 P fn a'.tmps (fun e w' => ∃ v' M', e = .returned v' ∧ RelV M' v0 v' ∧ Sat P M' s.heap 0 w' ∧ Fr M M' w w') a'.defers .returning w' := by
      rw [k5]
      refine leaves_marks rs k6 k7 k1 k2 fun w1 q1 q2 => ?_
      obtain ⟨u, hu, hru⟩ := results_ok q1 k3 hres h7
      exact ⟨u, hu, u, M', rfl, hru, q1, q2⟩
    cases e with
    | nrm => exact hb
    | ret => exact hb
    | exit id => exact absurd rfl (hne id)
theorem deepV_rel {H : Heap} {r rv : V} {v : Value} (hs : Sat P M H 0 w) (h : deepV H r = some rv) (hr : RelV M r v) : ∃ ids, RelV (mm (immX M w ids)) rv v := by
  by_cases ht : ∃ vs, r = .tup vs
  · obtain ⟨vs, rfl⟩ := ht
    simp only [deepV, Option.map_eq_some_iff] at h
    obtain ⟨ys, hys, rfl⟩ := h
    rw [relV_tup] at hr
    obtain ⟨arr, rfl, h1, h2⟩ := hr
    obtain ⟨hlen, hget⟩ := mapO_get hys
    refine ⟨vs.flatMap (reachV H), ?_⟩
    rw [relV_tup]
    refine ⟨arr, rfl, by omega, ?_⟩
    rw [RelVs.iff]
    intro j y hy
    obtain ⟨x, hx, hxy⟩ := hget j y hy
    obtain ⟨u, hu, hru⟩ := RelVs.iff.1 h2 j x hx
    exact ⟨u, hu, deepV1_rel hs (Sub.refl H) hxy hru fun id hid => List.mem_flatMap.2 ⟨x, List.mem_of_getElem? hx, hid⟩⟩
  · have h' : deepV1 H r = some rv := by
      cases r with
      | tup vs => exact absurd ⟨vs, rfl⟩ ht
      | _ => exact h
    exact ⟨reachV H r, deepV1_rel hs (Sub.refl H) h' hr fun _ h => h⟩
theorem sat_nil {I : Imm} (h : ∀ B o, I B = some o → w.heap[B]? = some o) : Sat P (mm I) [] 0 w :=
  ⟨rfl, fun _ _ => ⟨rfl, rfl⟩, h, fun id l h => (by cases h), fun id o h => (by simp [ob?] at h), fun _ _ _ _ _ _ _ h => (by cases h), fun _ _ h => (by cases h), fun _ _ _ _ h => (by cases h)⟩
theorem val_of_heap {G : Nat → Option (List D)} {f : FuncId} {vs : List V} {r rv : V} {H' : Heap} (h : HeapCall P G (.d (.fn f [] [])) vs [] r H') (hd : deepV H' r = some rv) : ValCall P G f vs rv := by
  intro I w us hG hI hrel hlen
  rcases h (mm I) w (.func (.func f) #[] #[]) us hG (by simp only [RelC, RelD]; exact ⟨#[], #[], rfl, RelDs.nil _ _, rfl, RelDs.nil _ _, rfl⟩) hrel hlen (sat_nil hI) with ⟨f', first, caps, h1, h2, h3⟩ | ⟨_, _, _, _, _, h1, _⟩
  rotate_left
  · simp at h1
  simp only [Value.func.injEq, Fn.func.injEq] at h1
  obtain ⟨rfl, rfl, rfl⟩ := h1
  have e : #[] ++ us.toArray ++ #[] = us.toArray := by simp
  rw [e] at h3
  refine h3.mono fun e w' hh => ?_
  obtain ⟨v', M', rfl, k1, k2, k3⟩ := hh
  obtain ⟨ids, hr⟩ := deepV_rel k2 hd k1
  refine ⟨v', immX M' w' ids, rfl, hr, fun B o hB => immX_le B o (k3.ext.imm B o hB), fun B o hB => immX_heap k2 hB, ?_, k3.os, k3.tape, k3.output, k3.size, fun B hB => k3.keep B hB (fun ⟨_, _, _, h⟩ => by cases h)⟩
  intro B o hB
  have own : ∀ B, M'.Owns B → w.heap.size ≤ B := fun B hB => (k3.own B hB).resolve_left (fun ⟨_, _, _, h⟩ => by cases h)
  unfold immX at hB
  split at hB
  · rename_i o' ho'
    cases hB
    rcases k3.imm B _ ho' with h | ⟨_, _, _, h⟩ | h
    · exact .inl h
    · cases h
    · exact .inr h
  · split at hB
    · rename_i hex
      obtain ⟨id, _, b, c, hl⟩ := hex
      exact .inr (own B ⟨id, b, c, hl⟩)
    · cases hB
end
def envN (X : Ctx) (n : Nat) : Env := {
  call := callN X n
  vcall := fun f vs => match X.prim f vs with
    | some r => some r
    | none => match callN X n (.d (.fn f [] [])) vs [] with
      | some (r, H') => deepV H' r
      | none => none
  prim := X.prim, bprim := X.bprim, glob := X.glob }
theorem callN_enters {P : Program} {X : Ctx} (hX : CtxOk P X) {n : Nat} {f : FuncId} {first caps : List D} {vs : List V} {H H' : Heap} {r : V} (h : callN X n (.d (.fn f first caps)) vs H = some (r, H')) : Enters P f := by
  cases n with
  | zero => simp [callN] at h
  | succ n =>
    simp only [callN] at h
    split at h
    · rename_i F hF; exact (hX.fns f F hF).1
    · exact (hX.hprim _ _ _ _ _ h).1
theorem loop_at {P : Program} {M : MM} {H : Heap} {w : World} {id l : Nat} {rdy : Bool} {pend : Option Ex} {regs : List V} {ps : List Nat} {asg body : I} (hs : Sat P M H 0 w) (ho : ob? H id = some (.loop rdy pend regs ps asg body)) (hl : M.gen id = 0 → ∃ b c, M.loc id = some (some (l, b, c))) :
    M.gen id = 0 ∧ ∃ b c, M.loc id = some (some (l, b, c)) ∧ LoopSat P M w 0 rdy pend regs ps asg body l := by
  have hg0 : M.gen id = 0 := by
    cases hl : M.loc id with
    | none =>
      rcases hs.idle _ _ ho hl with e | e
      · cases e
      · exact e
    | some l' =>
      obtain ⟨o, ho', hos⟩ := hs.obj _ _ hl
      rw [ho] at ho'
      cases ho'
      cases l' with
      | none => simp [ObSat] at hos
      | some l' => simp only [ObSat] at hos; exact hos.1
  obtain ⟨b, c, hl⟩ := hl hg0
  obtain ⟨o, ho', hos⟩ := hs.obj _ _ hl
  rw [ho] at ho'
  cases ho'
  simp only [ObSat] at hos
  exact ⟨hg0, b, c, hl, hos.2⟩
theorem turn_sat {P : Program} {M : MM} {w : World} {H : Heap} {id B b c : Nat} {o : Obj} {q q0 : Ob} (hs : Sat P M H 0 w) (hl : M.loc id = some (some (B, b, c))) (hi : M.imm B = none) (ho : ob? H id = some q0) (hq : ∀ w', w'.heap[B]? = some o → ObSat P M w' 0 id q (some (B, b, c))) (hL : ∃ L, w.heap[B]? = some (.loop L)) :
    Sat P M (setOb H id q) 0 (w.putObj B o) ∧ Fr M M w (w.putObj B o) := by
  have hB := hs.block_lt ⟨id, b, c, hl⟩
  have hkeep : ∀ B' : Nat, B' ≠ B → (w.putObj B o).heap[B']? = w.heap[B']? := fun B' hB => World.putObj_heap_other hB
  refine ⟨⟨by rw [setOb_length]; exact hs.n, hs.out, ?_, ?_, ?_, hs.inj, fun B' t hb => by
      obtain ⟨a, f, hh⟩ := hs.ty B' t hb
      obtain ⟨L, hL⟩ := hL
      exact ⟨a, f, by rw [hkeep B' (fun e => by subst e; rw [hL] at hh; cases hh)]; exact hh⟩, hs.bty⟩, ⟨Ext.refl M, rfl, rfl, rfl, by simp, fun B' _ hno => hkeep B' (fun e => hno ⟨id, b, c, by rw [e]; exact hl⟩), fun B h => .inl h, fun B o ho => .inl ho⟩⟩
  · intro B' o' hB'
    rw [hkeep B' (fun e => by subst e; rw [hi] at hB'; cases hB')]
    exact hs.imm B' o' hB'
  · intro j l hj
    by_cases e : j = id
    · subst e
      rw [hl, Option.some.injEq] at hj
      subst hj
      exact ⟨q, ob?_setOb_same ho, hq _ (World.putObj_heap_same hB)⟩
    · obtain ⟨o', ho', hos⟩ := hs.obj j l hj
      refine ⟨o', by rw [ob?_setOb_ne e]; exact ho', ?_⟩
      cases l with
      | none => cases o' <;> simp only [ObSat] at hos ⊢ <;> first | exact hos | exact hos.elim
      | some l =>
        obtain ⟨B', b', c'⟩ := l
        exact obSat_move (Ext.refl M) rfl (hkeep B' (fun e' => e (hs.inj j id B b' c' b c (by rw [← e']; exact hj) hl))) (fun h => h) hos
  · intro j q' hq' hlj
    by_cases e : j = id
    · subst e; rw [hl] at hlj; cases hlj
    · rw [ob?_setOb_ne e] at hq'
      exact hs.idle j q' hq' hlj
theorem once_inj : ∀ {tm : List Nat} {j k t : Nat}, once tm = true → tm[j]? = some t → tm[k]? = some t → j = k
  | [], _, _, _, _, h, _ => by simp at h
  | x :: xs, 0, 0, _, _, _, _ => rfl
  | x :: xs, 0, k + 1, t, h, h1, h2 => by
    simp only [once, Bool.and_eq_true, Bool.not_eq_true'] at h
    simp at h1 h2
    subst h1
    have := List.mem_of_getElem? h2
    rw [← List.contains_iff_mem, h.1] at this
    cases this
  | x :: xs, j + 1, 0, t, h, h1, h2 => by
    simp only [once, Bool.and_eq_true, Bool.not_eq_true'] at h
    simp at h1 h2
    subst h2
    have := List.mem_of_getElem? h1
    rw [← List.contains_iff_mem, h.1] at this
    cases this
  | x :: xs, j + 1, k + 1, t, h, h1, h2 => by
    simp only [once, Bool.and_eq_true, Bool.not_eq_true'] at h
    simp at h1 h2
    rw [once_inj h.2 h1 h2]
theorem putAll_rel {M : MM} {tm : List Nat} {nt : Nat} (h1 : once tm = true) (h2 : tm.all (fun t => decide (t < nt)) = true) : ∀ {ps : List Nat} {params : List Tmp} {args : List V} {us : List Value} {regs : List V} {tmps : Array Value}, ps.map (fun j => tm[j]?) = params.map some → tmps.size = nt → RelRegs M tm regs tmps → RelVs M args us → args.length = us.length → args.length = ps.length →
    RelRegs M tm (putAll regs ps args) ((params.zip us).foldl (fun tmps (t, a) => tmps.setIfInBounds t a) tmps) ∧ ((params.zip us).foldl (fun tmps (t, a) => tmps.setIfInBounds t a) tmps).size = nt
  | [], params, args, us, regs, tmps, hp, hsz, hr, _, _, hl2 => by
    have : args = [] := List.length_eq_zero_iff.1 (by simpa using hl2)
    subst this
    have : params = [] := by
      cases params with
      | nil => rfl
      | cons a b => simp at hp
    subst this
    exact ⟨hr, hsz⟩
  | p :: ps, params, args, us, regs, tmps, hp, hsz, hr, hrel, hl1, hl2 => by
    match params, args, us, hp, hrel, hl1, hl2 with
    | t :: params, v :: args, u :: us, hp, hrel, hl1, hl2 =>
      simp only [List.map_cons, List.cons.injEq] at hp
      simp only [RelVs] at hrel
      simp only [List.zip_cons_cons, List.foldl_cons, putAll]
      refine putAll_rel h1 h2 hp.2 (by simpa using hsz) ?_ hrel.2 (by simpa using hl1) (by simpa using hl2)
      intro j t' hj
      rw [nth_put]
      by_cases e : j = p
      · subst e
        rw [hp.1, Option.some.injEq] at hj
        subst hj
        rw [if_pos rfl]
        split
        · have ht : t < tmps.size := by
            rw [hsz]
            have := List.all_eq_true.1 h2 t (List.mem_of_getElem? hp.1)
            simpa using this
          simp [Array.getD, ht]
          exact hrel.1
        · exact relV_any
      · rw [if_neg e]
        have hne : t ≠ t' := fun e' => e (by subst e'; exact once_inj h1 hj hp.1)
        have : (tmps.setIfInBounds t u).getD t' undef = tmps.getD t' undef := by
          rw [Array.getD_eq_getD_getElem?, Array.getD_eq_getD_getElem?, Array.getElem?_setIfInBounds_ne hne]
        rw [this]
        exact hr j t' hj
theorem round_ok {P : Program} {E : Env} (hE : EnvOk P E) {M : MM} {w : World} {cv : Value} {us : List Value} {id n : Nat} {args : List V} {H : Heap} {regs regs1 regs2 : List V} {ps ps1 ps2 : List Nat} {asg asg1 asg2 body body1 body2 : I} {s1 s2 : St} {ex : Ex}
    (hG : GlobOk E.glob M.imm) (hcv : RelC M (.yld id) cv) (hargs : RelVs M args us) (hlen : args.length = us.length) (hs : Sat P M H 0 w) (ho : ob? H id = some (.loop true none regs ps asg body)) (hpl : args.length = ps.length)
    (hx1 : exec E n true asg ⟨putAll regs ps args, H⟩ = some (.nrm, s1)) (ho1 : ob? s1.heap id = some (.loop true none regs1 ps1 asg1 body1))
    (hx2 : exec E n true body ⟨s1.regs, setOb s1.heap id (.loop false none regs1 ps1 asg1 body1)⟩ = some (ex, s2)) (ho2 : ob? s2.heap id = some (.loop false none regs2 ps2 asg2 body2)) :
    ∃ l f tmps asg' body', cv = .func (.yield l) #[] #[] ∧ (Instr.yield l us.toArray).run P w = .ok (.round l f tmps asg' body') w ∧
      RoundIn Fence.wide 0 P l f tmps asg' body' w fun e w' => ∃ v' M', e = .returned v' ∧ RelV M' (.c (.d (.bool (ex == .nrm)))) v' ∧ Sat P M' (setOb s2.heap id (.loop (ex == .nrm) (if ex == .nrm then none else some ex) regs2 ps2 asg2 body2)) 0 w' ∧ Fr M M' w w' := by
  simp only [RelC] at hcv
  obtain ⟨hid, l, rfl, hloc⟩ := hcv
  obtain ⟨hg0, b, c, hl, L, hL, _, him, ⟨hst, hpe⟩, tm, nt, k1, k2, k3, k4, k5, k6, k7⟩ := loop_at hs ho hloc
  have hsz : us.toArray.size = L.params.size := by
    have := congrArg List.length k3
    simp at this
    simp; omega
  have hfold : ((L.params.zip us.toArray).foldl (fun tmps (t, a) => tmps.setIfInBounds t a) L.tmps) = ((L.params.toList.zip us).foldl (fun tmps (t, a) => tmps.setIfInBounds t a) L.tmps) := by
    rw [← Array.foldl_toList]
    congr 1
    simp
  obtain ⟨hr1, hsz1⟩ := putAll_rel k5 k7 k3 k6 k4 hargs hlen hpl
  refine ⟨l, L.fn, _, L.assign, L.body, rfl, run_yield hL hsz, roundIn_of_wpIn trivial ?_⟩
  rw [hfold]
  have hst0 : StRel P tm nt M w ⟨putAll regs ps args, H⟩ { tmps := (L.params.toList.zip us).foldl (fun tmps (t, a) => tmps.setIfInBounds t a) L.tmps, defers := [] } w := ⟨M, hs, Fr.refl M w, hr1, hsz1, Marks.nil M w w⟩
  refine exec_ok hE n asg (some l) M w L.assign _ s1 .nrm _ w _ hx1 k1 hG hst0 fun a1 w1 hs1 => ?_
  obtain ⟨M1, m1, m2, m3, m4, m5⟩ := hs1
  have keep : ∀ (M' : MM) (H' : Heap) (w' : World) (rdy : Bool) (pend : Option Ex) (regs' : List V) (ps' : List Nat) (asg' body' : I), Sat P M' H' 0 w' → Fr M M' w w' → ob? H' id = some (.loop rdy pend regs' ps' asg' body') →
      M'.gen id = 0 ∧ M'.loc id = some (some (l, b, c)) ∧ LoopSat P M' w' 0 rdy pend regs' ps' asg' body' l := by
    intro M' H' w' rdy pend regs' ps' asg' body' hs' hf ho'
    have hloc' : M'.gen id = 0 → ∃ b c, M'.loc id = some (some (l, b, c)) := fun hg => ⟨b, c, hf.ext.loc id _ hid (by rw [hg, hg0]) hl⟩
    obtain ⟨g1, b', c', g2, g3⟩ := loop_at hs' ho' hloc'
    exact ⟨g1, hf.ext.loc id _ hid (by rw [g1, hg0]) hl, g3⟩
  obtain ⟨n1, n2, L1, hL1, _, him1, ⟨hst1, _⟩, r1⟩ := keep _ _ _ _ _ _ _ _ _ m1 m2 ho1
  obtain ⟨t1, t2⟩ := turn_sat (q := .loop false none regs1 ps1 asg1 body1) (o := .loop { L1 with state := .busy }) m1 n2 him1 ho1 (fun w' hw' => by
    simp only [ObSat]
    exact ⟨n1, _, hw', Nat.zero_le _, him1, rfl, r1⟩) ⟨_, hL1⟩
  refine ⟨_, run_beginRound hL1 hst1, ?_⟩
  have hst1' : StRel P tm nt M w ⟨s1.regs, setOb s1.heap id (.loop false none regs1 ps1 asg1 body1)⟩ a1 (w1.putObj l (.loop { L1 with state := .busy })) := ⟨M1, t1, m2.trans t2, m3, m4, m5.keep t2⟩
  refine exec_ok hE n body (some l) M w L.body _ s2 ex _ _ _ hx2 k2 hG hst1' fun a2 w2 hs2 => ?_
  obtain ⟨M2, p1, p2, _⟩ := hs2
  obtain ⟨v1, v2, L2, hL2, _, him2, _, r2⟩ := keep _ _ _ _ _ _ _ _ _ p1 p2 ho2
  have fin : ∀ (j : Option Code) (q : Ob), ObSat P M2 (w2.putObj l (.loop { L2 with state := if j.isNone then .ready else .done, pending := j })) 0 id q (some (l, b, c)) → q = (.loop (ex == .nrm) (if ex == .nrm then none else some ex) regs2 ps2 asg2 body2) → j.isNone = (ex == .nrm) →
      ∃ v w', (Instr.endRound l j).run P w2 = .ok v w' ∧ ∃ v' M', Ending.returned v = .returned v' ∧ RelV M' (.c (.d (.bool (ex == .nrm)))) v' ∧ Sat P M' (setOb s2.heap id (.loop (ex == .nrm) (if ex == .nrm then none else some ex) regs2 ps2 asg2 body2)) 0 w' ∧ Fr M M' w w' := by
    intro j q hq hq' hj
    obtain ⟨y1, y2⟩ := turn_sat (q := q) (o := .loop { L2 with state := if j.isNone then .ready else .done, pending := j }) p1 v2 him2 ho2 (fun w' hw' => by
      subst hq'
      simp only [ObSat] at hq ⊢
      obtain ⟨z1, L3, z2, z3, z4, z5, z6⟩ := hq
      rw [World.putObj_heap_same (Array.getElem?_eq_some_iff.1 hL2).1] at z2
      rw [z2] at hw'
      exact ⟨z1, L3, hw', z3, z4, z5, z6⟩) ⟨_, hL2⟩
    subst hq'
    refine ⟨_, _, run_endRound j hL2, _, M2, rfl, ?_, y1, p2.trans y2⟩
    rw [relV_bool, hj]
  have lay : ∀ (j : Option Code) (rdy : Bool) (pend : Option Ex), (match rdy, pend with
        | true, none => (if j.isNone then LoopState.ready else .done) = .ready ∧ j = none
        | false, none => (if j.isNone then LoopState.ready else .done) = .busy
        | false, some e => (if j.isNone then LoopState.ready else .done) = .done ∧ j = jump e ∧ e ≠ .nrm
        | _, _ => False) → ObSat P M2 (w2.putObj l (.loop { L2 with state := if j.isNone then .ready else .done, pending := j })) 0 id (.loop rdy pend regs2 ps2 asg2 body2) (some (l, b, c)) := by
    intro j rdy pend hm
    simp only [ObSat]
    exact ⟨v1, _, World.putObj_heap_same (Array.getElem?_eq_some_iff.1 hL2).1, Nat.zero_le _, him2, hm, r2⟩
  cases ex with
  | nrm => exact fin none _ (lay none true none ⟨rfl, rfl⟩) rfl rfl
  | exit i => exact fin (some (.exit i)) _ (lay (some (.exit i)) false (some (.exit i)) ⟨rfl, rfl, by simp⟩) rfl rfl
  | ret => exact fin (some .ret) _ (lay (some .ret) false (some .ret) ⟨rfl, rfl, by simp⟩) rfl rfl
theorem callN_ok {P : Program} {X : Ctx} (hX : CtxOk P X) : ∀ (n : Nat) (c : C) (args : List V) (H : Heap) (v : V) (H' : Heap), callN X n c args H = some (v, H') → HeapCall P X.glob c args H v H'
  | 0, _, _, _, _, _, h => by simp [callN] at h
  | n + 1, c, args, H, v, H', h => by
    have hE : EnvOk P (envN X n) := by
      refine ⟨fun c args H v H' h => callN_ok hX n c args H v H' h, fun f vs r h => ?_, hX.prim⟩
      simp only [envN] at h
      split at h
      · rename_i r' hp
        cases h
        exact hX.prim f vs _ hp
      split at h <;> try (cases h; done)
      rename_i r' H1 hc
      exact ⟨callN_enters hX hc, val_of_heap (callN_ok hX n _ _ _ _ _ hc) h⟩
    intro M w cv us hG hcv hargs hlen hs
    have go : ∀ (f : FuncId) (F : Fn) (first caps : List V) (a b : Array Value), X.fns f = some F → RelVs M first a.toList → a.size = first.length → RelVs M caps b.toList → b.size = caps.length → runFn (envN X n) n F (first ++ args ++ caps) H = some (v, H') →
        Enters P f ∧ Calls P f (a ++ us.toArray ++ b) w fun e w' => ∃ v' M', e = .returned v' ∧ RelV M' v v' ∧ Sat P M' H' 0 w' ∧ Fr M M' w w' := by
      intro f F first caps a b hF h1 h2 h3 h4 hrun
      obtain ⟨hent, fn, hfn, hok⟩ := hX.fns f F hF
      refine ⟨hent, ?_⟩
      have hl1 : first.length = a.toList.length := by simp [h2]
      have hl2 : caps.length = b.toList.length := by simp [h4]
      have := runFn_ok (us := a.toList ++ us ++ b.toList) hE hfn hok hrun hG hs (RelVs.append (RelVs.append h1 hl1 hargs) (by simp only [List.length_append]; omega) h3) (by simp only [List.length_append]; omega)
      have e : (a.toList ++ us ++ b.toList).toArray = a ++ us.toArray ++ b := by apply Array.ext'; simp
      rw [e] at this
      exact this
    have hpr : ∀ (f : FuncId) (first caps : List V) (a b : Array Value), RelVs M first a.toList → a.size = first.length → RelVs M caps b.toList → b.size = caps.length → X.hprim f (first ++ args ++ caps) H = some (v, H') →
        Enters P f ∧ Calls P f (a ++ us.toArray ++ b) w fun e w' => ∃ v' M', e = .returned v' ∧ RelV M' v v' ∧ Sat P M' H' 0 w' ∧ Fr M M' w w' := by
      intro f first caps a b h1 h2 h3 h4 hrun
      obtain ⟨hent, hp⟩ := hX.hprim _ _ _ _ _ hrun
      refine ⟨hent, ?_⟩
      have hl1 : first.length = a.toList.length := by simp [h2]
      have hl2 : caps.length = b.toList.length := by simp [h4]
      have := hp M w (a.toList ++ us ++ b.toList) hG (RelVs.append (RelVs.append h1 hl1 hargs) (by simp only [List.length_append]; omega) h3) (by simp only [List.length_append]; omega) hs
      have e : (a.toList ++ us ++ b.toList).toArray = a ++ us.toArray ++ b := by apply Array.ext'; simp
      rw [e] at this
      exact this
    simp only [callN] at h
    split at h
    · rename_i f first caps
      simp only [RelC, RelD] at hcv
      obtain ⟨a, b, rfl, r1, r2, r3, r4⟩ := hcv
      have q1 : RelVs M (first.map fun x => V.c (.d x)) a.toList := by
        have := RelVs.of_cs (RelCs.of_d.2 r1 : RelCs M (first.map .d) a.toList)
        rw [List.map_map] at this
        exact this
      have q2 : RelVs M (caps.map fun x => V.c (.d x)) b.toList := by
        have := RelVs.of_cs (RelCs.of_d.2 r3 : RelCs M (caps.map .d) b.toList)
        rw [List.map_map] at this
        exact this
      split at h
      · rename_i F hF
        obtain ⟨k1, k2⟩ := go f F _ _ a b hF q1 (by simp [r2]) q2 (by simp [r4]) h
        exact .inl ⟨f, a, b, rfl, k1, k2⟩
      · obtain ⟨k1, k2⟩ := hpr f _ _ a b q1 (by simp [r2]) q2 (by simp [r4]) h
        exact .inl ⟨f, a, b, rfl, k1, k2⟩
    · rename_i f first caps
      simp only [RelC] at hcv
      obtain ⟨a, b, rfl, r1, r2, r3, r4⟩ := hcv
      split at h
      · rename_i F hF
        obtain ⟨k1, k2⟩ := go f F _ _ a b hF (RelVs.of_cs r1) (by simp [r2]) (RelVs.of_cs r3) (by simp [r4]) h
        exact .inl ⟨f, a, b, rfl, k1, k2⟩
      · obtain ⟨k1, k2⟩ := hpr f _ _ a b (RelVs.of_cs r1) (by simp [r2]) (RelVs.of_cs r3) (by simp [r4]) h
        exact .inl ⟨f, a, b, rfl, k1, k2⟩
    · rename_i id
      split at h <;> try (cases h; done)
      rename_i regs ps asg body ho
      split at h <;> try (cases h; done)
      rename_i hpl
      split at h <;> try (cases h; done)
      rename_i s1 hx1
      split at h <;> try (cases h; done)
      rename_i regs1 ps1 asg1 body1 ho1
      split at h <;> try (cases h; done)
      rename_i ex s2 hx2
      split at h <;> try (cases h; done)
      rename_i regs2 ps2 asg2 body2 ho2
      simp only [Option.some.injEq, Prod.mk.injEq] at h
      obtain ⟨rfl, rfl⟩ := h
      exact .inr (round_ok hE hG hcv hargs hlen hs ho hpl hx1 ho1 hx2 ho2)
    · cases h
theorem vcallN_ok {P : Program} {X : Ctx} (hX : CtxOk P X) {n : Nat} {f : FuncId} {vs : List V} {r : V} (h : vcallN X n f vs = some r) : ValCall P X.glob f vs r := by
  unfold vcallN at h
  split at h <;> try (cases h; done)
  rename_i r' H' hc
  exact val_of_heap (callN_ok hX n _ _ _ _ _ hc) h
end Mini
end Go.Proofs.YtgjlofpfbhioaaaGreatDoor
