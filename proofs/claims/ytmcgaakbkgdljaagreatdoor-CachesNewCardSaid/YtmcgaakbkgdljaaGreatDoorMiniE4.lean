/-
  The quiet operations, on: those that look at places and at memory.
-/
import Derived.Test.YtmcgaakbkgdljaaGreatDoorMiniE3
namespace Go.Proofs.YtmcgaakbkgdljaaGreatDoor
namespace Mini
open Go

section
variable {P : Program} {M : MM} {w : World} {k : K} {o : Oper} {lk : A → V} {ρ : Operand → Value} {Hi H : Heap} {base : Nat}

theorem add_at (B o j : Nat) : (⟨B, o, none⟩ : Addr).add j = ⟨B, o + j, none⟩ := by unfold Addr.add; split <;> simp_all

/-- The generation of an object that a reference of that generation names. -/
theorem gen_of (hs : Sat P M H base w) (hsub : Sub Hi H) {id g : Nat} {cs : List C} {fz : Bool} (ho : ob? Hi id = some (.cells cs g fz)) (hg : g ≤ M.gen id) (hp : M.gen id = g → M.loc id ≠ none) :
    M.gen id = g ∧ ∃ l fz', M.loc id = some l ∧ ObSat P M w base id (.cells cs g fz') l := by
  obtain ⟨o', h1, h2⟩ := hsub id _ ho
  cases o' with
  | cells cs' g' fz' =>
    simp only [Same] at h2
    obtain ⟨rfl, rfl⟩ := h2
    cases hl : M.loc id with
    | none =>
      rcases hs.idle id _ h1 hl with h3 | h3
      · cases h3
      · have : M.gen id = g := by omega
        exact absurd hl (hp this)
    | some l =>
      obtain ⟨o'', h3, h4⟩ := hs.obj id l hl
      rw [h1] at h3
      cases h3
      have hgen : M.gen id = g := by
        cases l with
        | none => simp only [ObSat] at h4; exact h4.2
        | some l => obtain ⟨B, b, c⟩ := l; simp only [ObSat] at h4; exact h4.1
      exact ⟨hgen, l, fz', rfl, h4⟩
  | _ => simp [Same] at h2

theorem live_ptr (hs : Sat P M H base w) (hsub : Sub Hi H) {id g off : Nat} {cs : List C} {fz : Bool} {v : Value} (ho : ob? Hi id = some (.cells cs g fz)) (r : RelC M (.ptr id g off) v) :
    ∃ B b0 bs fz', M.loc id = some (some (B, b0, bs)) ∧ v = .pointer (some ⟨B, b0 + off, none⟩) ∧ RowSat M w base cs fz' B b0 bs := by
  simp only [RelC] at r
  obtain ⟨_, h2, _, h4⟩ := r
  obtain ⟨hg, l, fz', hl, hos⟩ := gen_of hs hsub ho h2 (fun he hn => by have := h4 he; rw [hn] at this; exact this.elim)
  have h5 := h4 hg
  rw [hl] at h5
  cases l with
  | none => exact h5.elim
  | some l =>
    obtain ⟨B, b0, bs⟩ := l
    simp only [ObSat] at hos
    exact ⟨B, b0, bs, fz', hl, h5, hos.2⟩

theorem live_os (hs : Sat P M H base w) (hsub : Sub Hi H) {id g off len sz : Nat} {cap : Option Nat} {cs : List C} {fz : Bool} {v : Value} (ho : ob? Hi id = some (.cells cs g fz)) (r : RelC M (.os id g off len sz cap) v) :
    ∃ a c, v = .slice a len c ∧ len ≤ c ∧ (∀ k, cap = some k → c = k) ∧ ((M.loc id = some none ∧ a = none ∧ c = 0 ∧ cs = []) ∨
      ∃ B b0 bs fz', M.loc id = some (some (B, b0, bs)) ∧ (c = 0 ∨ a = some ⟨B, b0 + off, none⟩) ∧ b0 + off + c * sz ≤ bs ∧ RowSat M w base cs fz' B b0 bs) := by
  simp only [RelC] at r
  obtain ⟨_, h2, a, c, rfl, h5, _, h6, h4⟩ := r
  obtain ⟨hg, l, fz', hl, hos⟩ := gen_of hs hsub ho h2 (fun he hn => by have := h4 he; rw [hn] at this; exact this.elim)
  have h7 := h4 hg
  rw [hl] at h7
  refine ⟨a, c, rfl, h5, h6, ?_⟩
  cases l with
  | none => simp only [ObSat] at hos; exact .inl ⟨hl, h7.1, h7.2, hos.1⟩
  | some l =>
    obtain ⟨B, b0, bs⟩ := l
    simp only [ObSat] at hos
    exact .inr ⟨B, b0, bs, fz', hl, h7.1, h7.2, hos.2⟩

/-- The cells of a row, read. -/
theorem run_row {B b0 n : Nat} {arr : Array Value} {T : TypeId} {fr : Nat × Nat} (hb : w.heap[B]? = some (.cells arr T fr)) (hn : b0 + n ≤ arr.size) :
    (loadCells ⟨B, b0, none⟩ n).run P w = .ok ((arr.toList.drop b0).take n).toArray w := by
  have := run_loadCells_list (P := P) w ⟨B, b0, none⟩ ((arr.toList.drop b0).take n) (fun j v hv => by
    rw [add_at]
    rw [List.getElem?_take] at hv
    split at hv
    · rw [List.getElem?_drop] at hv
      simp only [World.cell?, hb, Option.isSome_none, Bool.false_eq_true, if_false]
      simpa using hv
    · cases hv)
  rwa [show ((arr.toList.drop b0).take n).length = n by simp; omega] at this
theorem run_loadVar_row {t : TypeId} {g : Bool} {n B b0 : Nat} {arr : Array Value} {T : TypeId} {fr : Nat × Nat} (ha : agg? P t = some g) (hs : size? P t = some n) (hb : w.heap[B]? = some (.cells arr T fr)) (hn : b0 + n ≤ arr.size)
    {cs : List C} {v : V} (hc : RelCs M cs (arr.toList.drop b0)) (hv : ofCells g n (cs.take n) = some v) : ∃ v', (loadVar t ⟨B, b0, none⟩).run P w = .ok v' w ∧ RelV M v v' := by
  unfold loadVar
  rw [Sem.run_bind, run_isAgg ha]
  simp only [Result.andThen_ok]
  unfold ofCells at hv
  split at hv <;> try (cases hv; done)
  rename_i hl
  cases g with
  | true =>
    simp only [if_true, Option.some.injEq] at hv ⊢
    subst hv
    refine ⟨.agg ((arr.toList.drop b0).take n).toArray, ?_, ?_⟩
    · simp only [Sem.run_bind, run_sizeOf hs, Result.andThen_ok, run_row hb hn, Sem.run_pure]
    · rw [relV_agg]
      exact ⟨_, rfl, by simp at hl ⊢; omega, by simpa using hc.take' n⟩
  | false =>
    simp only [Bool.false_eq_true, if_false] at hv ⊢
    split at hv <;> try (cases hv; done)
    rename_i x hx
    simp only [Option.some.injEq] at hv
    subst hv
    have h0 : cs[0]? = some x := by
      have : (cs.take n)[0]? = some x := by rw [hx]; rfl
      rw [List.getElem?_take] at this
      split at this
      · exact this
      · cases this
    obtain ⟨u, hu, hr⟩ := hc.getElem h0
    rw [List.getElem?_drop] at hu
    refine ⟨u, ?_, by rw [relV_c]; exact hr⟩
    have hcell : w.cell? ⟨B, b0, none⟩ = some u := by
      simp only [World.cell?, hb, Option.isSome_none, Bool.false_eq_true, if_false]
      simpa using hu
    simp [hcell]

theorem ofCells_len {g : Bool} {n : Nat} {cs : List C} {v : V} (h : ofCells g n (cs.take n) = some v) : n ≤ cs.length := by
  unfold ofCells at h
  split at h
  · rename_i hl; simp at hl; omega
  · cases h

theorem relDs_map {I : Imm} {M : MM} (hI : M.imm = I) {ds : List D} {vs : List Value} (h : RelDs I ds vs) : RelCs M (ds.map .d) vs := by
  subst hI; exact RelCs.of_d.2 h

theorem q_ld {g : Bool} {m : Nat} {a : A} {v : V} {n : List Ob} (hs : Sat P M H base w) (hsub : ∀ id gen off, lk a = .c (.ptr id gen off) → ∀ o, ob? Hi id = some o → ∃ o', ob? H id = some o' ∧ Same o o')
    (hA : ∀ x a, okA k x a = true → RelV M (lk a) (ρ x)) (hok : okOp P k o (.ld g m a) = true) (h : stepP lk Hi (.ld g m a) = some (v, n)) : Quiet P M w (execOp ρ o) v := by
  cases hop : o.op <;> simp only [okOp, hop] at hok <;> try (cases hok; done)
  rename_i t x
  simp only [Bool.and_eq_true, beq_iff_eq, decide_eq_true_eq] at hok
  obtain ⟨⟨⟨h1, h2⟩, h3⟩, hm⟩ := hok
  have r1 := hA _ _ h3
  refine quiet_of' (by simp only [execOp, hop]; rfl) ?_
  simp only [stepP] at h
  split at h <;> try (cases h; done)
  · rename_i id gen off hx
    have hsub' := hsub id gen off hx
    split at h <;> try (cases h; done)
    rename_i cs g' fz ho
    split at h <;> try (cases h; done)
    rename_i hg
    subst hg
    cases hv : ofCells g m (List.take m (List.drop off cs)) with
    | none => rw [hv] at h; cases h
    | some u =>
      rw [hv] at h
      simp only [Option.map_some, Option.some.injEq, Prod.mk.injEq] at h
      obtain ⟨rfl, rfl⟩ := h
      rw [hx, relV_c] at r1
      obtain ⟨o', ho', hsame⟩ := hsub' _ ho
      cases o' with
      | cells cs' g'' fz' =>
        simp only [Same] at hsame
        obtain ⟨rfl, rfl⟩ := hsame
        obtain ⟨B, b0, bs, fz', hl, hv', arr, T, fr, e1, e2, e3, e4, _⟩ := live_ptr hs (Sub.refl H) ho' r1
        rw [hv']
        unfold Instr.loadAt
        simp only [Sem.run_bind, Instr.sureAddr, Sem.run_pure, Result.andThen_ok]
        have hlen : m ≤ (cs.drop off).length := ofCells_len hv
        have hd := e4.drop off
        rw [List.drop_drop] at hd
        exact run_loadVar_row h1 h2 e1 (by simp at hlen; omega) hd hv
      | _ => simp [Same] at hsame
  · rename_i cs hx
    cases hv : ofCells g m (List.map C.d (List.take m cs)) with
    | none => rw [hv] at h; cases h
    | some u =>
      rw [hv] at h
      simp only [Option.map_some, Option.some.injEq, Prod.mk.injEq] at h
      obtain ⟨rfl, rfl⟩ := h
      rw [hx, relV_d] at r1
      simp only [RelD] at r1
      obtain ⟨B, oo, arr, T, fr, hv', hB, hr⟩ := r1
      rw [hv']
      unfold Instr.loadAt
      simp only [Sem.run_bind, Instr.sureAddr, Sem.run_pure, Result.andThen_ok]
      have hv2 : ofCells g m ((cs.map C.d).take m) = some u := by rw [← List.map_take]; exact hv
      have hlen := ofCells_len hv2
      have hlen2 := hr.length
      simp at hlen hlen2
      exact run_loadVar_row h1 h2 (hs.imm _ _ hB) (by omega) (RelCs.of_d.2 hr) hv2

/-- A place further on. -/
theorem relC_ptr_add {id g off j : Nat} {v : Value} (r : RelC M (.ptr id g off) v) : ∃ B x, v = .pointer (some ⟨B, x, none⟩) ∧ RelC M (.ptr id g (off + j)) (.pointer (some ⟨B, x + j, none⟩)) := by
  simp only [RelC] at r ⊢
  obtain ⟨h1, h2, ⟨B, x, rfl⟩, h4⟩ := r
  refine ⟨B, x, rfl, h1, h2, ⟨B, x + j, rfl⟩, fun he => ?_⟩
  have h5 := h4 he
  cases hl : M.loc id with
  | none => rw [hl] at h5; exact h5.elim
  | some l =>
    rw [hl] at h5
    cases l with
    | none => exact h5.elim
    | some l =>
      obtain ⟨B', b0, bs⟩ := l
      simp only [PtrAt, Value.pointer.injEq, Option.some.injEq, Addr.mk.injEq, and_true] at h5 ⊢
      obtain ⟨rfl, rfl⟩ := h5
      exact ⟨rfl, by omega⟩
theorem relD_ip_drop {I : Imm} {cs : List D} {j : Nat} {v : Value} (r : RelD I (.ip cs) v) : ∃ B x, v = .pointer (some ⟨B, x, none⟩) ∧ RelD I (.ip (cs.drop j)) (.pointer (some ⟨B, x + j, none⟩)) := by
  simp only [RelD] at r ⊢
  obtain ⟨B, oo, arr, T, fr, rfl, hB, hr⟩ := r
  refine ⟨B, oo, rfl, B, oo + j, arr, T, fr, rfl, hB, ?_⟩
  have := hr.drop j
  rwa [List.drop_drop] at this

theorem q_fa {off : Nat} {a : A} {v : V} {n : List Ob} (hA : ∀ x a, okA k x a = true → RelV M (lk a) (ρ x)) (hok : okOp P k o (.fa off a) = true) (h : stepP lk Hi (.fa off a) = some (v, n)) : Quiet P M w (execOp ρ o) v := by
  cases hop : o.op <;> simp only [okOp, hop] at hok <;> try (cases hok; done)
  rename_i t x f
  simp only [Bool.and_eq_true] at hok
  obtain ⟨h1, h2⟩ := hok
  have r1 := hA _ _ h2
  refine quiet_of' (by simp only [execOp, hop]; rfl) ?_
  split at h1 <;> try (cases h1; done)
  rename_i fs hu
  split at h1 <;> try (cases h1; done)
  rename_i fd hf
  simp only [Bool.and_eq_true, beq_iff_eq] at h1
  obtain ⟨rfl, h3⟩ := h1
  split at h3 <;> try (cases h3; done)
  rename_i m hsz
  have hm : m ≠ 0 := by simpa using h3
  have run : ∀ B x, (Instr.fieldAt t (.pointer (some ⟨B, x, none⟩)) f).run P w = .ok (.pointer (some ⟨B, x + fd.offset, none⟩)) w := by
    intro B x
    simp [Instr.fieldAt, run_underlying hu, hf, Instr.sureAddr, fieldPlace, run_sizeOf hsz, hm, add_at]
  simp only [stepP] at h
  split at h <;> try (cases h; done)
  · rename_i id g oo hx
    simp only [Option.some.injEq, Prod.mk.injEq] at h
    obtain ⟨rfl, rfl⟩ := h
    rw [hx, relV_c] at r1
    obtain ⟨B, x, hv, hr⟩ := relC_ptr_add (j := fd.offset) r1
    exact ⟨_, by rw [hv]; exact run B x, by rw [relV_c]; exact hr⟩
  · rename_i cs hx
    split at h <;> try (cases h; done)
    simp only [Option.some.injEq, Prod.mk.injEq] at h
    obtain ⟨rfl, rfl⟩ := h
    rw [hx, relV_d] at r1
    obtain ⟨B, x, hv, hr⟩ := relD_ip_drop (j := fd.offset) r1
    exact ⟨_, by rw [hv]; exact run B x, by rw [relV_d]; exact hr⟩

theorem part_rel {t : TypeId} {g : Bool} {off m : Nat} {arr : Array Value} {cs : List C} {v : V} (ha : agg? P t = some g) (hsz : size? P t = some m) (hr : RelCs M cs arr.toList) (hv : ofCells g m ((cs.drop off).take m) = some v) (hm : 0 < m) :
    ∃ v', (part t arr off).run P w = .ok v' w ∧ RelV M v v' := by
  have hlen := ofCells_len hv
  have hl2 := hr.length
  simp at hlen hl2
  cases g with
  | true =>
    unfold ofCells at hv
    split at hv <;> try (cases hv; done)
    simp only [if_true, Option.some.injEq] at hv
    subst hv
    refine ⟨_, part_agg ha hsz, ?_⟩
    rw [relV_agg]
    refine ⟨_, rfl, by simp; omega, ?_⟩
    have := (hr.drop off).take' m
    simpa [Array.toList_extract, List.extract_eq_take_drop] using this
  | false =>
    unfold ofCells at hv
    split at hv <;> try (cases hv; done)
    simp only [Bool.false_eq_true, if_false] at hv
    split at hv <;> try (cases hv; done)
    rename_i x hx
    simp only [Option.some.injEq] at hv
    subst hv
    have h0 : cs[off]? = some x := by
      have : ((cs.drop off).take m)[0]? = some x := by rw [hx]; rfl
      rw [List.getElem?_take] at this
      split at this
      · rw [List.getElem?_drop] at this; simpa using this
      · omega
    obtain ⟨u, hu, hr'⟩ := hr.getElem h0
    exact ⟨u, part_cell ha (by simpa using hu), by rw [relV_c]; exact hr'⟩

theorem q_fld {g : Bool} {off m : Nat} {a : A} {v : V} {n : List Ob} (hA : ∀ x a, okA k x a = true → RelV M (lk a) (ρ x)) (hok : okOp P k o (.fld g off m a) = true) (h : stepP lk Hi (.fld g off m a) = some (v, n)) : Quiet P M w (execOp ρ o) v := by
  cases hop : o.op <;> simp only [okOp, hop] at hok <;> try (cases hok; done)
  rename_i t x f
  simp only [Bool.and_eq_true, decide_eq_true_eq] at hok
  obtain ⟨⟨h1, h2⟩, hm⟩ := hok
  have r1 := hA _ _ h2
  refine quiet_of' (by simp only [execOp, hop]; rfl) ?_
  split at h1 <;> try (cases h1; done)
  rename_i fs hu
  split at h1 <;> try (cases h1; done)
  rename_i fd hf
  simp only [Bool.and_eq_true, beq_iff_eq] at h1
  obtain ⟨⟨rfl, h3⟩, h4⟩ := h1
  simp only [stepP] at h
  split at h <;> try (cases h; done)
  rename_i cs hx
  cases hv : ofCells g m (List.take m (List.drop fd.offset cs)) with
  | none => rw [hv] at h; cases h
  | some u =>
    rw [hv] at h
    simp only [Option.map_some, Option.some.injEq, Prod.mk.injEq] at h
    obtain ⟨rfl, rfl⟩ := h
    rw [hx, relV_agg] at r1
    obtain ⟨arr, e1, _, hr⟩ := r1
    obtain ⟨v', h5, h6⟩ := part_rel (P := P) (w := w) h4 h3 hr hv hm
    exact ⟨v', by rw [e1]; simp [Instr.field, run_underlying hu, hf, asAgg, h5], h6⟩

theorem q_ixg {g : Bool} {len sz : Nat} {a i : A} {v : V} {n : List Ob} (hA : ∀ x a, okA k x a = true → RelV M (lk a) (ρ x)) (hok : okOp P k o (.ixg g len sz a i) = true) (h : stepP lk Hi (.ixg g len sz a i) = some (v, n)) : Quiet P M w (execOp ρ o) v := by
  cases hop : o.op <;> simp only [okOp, hop] at hok <;> try (cases hok; done)
  rename_i t x ix
  simp only [Bool.and_eq_true, decide_eq_true_eq] at hok
  obtain ⟨⟨⟨h1, h2⟩, h2'⟩, hm⟩ := hok
  have r1 := hA _ _ h2
  have r2 := hA _ _ h2'
  refine quiet_of' (by simp only [execOp, hop]; rfl) ?_
  split at h1 <;> try (cases h1; done)
  rename_i n' elem hu
  simp only [Bool.and_eq_true, beq_iff_eq] at h1
  obtain ⟨⟨rfl, h3⟩, h4⟩ := h1
  simp only [stepP] at h
  split at h <;> try (cases h; done)
  rename_i cs j hx hj
  split at h <;> try (cases h; done)
  rename_i hlt
  cases hv : ofCells g sz (List.take sz (List.drop (j * sz) cs)) with
  | none => rw [hv] at h; cases h
  | some u =>
    rw [hv] at h
    simp only [Option.map_some, Option.some.injEq, Prod.mk.injEq] at h
    obtain ⟨rfl, rfl⟩ := h
    rw [hx, relV_agg] at r1
    obtain ⟨arr, e1, _, hr⟩ := r1
    obtain ⟨kd, e2⟩ := asNat_rel hj r2
    obtain ⟨v', h5, h6⟩ := part_rel (P := P) (w := w) h4 h3 hr hv hm
    refine ⟨v', ?_, h6⟩
    rw [e1, e2]
    have hc : (0 : Int) ≤ (j : Int) ∧ (j : Int) < (n' : Int) := by omega
    unfold Instr.index
    simp only [asIntOf, Sem.run_bind, Sem.run_pure, Result.andThen_ok, run_underlying hu, Sem.run_ite, if_pos hc, run_sizeOf h3, Int.toNat_natCast, h5]

theorem q_ixp {len sz : Nat} {a i : A} {v : V} {n : List Ob} (hA : ∀ x a, okA k x a = true → RelV M (lk a) (ρ x)) (hok : okOp P k o (.ixp len sz a i) = true) (h : stepP lk Hi (.ixp len sz a i) = some (v, n)) : Quiet P M w (execOp ρ o) v := by
  cases hop : o.op <;> simp only [okOp, hop] at hok <;> try (cases hok; done)
  rename_i t x ix
  simp only [Bool.and_eq_true] at hok
  obtain ⟨⟨h1, h2⟩, h2'⟩ := hok
  have r1 := hA _ _ h2
  have r2 := hA _ _ h2'
  refine quiet_of' (by simp only [execOp, hop]; rfl) ?_
  split at h1 <;> try (cases h1; done)
  rename_i n' elem hu
  simp only [Bool.and_eq_true, beq_iff_eq] at h1
  obtain ⟨rfl, h3⟩ := h1
  simp only [stepP] at h
  split at h <;> try (cases h; done)
  rename_i j hj
  split at h <;> try (cases h; done)
  rename_i hlt
  obtain ⟨kd, e2⟩ := asNat_rel hj r2
  have hc : (0 : Int) ≤ (j : Int) ∧ (j : Int) < (n' : Int) := by omega
  have run : ∀ B x, (Instr.indexAt t (.pointer (some ⟨B, x, none⟩)) (.int kd j)).run P w = .ok (.pointer (some ⟨B, x + j * sz, none⟩)) w := by
    intro B x
    unfold Instr.indexAt
    simp only [asIntOf, Sem.run_bind, Sem.run_pure, Result.andThen_ok, run_underlying hu, Instr.sureAddr, Sem.run_ite, if_pos hc, run_sizeOf h3, Int.toNat_natCast, add_at]
  split at h <;> try (cases h; done)
  · rename_i id g oo hx
    simp only [Option.some.injEq, Prod.mk.injEq] at h
    obtain ⟨rfl, rfl⟩ := h
    rw [hx, relV_c] at r1
    obtain ⟨B, x, hv, hr⟩ := relC_ptr_add (j := j * sz) r1
    exact ⟨_, by rw [hv, e2]; exact run B x, by rw [relV_c]; exact hr⟩
  · rename_i cs hx
    split at h <;> try (cases h; done)
    simp only [Option.some.injEq, Prod.mk.injEq] at h
    obtain ⟨rfl, rfl⟩ := h
    rw [hx, relV_d] at r1
    obtain ⟨B, x, hv, hr⟩ := relD_ip_drop (j := j * sz) r1
    exact ⟨_, by rw [hv, e2]; exact run B x, by rw [relV_d]; exact hr⟩

/-- A slice's first place, and places from there. -/
theorem relC_os_at {id g off len sz j : Nat} {cap : Option Nat} {v : Value} (r : RelC M (.os id g off len sz cap) v) (hj : j < len) : ∃ B x c, v = .slice (some ⟨B, x, none⟩) len c ∧ RelC M (.ptr id g (off + j * sz)) (.pointer (some ⟨B, x + j * sz, none⟩)) := by
  simp only [RelC] at r ⊢
  obtain ⟨h1, h2, a, c, rfl, h4, h5, h6, h7⟩ := r
  rcases h5 with h5 | ⟨B, x, rfl⟩
  · omega
  refine ⟨B, x, c, rfl, h1, h2, ⟨_, _, rfl⟩, fun he => ?_⟩
  have h8 := h7 he
  cases hl : M.loc id with
  | none => rw [hl] at h8; exact h8.elim
  | some l =>
    rw [hl] at h8
    cases l with
    | none => simp [OsAt] at h8
    | some l =>
      obtain ⟨B', b0, bs⟩ := l
      simp only [OsAt, Option.some.injEq, Addr.mk.injEq, and_true] at h8
      rcases h8.1 with h9 | ⟨rfl, rfl⟩
      · omega
      · simp only [PtrAt, Value.pointer.injEq, Option.some.injEq, Addr.mk.injEq, and_true, true_and]
        omega

theorem q_ixa {sz : Nat} {a i : A} {v : V} {n : List Ob} (hA : ∀ x a, okA k x a = true → RelV M (lk a) (ρ x)) (hok : okOp P k o (.ixa sz a i) = true) (h : stepP lk Hi (.ixa sz a i) = some (v, n)) : Quiet P M w (execOp ρ o) v := by
  cases hop : o.op <;> simp only [okOp, hop] at hok <;> try (cases hok; done)
  rename_i t x ix
  simp only [Bool.and_eq_true] at hok
  obtain ⟨⟨h1, h2⟩, h2'⟩ := hok
  have r1 := hA _ _ h2
  have r2 := hA _ _ h2'
  refine quiet_of' (by simp only [execOp, hop]; rfl) ?_
  split at h1 <;> try (cases h1; done)
  rename_i elem hu
  simp only [beq_iff_eq] at h1
  simp only [stepP] at h
  split at h <;> try (cases h; done)
  rename_i j hj
  obtain ⟨kd, e2⟩ := asNat_rel hj r2
  have run : ∀ B x len c, j < len → (Instr.indexAt t (.slice (some ⟨B, x, none⟩) len c) (.int kd j)).run P w = .ok (.pointer (some ⟨B, x + j * sz, none⟩)) w := by
    intro B x len c hlt
    have hc : (0 : Int) ≤ (j : Int) ∧ (j : Int) < (len : Int) := by omega
    unfold Instr.indexAt
    simp only [asIntOf, Sem.run_bind, Sem.run_pure, Result.andThen_ok, run_underlying hu, Sem.run_ite, if_pos hc, run_sizeOf h1, Int.toNat_natCast, add_at]
  split at h <;> try (cases h; done)
  · rename_i cs len hx
    split at h <;> try (cases h; done)
    rename_i hlt
    simp only [Option.some.injEq, Prod.mk.injEq] at h
    obtain ⟨rfl, rfl⟩ := h
    rw [hx, relV_d] at r1
    simp only [RelD] at r1
    obtain ⟨ad, c, hv, hle, hr⟩ := r1
    rcases hr with hr | ⟨B, oo, arr, T, fr, rfl, hB, hr⟩
    · subst hr; simp at hlt
    · refine ⟨_, by rw [hv, e2]; exact run B oo len c hlt.1, ?_⟩
      rw [relV_d]
      simp only [RelD]
      refine ⟨B, oo + j * sz, arr, T, fr, rfl, hB, ?_⟩
      have := hr.drop (j * sz)
      rwa [List.drop_drop] at this
  · rename_i id g off len sz' cap hx
    split at h <;> try (cases h; done)
    rename_i hlt
    simp only [Option.some.injEq, Prod.mk.injEq] at h
    obtain ⟨rfl, rfl⟩ := h
    obtain ⟨rfl, hlt⟩ := hlt
    rw [hx, relV_c] at r1
    obtain ⟨B, x, c, hv, hr⟩ := relC_os_at r1 hlt
    exact ⟨_, by rw [hv, e2]; exact run B x len c hlt, by rw [relV_c]; exact hr⟩

theorem q_ixs {a i : A} {v : V} {n : List Ob} (hA : ∀ x a, okA k x a = true → RelV M (lk a) (ρ x)) (hok : okOp P k o (.ixs a i) = true) (h : stepP lk Hi (.ixs a i) = some (v, n)) : Quiet P M w (execOp ρ o) v := by
  cases hop : o.op <;> simp only [okOp, hop] at hok <;> try (cases hok; done)
  rename_i t x ix
  simp only [Bool.and_eq_true] at hok
  obtain ⟨⟨h1, h2⟩, h2'⟩ := hok
  have r1 := hA _ _ h2
  have r2 := hA _ _ h2'
  split at h1 <;> try (cases h1; done)
  rename_i hu
  simp only [stepP] at h
  split at h <;> try (cases h; done)
  rename_i s j hx hj
  split at h <;> try (cases h; done)
  rename_i b hb
  simp only [Option.some.injEq, Prod.mk.injEq] at h
  obtain ⟨rfl, rfl⟩ := h
  obtain ⟨kd, e2⟩ := asNat_rel hj r2
  rw [hx, relV_str] at r1
  obtain ⟨bs, e1, rfl⟩ := r1
  rw [List.getElem?_map] at hb
  cases hc : bs.data.toList[j]? with
  | none => rw [hc] at hb; cases hb
  | some u =>
    rw [hc] at hb
    simp only [Option.map_some, Option.some.injEq] at hb
    subst hb
    refine quiet_of (v' := .int .u8 (Int.ofNat u.toNat)) (by simp only [execOp, hop]; rfl) ?_ (by rw [relV_int])
    have hg : bs[j]? = some u := by
      have : bs.data[j]? = some u := by simpa using hc
      have hlt : j < bs.data.size := (Array.getElem?_eq_some_iff.1 this).1
      rw [getElem?_pos bs j hlt]
      have h3 := (Array.getElem?_eq_some_iff.1 this).2
      exact congrArg some h3
    rw [e1, e2]
    simp [Instr.index, asIntOf, run_underlying hu, hg]
end
end Mini
end Go.Proofs.YtmcgaakbkgdljaaGreatDoor
