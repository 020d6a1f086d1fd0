/-
  The quiet operations, on: slices of strings and of slices, lengths, bytes, aggregates.
-/
import Derived.Test.YtmcgaakbkgdljaaGreatDoorMiniE4
namespace Go.Proofs.YtmcgaakbkgdljaaGreatDoor
namespace Mini
open Go

section
variable {P : Program} {M : MM} {w : World} {k : K} {o : Oper} {lk : A → V} {ρ : Operand → Value} {Hi H : Heap} {base : Nat}

/-- An operand that may be left out. -/
theorem optNat_rel {d n : Nat} {x : Option Operand} {a : Option A} (hA : ∀ x a, okA k x a = true → RelV M (lk a) (ρ x)) (hok : okO k x a = true) (h : optNat d (a.map lk) = some n) :
    (x = none ∧ a = none ∧ n = d) ∨ ∃ y kd, x = some y ∧ a.isSome = true ∧ ρ y = .int kd (n : Int) := by
  cases x with
  | none =>
    cases a with
    | none => simp only [optNat, Option.map_none, Option.some.injEq] at h; exact .inl ⟨rfl, rfl, h.symm⟩
    | some a => simp [okO] at hok
  | some y =>
    cases a with
    | none => simp [okO] at hok
    | some a =>
      simp only [okO] at hok
      simp only [Option.map_some, optNat] at h
      obtain ⟨kd, hk⟩ := asNat_rel h (hA _ _ hok)
      exact .inr ⟨y, kd, rfl, rfl, hk⟩

theorem run_sliceBound {kd : IntKind} {i y : Nat} {c : BoundsCode} (h : i ≤ y) : (Instr.sliceBound (.int kd (i : Int)) y c).run P w = .ok i w := by
  unfold Instr.sliceBound
  have hc : (0 : Int) ≤ (i : Int) ∧ (i : Int) ≤ (y : Int) := by omega
  simp only [asIntOf, Sem.run_bind, Sem.run_pure, Result.andThen_ok, Sem.run_ite, if_pos hc, Int.toNat_natCast]

/-- The bounds of a slice expression. -/
theorem run_sliceBounds {isS : Bool} {len cap l h m : Nat} {lo hi mx : Option Operand} {lo' hi' mx' : Option A} (hA : ∀ x a, okA k x a = true → RelV M (lk a) (ρ x))
    (h1 : okO k lo lo' = true) (h2 : okO k hi hi' = true) (h3 : okO k mx mx' = true) (hm : mx.isNone = true ∨ hi.isSome = true)
    (e1 : optNat 0 (lo'.map lk) = some l) (e2 : optNat len (hi'.map lk) = some h) (e3 : optNat cap (mx'.map lk) = some m) (hlh : l ≤ h) (hhm : h ≤ m) (hmc : m ≤ cap) :
    (Instr.sliceBounds isS len cap (lo.map ρ) (hi.map ρ) (mx.map ρ)).run P w = .ok (l, h, m) w := by
  unfold Instr.sliceBounds
  rcases optNat_rel hA h1 e1 with ⟨rfl, rfl, rfl⟩ | ⟨y1, k1, rfl, _, r1⟩ <;>
  rcases optNat_rel hA h2 e2 with ⟨rfl, rfl, rfl⟩ | ⟨y2, k2, rfl, _, r2⟩ <;>
  rcases optNat_rel hA h3 e3 with ⟨rfl, rfl, rfl⟩ | ⟨y3, k3, rfl, _, r3⟩ <;>
  first
    | (simp at hm; done)
    | (simp only [Option.map_some, Option.map_none, *, run_sliceBound hlh, run_sliceBound hhm, run_sliceBound hmc, Sem.run_bind, Sem.run_pure, Result.andThen_ok]; done)

theorem bytes_extract (bs : ByteArray) (l h : Nat) : (bs.extract l h).data.toList.map UInt8.toNat = ((bs.data.toList.map UInt8.toNat).take h).drop l := by
  rw [ByteArray.data_extract, Array.toList_extract, List.extract_eq_take_drop, ← List.map_take, ← List.map_drop]
  congr 1
  rw [List.drop_take]

theorem q_sls {a : A} {lo hi : Option A} {v : V} {n : List Ob} (hA : ∀ x a, okA k x a = true → RelV M (lk a) (ρ x)) (hok : okOp P k o (.sls a lo hi) = true) (h : stepP lk Hi (.sls a lo hi) = some (v, n)) : Quiet P M w (execOp ρ o) v := by
  cases hop : o.op <;> simp only [okOp, hop] at hok <;> try (cases hok; done)
  rename_i t x xlo xhi xmx
  simp only [Bool.and_eq_true] at hok
  obtain ⟨⟨⟨⟨h1, h2⟩, h3⟩, h4⟩, h5⟩ := hok
  have r1 := hA _ _ h2
  split at h1 <;> try (cases h1; done)
  rename_i hu
  cases xmx with
  | some _ => simp at h5
  | none =>
  simp only [stepP] at h
  split at h <;> try (cases h; done)
  rename_i s hx
  split at h <;> try (cases h; done)
  rename_i hh ll e1 e2
  split at h <;> try (cases h; done)
  rename_i hb
  simp only [Option.some.injEq, Prod.mk.injEq] at h
  obtain ⟨rfl, rfl⟩ := h
  rw [hx, relV_str] at r1
  obtain ⟨bs, e3, rfl⟩ := r1
  have hlen : (bs.data.toList.map UInt8.toNat).length = bs.size := by rw [List.length_map, Array.length_toList]; rfl
  rw [hlen] at e1 hb
  refine quiet_of (v' := .string (bs.extract ll hh)) (by simp only [execOp, hop]; rfl) ?_ (by rw [relV_str]; exact ⟨_, rfl, bytes_extract bs ll hh⟩)
  have hbounds := run_sliceBounds (P := P) (w := w) (isS := false) (len := bs.size) (cap := bs.size) (m := bs.size) (mx := none) (mx' := none) hA h3 h4 rfl (.inl rfl) e2 e1 rfl hb.1 hb.2 (Nat.le_refl _)
  simp only [Option.map_none] at hbounds
  rw [e3]
  unfold Instr.sliceAt
  rw [Sem.run_bind, run_underlying hu]
  simp only [Result.andThen_ok]
  unfold Instr.slice
  rw [Sem.run_bind, run_underlying hu]
  simp only [Result.andThen_ok, Option.map_none, Option.isSome_none, Bool.false_eq_true, if_false, Sem.run_bind, hbounds, Sem.run_pure]

theorem relDs_seg {I : Imm} {cs : List D} {vs : List Value} (h : RelDs I cs vs) (i n : Nat) : RelDs I ((cs.drop i).take n) (vs.drop i) := (h.drop i).take n

theorem q_slc {sz : Nat} {a : A} {lo hi mx : Option A} {v : V} {n : List Ob} (hA : ∀ x a, okA k x a = true → RelV M (lk a) (ρ x)) (hok : okOp P k o (.slc sz a lo hi mx) = true) (h : stepP lk Hi (.slc sz a lo hi mx) = some (v, n)) : Quiet P M w (execOp ρ o) v := by
  cases hop : o.op <;> simp only [okOp, hop] at hok <;> try (cases hok; done)
  rename_i t x xlo xhi xmx
  simp only [Bool.and_eq_true, Bool.or_eq_true, decide_eq_true_eq] at hok
  obtain ⟨⟨⟨⟨⟨⟨h1, h2⟩, h3⟩, h4⟩, h5⟩, h6⟩, h7⟩ := hok
  have r1 := hA _ _ h2
  split at h1 <;> try (cases h1; done)
  rename_i elem hu
  simp only [beq_iff_eq] at h1
  have run : ∀ (ad : Option Addr) (len cap l h m : Nat), (Instr.sliceBounds true len cap (xlo.map ρ) (xhi.map ρ) (xmx.map ρ)).run P w = .ok (l, h, m) w →
      (Instr.sliceAt t (.slice ad len cap) (xlo.map ρ) (xhi.map ρ) (xmx.map ρ)).run P w = .ok (.slice (if m = l then ad else ad.map (·.add (l * sz))) (h - l) (m - l)) w := by
    intro ad len cap l h m hb
    simp [Instr.sliceAt, Instr.slice, run_underlying hu, hb, run_sizeOf h1]
  refine quiet_of' (by simp only [execOp, hop]; rfl) ?_
  simp only [stepP] at h
  split at h <;> try (cases h; done)
  · rename_i hx
    split at h <;> try (cases h; done)
    rename_i e1 e2 e3
    simp only [Option.some.injEq, Prod.mk.injEq] at h
    obtain ⟨rfl, rfl⟩ := h
    rw [hx, relV_nils] at r1
    have hb := run_sliceBounds (P := P) (w := w) (isS := true) (len := 0) (cap := 0) hA h3 h4 h5 h6 e2 e1 e3 (Nat.le_refl _) (Nat.le_refl _) (Nat.le_refl _)
    exact ⟨.slice none 0 0, by rw [r1, run none 0 0 0 0 0 hb]; simp, by rw [relV_nils]⟩
  · rename_i cs len hx
    split at h <;> try (cases h; done)
    rename_i hh ll mm e1 e2 e3
    split at h <;> try (cases h; done)
    rename_i hc
    simp only [Option.some.injEq, Prod.mk.injEq] at h
    obtain ⟨rfl, rfl⟩ := h
    rw [hx, relV_d] at r1
    simp only [RelD] at r1
    obtain ⟨ad, cap, hv, hle, hr⟩ := r1
    obtain ⟨c1, c2, c3, c4⟩ := hc
    obtain ⟨m2, hm2, e3', hmm⟩ : ∃ m2, m2 ≤ cap ∧ optNat cap (mx.map lk) = some m2 ∧ hh ≤ m2 := by
      cases mx with
      | none => simp only [Option.map_none, optNat, Option.some.injEq] at e3 ⊢; exact ⟨cap, Nat.le_refl _, rfl, by omega⟩
      | some mx => simp only [Option.map_some, optNat] at e3 ⊢; exact ⟨mm, by omega, e3, c2⟩
    have hb := run_sliceBounds (P := P) (w := w) (isS := true) (len := len) (cap := cap) hA h3 h4 h5 h6 e2 e1 e3' c1 hmm hm2
    refine ⟨_, by rw [hv, run _ _ _ _ _ _ hb], ?_⟩
    rw [relV_d]
    simp only [RelD]
    refine ⟨_, _, rfl, by omega, ?_⟩
    by_cases hz : hh - ll = 0
    · left; simp [hz]
    · right
      rcases hr with hr | ⟨B, oo, arr, T, fr, rfl, hB, hr⟩
      · subst hr
        simp only [List.length_nil] at c4
        have : len = 0 := by
          rcases Nat.eq_zero_or_pos len with h' | h'
          · exact h'
          · have := Nat.mul_pos h' h7; omega
        omega
      · refine ⟨B, oo + ll * sz, arr, T, fr, ?_, hB, ?_⟩
        · rw [if_neg (by omega)]; simp [add_at]
        · have := relDs_seg hr (ll * sz) ((hh - ll) * sz)
          rwa [List.drop_drop] at this
  · rename_i id g off len sz' cap hx
    split at h <;> try (cases h; done)
    rename_i hh ll e1 e2
    split at h <;> try (cases h; done)
    rename_i hc
    obtain ⟨rfl, c1, c2⟩ := hc
    rw [hx, relV_c] at r1
    simp only [RelC] at r1
    obtain ⟨q1, q2, ad, cp, hv, q4, q5, q6, q7⟩ := r1
    -- the new slice's own facts
    have fin : ∀ (m2 : Nat) (cap2 : Option Nat), hh ≤ m2 → m2 ≤ cp → (∀ kk, cap2 = some kk → m2 - ll = kk) →
        RelC M (.os id g (off + ll * sz') (hh - ll) sz' cap2) (.slice (if m2 = ll then ad else ad.map (·.add (ll * sz'))) (hh - ll) (m2 - ll)) := by
      intro m2 cap2 b1 b2 b3
      simp only [RelC]
      refine ⟨q1, q2, _, _, rfl, by omega, ?_, b3, ?_⟩
      · by_cases hz : m2 = ll
        · left; omega
        · right
          rcases q5 with q5 | ⟨B, xx, rfl⟩
          · omega
          · exact ⟨B, xx + ll * sz', by rw [if_neg hz]; simp [add_at]⟩
      · intro he
        have q8 := q7 he
        cases hl : M.loc id with
        | none => rw [hl] at q8; exact q8.elim
        | some l =>
          rw [hl] at q8
          cases l with
          | none =>
            simp only [OsAt] at q8 ⊢
            obtain ⟨q8, q9⟩ := q8
            subst q8
            have : m2 = 0 := by omega
            subst this
            have : ll = 0 := by omega
            subst this
            simp
          | some l =>
            obtain ⟨B, b0, bs⟩ := l
            simp only [OsAt] at q8 ⊢
            obtain ⟨q8, q9⟩ := q8
            have hmul : (m2 - ll) * sz' + ll * sz' = m2 * sz' := by rw [← Nat.add_mul]; congr 1; omega
            have hmul2 : m2 * sz' ≤ cp * sz' := Nat.mul_le_mul_right _ b2
            refine ⟨?_, by omega⟩
            by_cases hz : m2 = ll
            · left; omega
            · right
              rw [if_neg hz]
              rcases q8 with q8 | q8
              · omega
              · rw [q8]; simp [add_at]; omega
    split at h
    · rename_i hmx
      simp only [Option.some.injEq, Prod.mk.injEq] at h
      obtain ⟨rfl, rfl⟩ := h
      have hb := run_sliceBounds (P := P) (w := w) (isS := true) (len := len) (cap := cp) (m := cp) hA h3 h4 h5 h6 e2 e1 (by simp [optNat]) c1 (by omega) (Nat.le_refl _)
      refine ⟨_, by rw [hv, run _ _ _ _ _ _ hb], ?_⟩
      rw [relV_c]
      refine fin cp _ (by omega) (Nat.le_refl _) ?_
      intro kk hk
      cases cap with
      | none => cases hk
      | some c => simp only [Option.map_some, Option.some.injEq] at hk; have := q6 c rfl; omega
    · rename_i mx'
      split at h <;> try (cases h; done)
      rename_i m3 e3
      split at h <;> try (cases h; done)
      rename_i hc3
      simp only [Option.some.injEq, Prod.mk.injEq] at h
      obtain ⟨rfl, rfl⟩ := h
      have hm3 : m3 ≤ cp := by
        cases cap with
        | none => simp at hc3; omega
        | some c => simp at hc3; have := q6 c rfl; omega
      have hb := run_sliceBounds (P := P) (w := w) (isS := true) (len := len) (cap := cp) (m := m3) hA h3 h4 h5 h6 e2 e1 (by simpa [optNat] using e3) c1 hc3.1 hm3
      refine ⟨_, by rw [hv, run _ _ _ _ _ _ hb], ?_⟩
      rw [relV_c]
      exact fin m3 _ hc3.1 hm3 (fun kk hk => by simpa using hk)

theorem q_slp {len sz : Nat} {a : A} {lo hi mx : Option A} {v : V} {n : List Ob} (hs : Sat P M H base w) (hsub : Sub Hi H) (hA : ∀ x a, okA k x a = true → RelV M (lk a) (ρ x)) (hok : okOp P k o (.slp len sz a lo hi mx) = true)
    (h : stepP lk Hi (.slp len sz a lo hi mx) = some (v, n)) : Quiet P M w (execOp ρ o) v := by
  cases hop : o.op <;> simp only [okOp, hop] at hok <;> try (cases hok; done)
  rename_i t x xlo xhi xmx
  simp only [Bool.and_eq_true, Bool.or_eq_true] at hok
  obtain ⟨⟨⟨⟨⟨h1, h2⟩, h3⟩, h4⟩, h5⟩, h6⟩ := hok
  have r1 := hA _ _ h2
  split at h1 <;> try (cases h1; done)
  rename_i n' elem hu
  simp only [Bool.and_eq_true, beq_iff_eq] at h1
  obtain ⟨rfl, h7⟩ := h1
  have run : ∀ (B xx l h m : Nat), (Instr.sliceBounds false n' n' (xlo.map ρ) (xhi.map ρ) (xmx.map ρ)).run P w = .ok (l, h, m) w →
      (Instr.sliceAt t (.pointer (some ⟨B, xx, none⟩)) (xlo.map ρ) (xhi.map ρ) (xmx.map ρ)).run P w = .ok (.slice (some (if m = l then ⟨B, xx, none⟩ else ⟨B, xx + l * sz, none⟩)) (h - l) (m - l)) w := by
    intro B xx l h m hb
    unfold Instr.sliceAt
    rw [Sem.run_bind, run_underlying hu]
    simp only [Result.andThen_ok, Instr.sureAddr, Sem.run_bind, Sem.run_pure, hb, run_sizeOf h7, add_at]
  refine quiet_of' (by simp only [execOp, hop]; rfl) ?_
  simp only [stepP] at h
  split at h <;> try (cases h; done)
  rename_i hh ll mm e1 e2 e3
  split at h <;> try (cases h; done)
  rename_i hc
  obtain ⟨c1, c2, c3⟩ := hc
  have hb := run_sliceBounds (P := P) (w := w) (isS := false) (len := n') (cap := n') hA h3 h4 h5 h6 e2 e1 e3 c1 c2 c3
  split at h <;> try (cases h; done)
  · rename_i id g off hx
    split at h <;> try (cases h; done)
    rename_i cs g' fz ho
    split at h <;> try (cases h; done)
    rename_i hc2
    obtain ⟨rfl, hc2⟩ := hc2
    simp only [Option.some.injEq, Prod.mk.injEq] at h
    obtain ⟨rfl, rfl⟩ := h
    rw [hx, relV_c] at r1
    obtain ⟨B, b0, bs, fz', hl, hv, arr, T, fr, f1, f2, f3, f4, f5⟩ := live_ptr hs hsub ho r1
    refine ⟨_, by rw [hv, run _ _ _ _ _ hb], ?_⟩
    rw [relV_c]
    simp only [RelC] at r1 ⊢
    obtain ⟨q1, q2, _, q4⟩ := r1
    have hmul : (mm - ll) * sz + ll * sz = mm * sz := by rw [← Nat.add_mul]; congr 1; omega
    have hmul2 : mm * sz ≤ n' * sz := Nat.mul_le_mul_right _ c3
    refine ⟨q1, q2, _, _, rfl, by omega, ?_, fun kk hk => by simpa using hk, fun _ => ?_⟩
    · right
      by_cases hz : mm = ll
      · exact ⟨_, _, by rw [if_pos hz]⟩
      · exact ⟨_, _, by rw [if_neg hz]⟩
    · rw [hl]
      simp only [OsAt]
      refine ⟨?_, by omega⟩
      by_cases hz : mm = ll
      · left; omega
      · right; rw [if_neg hz]; simp; omega
  · rename_i cs hx
    split at h <;> try (cases h; done)
    rename_i hc2
    simp only [Option.some.injEq, Prod.mk.injEq] at h
    obtain ⟨rfl, rfl⟩ := h
    rw [hx, relV_d] at r1
    simp only [RelD] at r1
    obtain ⟨B, oo, arr, T, fr, hv, hB, hr⟩ := r1
    refine ⟨_, by rw [hv, run _ _ _ _ _ hb], ?_⟩
    rw [relV_d]
    simp only [RelD]
    refine ⟨_, _, rfl, by omega, ?_⟩
    by_cases hz : hh - ll = 0
    · left; simp [hz]
    · right
      refine ⟨B, oo + ll * sz, arr, T, fr, by rw [if_neg (by omega)], hB, ?_⟩
      have := relDs_seg hr (ll * sz) ((hh - ll) * sz)
      rwa [List.drop_drop] at this

/-- A built-in on one operand. -/
theorem call1 {c : Call} {a : A} (hA : ∀ x a, okA k x a = true → RelV M (lk a) (ρ x)) (h : okAs k c.args.toList [a] = true) : ∃ x, c.args.map ρ = #[x] ∧ RelV M (lk a) x := by
  obtain ⟨hm, hl⟩ := mapA hA h
  match hargs : c.args.toList, hm, hl with
  | [x], hm, _ =>
    simp only [List.map_cons, List.map_nil, RelVs] at hm
    exact ⟨ρ x, by apply Array.ext'; simp [hargs], hm.1⟩
theorem call2 {c : Call} {a b : A} (hA : ∀ x a, okA k x a = true → RelV M (lk a) (ρ x)) (h : okAs k c.args.toList [a, b] = true) : ∃ x y, c.args.map ρ = #[x, y] ∧ RelV M (lk a) x ∧ RelV M (lk b) y := by
  obtain ⟨hm, hl⟩ := mapA hA h
  match hargs : c.args.toList, hm, hl with
  | [x, y], hm, _ =>
    simp only [List.map_cons, List.map_nil, RelVs] at hm
    exact ⟨ρ x, ρ y, by apply Array.ext'; simp [hargs], hm.1, hm.2.1⟩

theorem exec_builtin {c : Call} {b : Builtin} {s : Sem Value} {v' : Value} {w' : World} (hop : o.op = .call c) (hc : c.callee = .builtin b)
    (hb : ∀ cs, builtin b c.argTypes o.type cs (c.args.map ρ) = (do pure (.value (← s)))) (hrun : s.run P w = .ok v' w') : (execOp ρ o).run P w = .ok (.value v') w' := by
  simp only [execOp, hop, resolve, hc, Sem.run_bind, Sem.run_pure, Result.andThen_ok, invoke, hb, hrun]

theorem q_len {a : A} {v : V} {n : List Ob} (hA : ∀ x a, okA k x a = true → RelV M (lk a) (ρ x)) (hok : okOp P k o (.len a) = true) (h : stepP lk Hi (.len a) = some (v, n)) : Quiet P M w (execOp ρ o) v := by
  cases hop : o.op <;> simp only [okOp, hop] at hok <;> try (cases hok; done)
  rename_i c
  simp only [Bool.and_eq_true] at hok
  obtain ⟨h1, h2⟩ := hok
  obtain ⟨x, hargs, r1⟩ := call1 hA h2
  split at h1 <;> try (cases h1; done)
  rename_i t hc ht
  split at h1 <;> try (cases h1; done)
  rename_i e hu
  have key : ∀ (ad : Option Addr) (len cap : Nat), x = .slice ad len cap → Quiet P M w (execOp ρ o) (.c (.d (.int .i64 (Int.ofNat len)))) := by
    intro ad len cap hv
    refine ⟨.int .i64 (Int.ofNat len), exec_builtin hop hc (fun cs => rfl) ?_, by rw [relV_int]⟩
    rw [hargs, hv]
    simp [Builtin.len_, ht, run_underlying hu, goInt]
  simp only [stepP] at h
  split at h <;> try (cases h; done)
  · rename_i hx
    simp only [Option.some.injEq, Prod.mk.injEq] at h
    obtain ⟨rfl, rfl⟩ := h
    rw [hx, relV_nils] at r1
    exact key none 0 0 r1
  · rename_i cs len hx
    simp only [Option.some.injEq, Prod.mk.injEq] at h
    obtain ⟨rfl, rfl⟩ := h
    rw [hx, relV_d] at r1
    simp only [RelD] at r1
    obtain ⟨ad, cap, hv, _⟩ := r1
    exact key _ _ _ hv
  · rename_i id g off len sz cap hx
    simp only [Option.some.injEq, Prod.mk.injEq] at h
    obtain ⟨rfl, rfl⟩ := h
    rw [hx, relV_c] at r1
    simp only [RelC] at r1
    obtain ⟨_, _, ad, cp, hv, _⟩ := r1
    exact key _ _ _ hv

theorem q_lns {a : A} {v : V} {n : List Ob} (hA : ∀ x a, okA k x a = true → RelV M (lk a) (ρ x)) (hok : okOp P k o (.lns a) = true) (h : stepP lk Hi (.lns a) = some (v, n)) : Quiet P M w (execOp ρ o) v := by
  cases hop : o.op <;> simp only [okOp, hop] at hok <;> try (cases hok; done)
  rename_i c
  simp only [Bool.and_eq_true] at hok
  obtain ⟨h1, h2⟩ := hok
  obtain ⟨x, hargs, r1⟩ := call1 hA h2
  split at h1 <;> try (cases h1; done)
  rename_i t hc ht
  split at h1 <;> try (cases h1; done)
  rename_i hu
  simp only [stepP] at h
  split at h <;> try (cases h; done)
  rename_i s hx
  simp only [Option.some.injEq, Prod.mk.injEq] at h
  obtain ⟨rfl, rfl⟩ := h
  rw [hx, relV_str] at r1
  obtain ⟨bs, hv, rfl⟩ := r1
  refine ⟨.int .i64 (Int.ofNat bs.size), exec_builtin hop hc (fun cs => rfl) ?_, by rw [relV_int, List.length_map, Array.length_toList]; rfl⟩
  rw [hargs, hv]
  simp [Builtin.len_, ht, run_underlying hu, goInt]

theorem q_cap {a : A} {v : V} {n : List Ob} (hA : ∀ x a, okA k x a = true → RelV M (lk a) (ρ x)) (hok : okOp P k o (.cap a) = true) (h : stepP lk Hi (.cap a) = some (v, n)) : Quiet P M w (execOp ρ o) v := by
  cases hop : o.op <;> simp only [okOp, hop] at hok <;> try (cases hok; done)
  rename_i c
  simp only [Bool.and_eq_true] at hok
  obtain ⟨h1, h2⟩ := hok
  obtain ⟨x, hargs, r1⟩ := call1 hA h2
  split at h1 <;> try (cases h1; done)
  rename_i t hc ht
  split at h1 <;> try (cases h1; done)
  rename_i e hu
  have key : ∀ (ad : Option Addr) (len cap : Nat), x = .slice ad len cap → Quiet P M w (execOp ρ o) (.c (.d (.int .i64 (Int.ofNat cap)))) := by
    intro ad len cap hv
    refine ⟨.int .i64 (Int.ofNat cap), exec_builtin hop hc (fun cs => rfl) ?_, by rw [relV_int]⟩
    rw [hargs, hv]
    simp [Builtin.cap_, ht, run_underlying hu, goInt]
  simp only [stepP] at h
  split at h <;> try (cases h; done)
  · rename_i hx
    simp only [Option.some.injEq, Prod.mk.injEq] at h
    obtain ⟨rfl, rfl⟩ := h
    rw [hx, relV_nils] at r1
    exact key none 0 0 r1
  · rename_i id g off len sz cap hx
    simp only [Option.some.injEq, Prod.mk.injEq] at h
    obtain ⟨rfl, rfl⟩ := h
    rw [hx, relV_c] at r1
    simp only [RelC] at r1
    obtain ⟨_, _, ad, cp, hv, _, _, hcap, _⟩ := r1
    have := hcap _ rfl
    subst this
    exact key _ _ _ hv

end
end Mini
end Go.Proofs.YtmcgaakbkgdljaaGreatDoor
