/-
  The quiet operations, on: each one's lemma.
-/
import Derived.Test.YtgjlofpfbhioaaaGreatDoorMiniE2
import Derived.Laws.Cells
namespace Go.Proofs.YtgjlofpfbhioaaaGreatDoor
namespace Mini
open Go

section
variable {P : Program} {M : MM} {w : World} {k : K} {o : Oper} {lk : A → V} {ρ : Operand → Value} {Hi H : Heap} {base : Nat}

theorem eqInts_pair : ∀ {xs ys : List C} {us vs : List Value} {r : Bool}, eqInts xs ys = some r → RelCs M xs us → RelCs M ys vs →
    (∀ j, j < xs.length → ∃ k a b, us[j]? = some (.int k a) ∧ vs[j]? = some (.int k b)) ∧ xs.length = ys.length ∧ (r = true ↔ ∀ j, j < xs.length → us[j]? = vs[j]?)
  | [], [], us, vs, r, h, _, _ => by simp only [eqInts, Option.some.injEq] at h; subst h; simp
  | [], _ :: _, _, _, _, h, _, _ => by simp [eqInts] at h
  | .d (.int k a) :: xs, [], _, _, _, h, _, _ => by simp [eqInts] at h
  | .d (.int k a) :: xs, .d (.int k' b) :: ys, [], _, r, h, hx, _ => by simp only [RelCs] at hx
  | .d (.int k a) :: xs, .d (.int k' b) :: ys, _ :: _, [], r, h, _, hy => by simp only [RelCs] at hy
  | .d (.int k a) :: xs, .d (.int k' b) :: ys, u :: us, v :: vs, r, h, hx, hy => by
    simp only [RelCs, RelC, RelD] at hx hy
    obtain ⟨rfl, hx⟩ := hx
    obtain ⟨rfl, hy⟩ := hy
    simp only [eqInts] at h
    split at h
    · rename_i hk
      subst hk
      split at h
      · rename_i r' hr'
        obtain ⟨h1, h2, h3⟩ := eqInts_pair hr' hx hy
        simp only [Option.some.injEq] at h
        subst h
        refine ⟨?_, by simp [h2], ?_⟩
        · intro j hj
          cases j with
          | zero => exact ⟨k, a, b, by simp, by simp⟩
          | succ j => simpa using h1 j (by simpa using hj)
        · rw [Bool.and_eq_true, beq_iff_eq, h3]
          constructor
          · rintro ⟨rfl, h4⟩ j hj
            cases j with
            | zero => simp
            | succ j => simpa using h4 j (by simpa using hj)
          · intro hall
            refine ⟨?_, fun j hj => by simpa using hall (j + 1) (by simpa using hj)⟩
            have := hall 0 (by simp)
            simpa using this
      · cases h
    · cases h
  | .d (.bool _) :: _, _, _, _, _, h, _, _ => by simp [eqInts] at h
  | .d (.str _) :: _, _, _, _, _, h, _, _ => by simp [eqInts] at h
  | .d .nilp :: _, _, _, _, _, h, _, _ => by simp [eqInts] at h
  | .d (.ip _) :: _, _, _, _, _, h, _, _ => by simp [eqInts] at h
  | .d .nils :: _, _, _, _, _, h, _, _ => by simp [eqInts] at h
  | .d (.sl _ _) :: _, _, _, _, _, h, _, _ => by simp [eqInts] at h
  | .d (.fn _ _ _) :: _, _, _, _, _, h, _, _ => by simp [eqInts] at h
  | .d .nilf :: _, _, _, _, _, h, _, _ => by simp [eqInts] at h
  | .d .nili :: _, _, _, _, _, h, _, _ => by simp [eqInts] at h
  | .d .ifc :: _, _, _, _, _, h, _, _ => by simp [eqInts] at h
  | .ptr _ _ _ :: _, _, _, _, _, h, _, _ => by simp [eqInts] at h
  | .os _ _ _ _ _ _ :: _, _, _, _, _, h, _, _ => by simp [eqInts] at h
  | .fn _ _ _ :: _, _, _, _, _, h, _, _ => by simp [eqInts] at h
  | .yld _ :: _, _, _, _, _, h, _, _ => by simp [eqInts] at h
  | .bt _ _ :: _, _, _, _, _, h, _, _ => by simp [eqInts] at h
  | .d (.int _ _) :: _, .d (.bool _) :: _, _, _, _, h, _, _ => by simp [eqInts] at h
  | .d (.int _ _) :: _, .d (.str _) :: _, _, _, _, h, _, _ => by simp [eqInts] at h
  | .d (.int _ _) :: _, .d .nilp :: _, _, _, _, h, _, _ => by simp [eqInts] at h
  | .d (.int _ _) :: _, .d (.ip _) :: _, _, _, _, h, _, _ => by simp [eqInts] at h
  | .d (.int _ _) :: _, .d .nils :: _, _, _, _, h, _, _ => by simp [eqInts] at h
  | .d (.int _ _) :: _, .d (.sl _ _) :: _, _, _, _, h, _, _ => by simp [eqInts] at h
  | .d (.int _ _) :: _, .d (.fn _ _ _) :: _, _, _, _, h, _, _ => by simp [eqInts] at h
  | .d (.int _ _) :: _, .d .nilf :: _, _, _, _, h, _, _ => by simp [eqInts] at h
  | .d (.int _ _) :: _, .d .nili :: _, _, _, _, h, _, _ => by simp [eqInts] at h
  | .d (.int _ _) :: _, .d .ifc :: _, _, _, _, h, _, _ => by simp [eqInts] at h
  | .d (.int _ _) :: _, .ptr _ _ _ :: _, _, _, _, h, _, _ => by simp [eqInts] at h
  | .d (.int _ _) :: _, .os _ _ _ _ _ _ :: _, _, _, _, h, _, _ => by simp [eqInts] at h
  | .d (.int _ _) :: _, .fn _ _ _ :: _, _, _, _, h, _, _ => by simp [eqInts] at h
  | .d (.int _ _) :: _, .yld _ :: _, _, _, _, h, _, _ => by simp [eqInts] at h
  | .d (.int _ _) :: _, .bt _ _ :: _, _, _, _, h, _, _ => by simp [eqInts] at h

theorem q_eqa {neg : Bool} {m : Nat} {a b : A} {v : V} {n : List Ob} (hA : ∀ x a, okA k x a = true → RelV M (lk a) (ρ x)) (hok : okOp P k o (.eqa neg m a b) = true) (h : stepP lk Hi (.eqa neg m a b) = some (v, n)) : Quiet P M w (execOp ρ o) v := by
  simp only [stepP] at h
  split at h <;> try (cases h; done)
  rename_i x y hx hy
  split at h <;> try (cases h; done)
  rename_i hlen
  cases he : eqInts x y with
  | none => rw [he] at h; cases h
  | some r =>
    rw [he] at h
    simp only [Option.map_some, Option.some.injEq, Prod.mk.injEq] at h
    obtain ⟨rfl, rfl⟩ := h
    cases hop : o.op <;> simp only [okOp, hop] at hok <;> try (cases hok; done)
    simp only [Bool.and_eq_true, beq_iff_eq, Bool.not_eq_true'] at hok
    obtain ⟨⟨⟨⟨⟨h0, hi⟩, hagg⟩, hg⟩, h1⟩, h2⟩ := hok
    have r1 := hA _ _ h1
    have r2 := hA _ _ h2
    rw [hx, relV_agg] at r1
    rw [hy, relV_agg] at r2
    obtain ⟨xs, e1, l1, c1⟩ := r1
    obtain ⟨ys, e2, l2, c2⟩ := r2
    rename_i op t x' y' u
    obtain ⟨hp, hl, hiff⟩ := eqInts_pair he c1 c2
    have hag : agg? P t = some true := by simpa [isAggT] using hagg
    obtain ⟨r', hr', hiff'⟩ := (ints_eq (w := w) 9 t m hi).1 hag 9991 xs ys (fun j hj => by
      obtain ⟨kk, p, q, h3, h4⟩ := hp j (by omega)
      exact ⟨kk, p, q, by simpa using h3, by simpa using h4⟩) (by omega) (by omega)
    have hrr : r' = r := by
      rw [Bool.eq_iff_iff, hiff', hiff, hlen]
      simp
    subst hrr
    have hr2 : (Op.equalIn 10000 t (.agg xs) (.agg ys)).run P w = .ok r' w := hr'
    split at h0
    · refine quiet_of (v' := .bool r') (by simp only [execOp, hop]; rfl) ?_ (by rw [relV_bool]; cases neg <;> simp_all)
      rw [e1, e2, Sem.run_bind, run_eqGuard_agg w _ _ _ _ _ _ hg]
      simp only [Result.andThen_ok]
      rw [run_eql_struct, hr2]
      rfl
    · refine quiet_of (v' := .bool (!r')) (by simp only [execOp, hop]; rfl) ?_ (by rw [relV_bool]; cases neg <;> simp_all)
      rw [e1, e2, Sem.run_bind, run_eqGuard_agg w _ _ _ _ _ _ hg]
      simp only [Result.andThen_ok]
      rw [run_neq_struct, hr2]
      rfl
    · cases h0

theorem finV_int {x : Sem Value} {kd : IntKind} {n : Int} (h : x.run P w = .ok (.int kd n) w) : ∃ v', x.run P w = .ok v' w ∧ RelV M (.c (.d (.int kd n))) v' := ⟨_, h, by rw [relV_int]⟩

theorem q_un {op : UnOp} {a : A} {v : V} {n : List Ob} (hA : ∀ x a, okA k x a = true → RelV M (lk a) (ρ x)) (hok : okOp P k o (.un op a) = true) (h : stepP lk Hi (.un op a) = some (v, n)) : Quiet P M w (execOp ρ o) v := by
  simp only [stepP] at h
  split at h <;> try (cases h; done)
  rename_i x hx
  cases hu : un op x with
  | none => rw [hu] at h; cases h
  | some d =>
    rw [hu] at h
    simp only [Option.map_some, Option.some.injEq, Prod.mk.injEq] at h
    obtain ⟨rfl, rfl⟩ := h
    cases hop : o.op <;> simp only [okOp, hop] at hok <;> try (cases hok; done)
    simp only [Bool.and_eq_true, beq_iff_eq] at hok
    obtain ⟨rfl, h1⟩ := hok
    have r1 := hA _ _ h1
    rw [hx, relV_c] at r1
    refine quiet_of' (by simp only [execOp, hop]; rfl) ?_
    unfold un at hu
    split at hu <;> try (cases hu; done)
    · simp only [RelC, RelD] at r1
      cases hu
      rw [r1]
      exact finV_int (by simp only [Op.unary, Op.intArith, Sem.run_pure])
    · simp only [RelC, RelD] at r1
      cases hu
      exact ⟨_, by rw [r1]; simp [Op.unary, Op.intBits]; rfl, by rw [relV_int]; simp [bits]⟩
    · simp only [RelC, RelD] at r1
      cases hu
      exact ⟨_, by rw [r1]; simp [Op.unary]; rfl, by rw [relV_bool]⟩

theorem q_cvi {kd : IntKind} {a : A} {v : V} {n : List Ob} (hA : ∀ x a, okA k x a = true → RelV M (lk a) (ρ x)) (hok : okOp P k o (.cvi kd a) = true) (h : stepP lk Hi (.cvi kd a) = some (v, n)) : Quiet P M w (execOp ρ o) v := by
  simp only [stepP] at h
  split at h <;> try (cases h; done)
  rename_i k' m hx
  simp only [Option.some.injEq, Prod.mk.injEq] at h
  obtain ⟨rfl, rfl⟩ := h
  cases hop : o.op <;> simp only [okOp, hop] at hok <;> try (cases hok; done)
  simp only [Bool.and_eq_true] at hok
  obtain ⟨h1, h2⟩ := hok
  have r1 := hA _ _ h2
  rw [hx, relV_int] at r1
  rename_i s t x
  split at h1 <;> try (cases h1; done)
  rename_i k1 k2 hs ht
  simp only [beq_iff_eq] at h1
  subst h1
  refine quiet_of (v' := .int kd (kd.wrap m)) (by simp only [execOp, hop]; rfl) ?_ (by rw [relV_int])
  rw [r1]
  simp [convert, run_underlying hs, run_underlying ht, Conv.intToInt]

theorem q_mm {mx : Bool} {a b : A} {v : V} {n : List Ob} (hA : ∀ x a, okA k x a = true → RelV M (lk a) (ρ x)) (hok : okOp P k o (.mm mx a b) = true) (h : stepP lk Hi (.mm mx a b) = some (v, n)) : Quiet P M w (execOp ρ o) v := by
  simp only [stepP] at h
  split at h <;> try (cases h; done)
  rename_i k1 p k2 q hx hy
  split at h <;> try (cases h; done)
  rename_i hk
  subst hk
  simp only [Option.some.injEq, Prod.mk.injEq] at h
  obtain ⟨rfl, rfl⟩ := h
  cases hop : o.op <;> simp only [okOp, hop] at hok <;> try (cases hok; done)
  rename_i c
  simp only [Bool.and_eq_true] at hok
  obtain ⟨h1, h2⟩ := hok
  obtain ⟨hm, hl⟩ := mapA hA h2
  obtain ⟨callee, args, argTypes⟩ := c
  simp only at h1 h2 hm hl
  match hargs : args.toList, hm, hl with
  | [x, y], hm, _ =>
    simp only [List.map_cons, List.map_nil, RelVs] at hm
    rw [hx, hy, relV_int, relV_int] at hm
    obtain ⟨e1, e2, _⟩ := hm
    have hmap : args.map ρ = #[ρ x, ρ y] := by
      apply Array.ext'
      simp [hargs]
    split at h1
    · subst h1
      refine ⟨.int k1 (if q > p then q else p), ?_, by rw [relV_int]; simp⟩
      simp [execOp, hop, resolve, invoke, builtin, hmap, e1, e2, Builtin.max_, Builtin.max2]
    · simp only [Bool.not_eq_true'] at h1
      subst h1
      refine ⟨.int k1 (if q < p then q else p), ?_, by rw [relV_int]; simp⟩
      simp [execOp, hop, resolve, invoke, builtin, hmap, e1, e2, Builtin.min_, Builtin.min2]
    · cases h1

theorem q_ext {a : A} {i : Nat} {v : V} {n : List Ob} (hA : ∀ x a, okA k x a = true → RelV M (lk a) (ρ x)) (hok : okOp P k o (.ext a i) = true) (h : stepP lk Hi (.ext a i) = some (v, n)) : Quiet P M w (execOp ρ o) v := by
  simp only [stepP] at h
  split at h <;> try (cases h; done)
  rename_i vs hx
  cases hi : vs[i]? with
  | none => rw [hi] at h; cases h
  | some u =>
    rw [hi] at h
    simp only [Option.map_some, Option.some.injEq, Prod.mk.injEq] at h
    obtain ⟨rfl, rfl⟩ := h
    cases hop : o.op <;> simp only [okOp, hop] at hok <;> try (cases hok; done)
    simp only [Bool.and_eq_true, beq_iff_eq] at hok
    obtain ⟨h1, rfl⟩ := hok
    have r1 := hA _ _ h1
    rw [hx, relV_tup] at r1
    obtain ⟨arr, e1, _, r2⟩ := r1
    obtain ⟨v', h2, h3⟩ := RelVs.iff.1 r2 _ _ hi
    refine quiet_of (v' := v') (by simp only [execOp, hop]; rfl) ?_ h3
    rw [e1]
    simp only [Array.getElem?_toList] at h2
    simp [Instr.extract, h2]

theorem q_mki {a : A} {v : V} {n : List Ob} (_hA : ∀ x a, okA k x a = true → RelV M (lk a) (ρ x)) (hok : okOp P k o (.mki a) = true) (h : stepP lk Hi (.mki a) = some (v, n)) : Quiet P M w (execOp ρ o) v := by
  simp only [stepP] at h
  split at h <;> try (cases h; done)
  simp only [Option.some.injEq, Prod.mk.injEq] at h
  obtain ⟨rfl, rfl⟩ := h
  cases hop : o.op <;> simp only [okOp, hop] at hok <;> try (cases hok; done)
  simp only [Bool.and_eq_true] at hok
  obtain ⟨h1, h2⟩ := hok
  rename_i t x
  split at h1 <;> try (cases h1; done)
  rename_i d hne hd
  refine quiet_of (v' := .iface t (ρ x)) (by simp only [execOp, hop]; rfl) ?_ (by rw [relV_d]; simp only [RelD]; exact ⟨_, _, rfl⟩)
  unfold Instr.makeInterface
  rw [Sem.run_bind, run_underlying hd]
  simp only [Result.andThen_ok]
  cases d <;> simp_all

theorem q_nlc {a : A} {v : V} {n : List Ob} (hA : ∀ x a, okA k x a = true → RelV M (lk a) (ρ x)) (hok : okOp P k o (.nlc a) = true) (h : stepP lk Hi (.nlc a) = some (v, n)) (hp : ∀ id g off x, lk a = .c (.ptr id g off) → RelV M (lk a) x → ∃ y, x = .pointer (some y)) : Quiet P M w (execOp ρ o) v := by
  cases hop : o.op <;> simp only [okOp, hop] at hok <;> try (cases hok; done)
  rename_i x
  have r1 := hA _ _ hok
  simp only [stepP] at h
  split at h <;> try (cases h; done)
  · rename_i id g off hx
    simp only [Option.some.injEq, Prod.mk.injEq] at h
    obtain ⟨rfl, rfl⟩ := h
    obtain ⟨y, hy⟩ := hp id g off _ hx r1
    refine ⟨ρ x, ?_, by rw [← hx]; exact r1⟩
    simp [execOp, hop, hy]
  · rename_i cs hx
    simp only [Option.some.injEq, Prod.mk.injEq] at h
    obtain ⟨rfl, rfl⟩ := h
    refine ⟨ρ x, ?_, by rw [← hx]; exact r1⟩
    rw [hx, relV_d] at r1
    simp only [RelD] at r1
    obtain ⟨B, oo, arr, T, fr, hv, _⟩ := r1
    simp [execOp, hop, hv]

theorem q_mkf {f : FuncId} {first caps : List A} {v : V} {n : List Ob} (hA : ∀ x a, okA k x a = true → RelV M (lk a) (ρ x)) (hok : okOp P k o (.mkf f first caps) = true) (h : stepP lk Hi (.mkf f first caps) = some (v, n)) : Quiet P M w (execOp ρ o) v := by
  cases hop : o.op <;> simp only [okOp, hop] at hok <;> try (cases hok; done)
  rename_i fn fi ca
  cases fn <;> simp only at hok <;> try (cases hok; done)
  rename_i f'
  simp only [Bool.and_eq_true, beq_iff_eq] at hok
  obtain ⟨⟨rfl, h1⟩, h2⟩ := hok
  obtain ⟨m1, l1⟩ := mapA hA h1
  obtain ⟨m2, l2⟩ := mapA hA h2
  simp only [stepP] at h
  split at h <;> try (cases h; done)
  rename_i xs ys hx hy
  simp only [Option.some.injEq, Prod.mk.injEq] at h
  obtain ⟨rfl, rfl⟩ := h
  have key : ∀ (as : List A) (zs : List C) (us : List Value), mapO (fun a => (lk a).one) as = some zs → RelVs M (as.map lk) us → RelCs M zs us ∧ zs.length = as.length := by
    intro as
    induction as with
    | nil => intro zs us hz _; simp only [mapO, Option.some.injEq] at hz; subst hz; exact ⟨RelCs.nil _ _, rfl⟩
    | cons a as ih =>
      intro zs us hz hr
      simp only [mapO] at hz
      split at hz <;> try (cases hz; done)
      rename_i z hza
      split at hz <;> try (cases hz; done)
      rename_i zs' hzs
      simp only [Option.some.injEq] at hz
      subst hz
      cases us with
      | nil => simp only [List.map_cons, RelVs] at hr
      | cons u us =>
        simp only [List.map_cons, RelVs] at hr
        obtain ⟨i1, i2⟩ := ih zs' us hzs hr.2
        have hc : RelC M z u := by
          cases hl : lk a with
          | c x => rw [hl] at hza hr; simp only [V.one, Option.some.injEq] at hza; subst hza; rw [relV_c] at hr; exact hr.1
          | agg cs => rw [hl] at hza; simp [V.one] at hza
          | tup _ => rw [hl] at hza; simp [V.one] at hza
          | any => rw [hl] at hza; simp [V.one] at hza
        exact ⟨by simp only [RelCs]; exact ⟨hc, i1⟩, by simp [i2]⟩
  obtain ⟨r1, e1⟩ := key first xs _ hx m1
  obtain ⟨r2, e2⟩ := key caps ys _ hy m2
  refine quiet_of (v' := .func (.func f') (fi.map ρ) (ca.map ρ)) (by simp only [execOp, hop]; rfl) (by simp [Instr.makeFunc]) ?_
  rw [relV_c]
  simp only [RelC]
  refine ⟨_, _, rfl, by simpa using r1, ?_, by simpa using r2, ?_⟩
  · simp [e1, ← l1]
  · simp [e2, ← l2]
end
end Mini
end Go.Proofs.YtgjlofpfbhioaaaGreatDoor
