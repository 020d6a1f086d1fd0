/-
  JournalsCheck: texts of the proof, part 5.
-/
import Derived.Test.YtgjlofpfbhioaaaGreatDoorNX03
import Derived.Laws.Cells
namespace Go.Proofs.YtgjlofpfbhioaaaGreatDoor
namespace Mini
open Go
section
variable {P : Program} {M : MM} {w : World} {k : K} {o : Oper} {lk : A → V} {ρ : Operand → Value} {Hi H : Heap} {base : Nat}
theorem eqInts_pair : ∀ {xs ys : List C} {us vs : List Value} {r : Bool}, eqInts xs ys = some r → RelCs M xs us → RelCs M ys vs →
    (∀ j, j < xs.length → ∃ k a b, us[j]? = some (.int k a) ∧ vs[j]? = some (.int k b)) ∧ xs.length = ys.length ∧ (r = true ↔ ∀ j, j < xs.length → us[j]? = vs[j]?)
  | [], [], us, vs, r, h, _, _ => by simp only [eqInts, Option.some.injEq] at h; subst h; simp
  | [], _ :: _, _, _, _, h, _, _ => by simp [eqInts] at h
  | .d (.int k a) :: xs, [], _, _, _, h, _, _ => by simp [eqInts] at h
  | .d (.int k a) :: xs, .d (.int k' b) :: ys, [], _, r, h, hx, _ => by simp only [RelCs] at hx
  | .d (.int k a) :: xs, .d (.int k' b) :: ys, _ :: _, [], r, h, _, hy => by simp only [RelCs] at hy
  | .d (.int k a) :: xs, .d (.int k' b) :: ys, u :: us, v :: vs, r, h, hx, hy => by
    simp only [RelCs, RelC, RelD] at hx hy
    obtain ⟨rfl, hx⟩ := hx
    obtain ⟨rfl, hy⟩ := hy
    simp only [eqInts] at h
    split at h
    · rename_i hk
      subst hk
      split at h
      · rename_i r' hr'
        obtain ⟨h1, h2, h3⟩ := eqInts_pair hr' hx hy
        simp only [Option.some.injEq] at h
        subst h
        refine ⟨?_, by simp [h2], ?_⟩
        · intro j hj
          cases j with
          | zero => exact ⟨k, a, b, by simp, by simp⟩
          | succ j => simpa using h1 j (by simpa using hj)
        · rw [Bool.and_eq_true, beq_iff_eq, h3]
          constructor
          · rintro ⟨rfl, h4⟩ j hj
            cases j with
            | zero => simp
            | succ j => simpa using h4 j (by simpa using hj)
          · intro hall
            refine ⟨?_, fun j hj => by simpa using hall (j + 1) (by simpa using hj)⟩
            have := hall 0 (by simp)
            simpa using this
      · cases h
    · cases h
  | .d (.bool _) :: _, _, _, _, _, h, _, _ => by simp [eqInts] at h
  | .d (.str _) :: _, _, _, _, _, h, _, _ => by simp [eqInts] at h
  | .d .nilp :: _, _, _, _, _, h, _, _ => by simp [eqInts] at h
  | .d (.ip _) :: _, _, _, _, _, h, _, _ => by simp [eqInts] at h
  | .d .nils :: _, _, _, _, _, h, _, _ => by simp [eqInts] at h
  | .d (.sl _ _) :: _, _, _, _, _, h, _, _ => by simp [eqInts] at h
  | .d (.fn _ _ _) :: _, _, _, _, _, h, _, _ => by simp [eqInts] at h
  | .d .nilf :: _, _, _, _, _, h, _, _ => by simp [eqInts] at h
  | .d .nili :: _, _, _, _, _, h, _, _ => by simp [eqInts] at h
  | .d .ifc :: _, _, _, _, _, h, _, _ => by simp [eqInts] at h
  | .ptr _ _ _ :: _, _, _, _, _, h, _, _ => by simp [eqInts] at h
  | .os _ _ _ _ _ _ :: _, _, _, _, _, h, _, _ => by simp [eqInts] at h
  | .fn _ _ _ :: _, _, _, _, _, h, _, _ => by simp [eqInts] at h
  | .yld _ :: _, _, _, _, _, h, _, _ => by simp [eqInts] at h
  | .bt _ _ :: _, _, _, _, _, h, _, _ => by simp [eqInts] at h
  | .mp _ :: _, _, _, _, _, h, _, _ => by simp [eqInts] at h
  | .d (.int _ _) :: _, .d (.bool _) :: _, _, _, _, h, _, _ => by simp [eqInts] at h
  | .d (.int _ _) :: _, .d (.str _) :: _, _, _, _, h, _, _ => by simp [eqInts] at h
  | .d (.int _ _) :: _, .d .nilp :: _, _, _, _, h, _, _ => by simp [eqInts] at h
  | .d (.int _ _) :: _, .d (.ip _) :: _, _, _, _, h, _, _ => by simp [eqInts] at h
  | .d (.int _ _) :: _, .d .nils :: _, _, _, _, h, _, _ => by simp [eqInts] at h
  | .d (.int _ _) :: _, .d (.sl _ _) :: _, _, _, _, h, _, _ => by simp [eqInts] at h
  | .d (.int _ _) :: _, .d (.fn _ _ _) :: _, _, _, _, h, _, _ => by simp [eqInts] at h
  | .d (.int _ _) :: _, .d .nilf :: _, _, _, _, h, _, _ => by simp [eqInts] at h
  | .d (.int _ _) :: _, .d .nili :: _, _, _, _, h, _, _ => by simp [eqInts] at h
  | .d (.int _ _) :: _, .d .ifc :: _, _, _, _, h, _, _ => by simp [eqInts] at h
  | .d (.int _ _) :: _, .ptr _ _ _ :: _, _, _, _, h, _, _ => by simp [eqInts] at h
  | .d (.int _ _) :: _, .os _ _ _ _ _ _ :: _, _, _, _, h, _, _ => by simp [eqInts] at h
  | .d (.int _ _) :: _, .fn _ _ _ :: _, _, _, _, h, _, _ => by simp [eqInts] at h
  | .d (.int _ _) :: _, .yld _ :: _, _, _, _, h, _, _ => by simp [eqInts] at h
  | .d (.int _ _) :: _, .bt _ _ :: _, _, _, _, h, _, _ => by simp [eqInts] at h
  | .d (.int _ _) :: _, .mp _ :: _, _, _, _, h, _, _ => by simp [eqInts] at h
theorem q_eqa {neg : Bool} {m : Nat} {a b : A} {v : V} {n : List Ob} (hA : ∀ x a, okA k x a = true → RelV M (lk a) (ρ x)) (hok : okOp P k o (.eqa neg m a b) = true) (h : stepP lk Hi (.eqa neg m a b) = some (v, n)) : Quiet P M w (execOp ρ o) v := by
  simp only [stepP] at h
  split at h <;> try (cases h; done)
  rename_i x y hx hy
  split at h <;> try (cases h; done)
  rename_i hlen
  cases he : eqInts x y with
  | none => rw [he] at h; cases h
  | some r =>
    rw [he] at h
    simp only [Option.map_some, Option.some.injEq, Prod.mk.injEq] at h
    obtain ⟨rfl, rfl⟩ := h
    cases hop : o.op <;> simp only [okOp, hop] at hok <;> try (cases hok; done)
    simp only [Bool.and_eq_true, beq_iff_eq, Bool.not_eq_true'] at hok
    obtain ⟨⟨⟨⟨⟨h0, hi⟩, hagg⟩, hg⟩, h1⟩, h2⟩ := hok
    have r1 := hA _ _ h1
    have r2 := hA _ _ h2
    rw [hx, relV_agg] at r1
    rw [hy, relV_agg] at r2
    obtain ⟨xs, e1, l1, c1⟩ := r1
    obtain ⟨ys, e2, l2, c2⟩ := r2
    rename_i op t x' y' u
    obtain ⟨hp, hl, hiff⟩ := eqInts_pair he c1 c2
    have hag : agg? P t = some true := by simpa [isAggT] using hagg
    obtain ⟨r', hr', hiff'⟩ := (ints_eq (w := w) 9 t m hi).1 hag 9991 xs ys (fun j hj => by
      obtain ⟨kk, p, q, h3, h4⟩ := hp j (by omega)
      exact ⟨kk, p, q, by simpa using h3, by simpa using h4⟩) (by omega) (by omega)
    have hrr : r' = r := by
      rw [Bool.eq_iff_iff, hiff', hiff, hlen]
      simp
    subst hrr
    have hr2 : (Op.equalIn 10000 t (.agg xs) (.agg ys)).run P w = .ok r' w := hr'
    split at h0
    · refine quiet_of (v' := .bool r') (by simp only [execOp, hop]; rfl) ?_ (by rw [relV_bool]; cases neg <;> simp_all)
      rw [e1, e2, Sem.run_bind, run_eqGuard_agg w _ _ _ _ _ _ hg]
      simp only [Result.andThen_ok]
      rw [run_eql_struct, hr2]
      rfl
    · refine quiet_of (v' := .bool (!r')) (by simp only [execOp, hop]; rfl) ?_ (by rw [relV_bool]; cases neg <;> simp_all)
      rw [e1, e2, Sem.run_bind, run_eqGuard_agg w _ _ _ _ _ _ hg]
      simp only [Result.andThen_ok]
      rw [run_neq_struct, hr2]
      rfl
    · cases h0
theorem finV_int {x : Sem Value} {kd : IntKind} {n : Int} (h : x.run P w = .ok (.int kd n) w) : ∃ v', x.run P w = .ok v' w ∧ RelV M (.c (.d (.int kd n))) v' := ⟨_, h, by rw [relV_int]⟩
theorem q_un {op : UnOp} {a : A} {v : V} {n : List Ob} (hA : ∀ x a, okA k x a = true → RelV M (lk a) (ρ x)) (hok : okOp P k o (.un op a) = true) (h : stepP lk Hi (.un op a) = some (v, n)) : Quiet P M w (execOp ρ o) v := by
  simp only [stepP] at h
  split at h <;> try (cases h; done)
  rename_i x hx
  cases hu : un op x with
  | none => rw [hu] at h; cases h
  | some d =>
    rw [hu] at h
    simp only [Option.map_some, Option.some.injEq, Prod.mk.injEq] at h
    obtain ⟨rfl, rfl⟩ := h
    cases hop : o.op <;> simp only [okOp, hop] at hok <;> try (cases hok; done)
    simp only [Bool.and_eq_true, beq_iff_eq] at hok
    obtain ⟨rfl, h1⟩ := hok
    have r1 := hA _ _ h1
    rw [hx, relV_c] at r1
    refine quiet_of' (by simp only [execOp, hop]; rfl) ?_
    unfold un at hu
    split at hu <;> try (cases hu; done)
    · simp only [RelC, RelD] at r1
      cases hu
      rw [r1]
      exact finV_int (by simp only [Op.unary, Op.intArith, Sem.run_pure])
    · simp only [RelC, RelD] at r1
      cases hu
      exact ⟨_, by rw [r1]; simp [Op.unary, Op.intBits]; rfl, by rw [relV_int]; simp [bits]⟩
    · simp only [RelC, RelD] at r1
      cases hu
      exact ⟨_, by rw [r1]; simp [Op.unary]; rfl, by rw [relV_bool]⟩
theorem q_cvi {kd : IntKind} {a : A} {v : V} {n : List Ob} (hA : ∀ x a, okA k x a = true → RelV M (lk a) (ρ x)) (hok : okOp P k o (.cvi kd a) = true) (h : stepP lk Hi (.cvi kd a) = some (v, n)) : Quiet P M w (execOp ρ o) v := by
  simp only [stepP] at h
  split at h <;> try (cases h; done)
  rename_i k' m hx
  simp only [Option.some.injEq, Prod.mk.injEq] at h
  obtain ⟨rfl, rfl⟩ := h
  cases hop : o.op <;> simp only [okOp, hop] at hok <;> try (cases hok; done)
  simp only [Bool.and_eq_true] at hok
  obtain ⟨h1, h2⟩ := hok
  have r1 := hA _ _ h2
  rw [hx, relV_int] at r1
  rename_i s t x
  split at h1 <;> try (cases h1; done)
  rename_i k1 k2 hs ht
  simp only [beq_iff_eq] at h1
  subst h1
  refine quiet_of (v' := .int kd (kd.wrap m)) (by simp only [execOp, hop]; rfl) ?_ (by rw [relV_int])
  rw [r1]
  simp [convert, run_underlying hs, run_underlying ht, Conv.intToInt]
theorem q_mm {mx : Bool} {a b : A} {v : V} {n : List Ob} (hA : ∀ x a, okA k x a = true → RelV M (lk a) (ρ x)) (hok : okOp P k o (.mm mx a b) = true) (h : stepP lk Hi (.mm mx a b) = some (v, n)) : Quiet P M w (execOp ρ o) v := by
  simp only [stepP] at h
  split at h <;> try (cases h; done)
  rename_i k1 p k2 q hx hy
  split at h <;> try (cases h; done)
  rename_i hk
  subst hk
  simp only [Option.some.injEq, Prod.mk.injEq] at h
  obtain ⟨rfl, rfl⟩ := h
  cases hop : o.op <;> simp only [okOp, hop] at hok <;> try (cases hok; done)
  rename_i c
  simp only [Bool.and_eq_true] at hok
  obtain ⟨h1, h2⟩ := hok
  obtain ⟨hm, hl⟩ := mapA hA h2
  obtain ⟨callee, args, argTypes⟩ := c
  simp only at h1 h2 hm hl
  match hargs : args.toList, hm, hl with
  | [x, y], hm, _ =>
    simp only [List.map_cons, List.map_nil, RelVs] at hm
    rw [hx, hy, relV_int, relV_int] at hm
    obtain ⟨e1, e2, _⟩ := hm
    have hmap : args.map ρ = #[ρ x, ρ y] := by
      apply Array.ext'
      simp [hargs]
    split at h1
    · subst h1
      refine ⟨.int k1 (if q > p then q else p), ?_, by rw [relV_int]; simp⟩
      simp [execOp, hop, resolve, invoke, builtin, hmap, e1, e2, Builtin.max_, Builtin.max2]
    · simp only [Bool.not_eq_true'] at h1
      subst h1
      refine ⟨.int k1 (if q < p then q else p), ?_, by rw [relV_int]; simp⟩
      simp [execOp, hop, resolve, invoke, builtin, hmap, e1, e2, Builtin.min_, Builtin.min2]
    · cases h1
theorem q_ext {a : A} {i : Nat} {v : V} {n : List Ob} (hA : ∀ x a, okA k x a = true → RelV M (lk a) (ρ x)) (hok : okOp P k o (.ext a i) = true) (h : stepP lk Hi (.ext a i) = some (v, n)) : Quiet P M w (execOp ρ o) v := by
  simp only [stepP] at h
  split at h <;> try (cases h; done)
  rename_i vs hx
  cases hi : vs[i]? with
  | none => rw [hi] at h; cases h
  | some u =>
    rw [hi] at h
    simp only [Option.map_some, Option.some.injEq, Prod.mk.injEq] at h
    obtain ⟨rfl, rfl⟩ := h
    cases hop : o.op <;> simp only [okOp, hop] at hok <;> try (cases hok; done)
    simp only [Bool.and_eq_true, beq_iff_eq] at hok
    obtain ⟨h1, rfl⟩ := hok
    have r1 := hA _ _ h1
    rw [hx, relV_tup] at r1
    obtain ⟨arr, e1, _, r2⟩ := r1
    obtain ⟨v', h2, h3⟩ := RelVs.iff.1 r2 _ _ hi
    refine quiet_of (v' := v') (by simp only [execOp, hop]; rfl) ?_ h3
    rw [e1]
    simp only [Array.getElem?_toList] at h2
    simp [Instr.extract, h2]
theorem q_mki {a : A} {v : V} {n : List Ob} (_hA : ∀ x a, okA k x a = true → RelV M (lk a) (ρ x)) (hok : okOp P k o (.mki a) = true) (h : stepP lk Hi (.mki a) = some (v, n)) : Quiet P M w (execOp ρ o) v := by
  simp only [stepP] at h
  split at h <;> try (cases h; done)
  simp only [Option.some.injEq, Prod.mk.injEq] at h
  obtain ⟨rfl, rfl⟩ := h
  cases hop : o.op <;> simp only [okOp, hop] at hok <;> try (cases hok; done)
  simp only [Bool.and_eq_true] at hok
  obtain ⟨h1, h2⟩ := hok
  rename_i t x
  split at h1 <;> try (cases h1; done)
  rename_i d hne hd
  refine quiet_of (v' := .iface t (ρ x)) (by simp only [execOp, hop]; rfl) ?_ (by rw [relV_d]; simp only [RelD]; exact ⟨_, _, rfl⟩)
  unfold Instr.makeInterface
  rw [Sem.run_bind, run_underlying hd]
  simp only [Result.andThen_ok]
  cases d <;> simp_all
theorem q_nlc {a : A} {v : V} {n : List Ob} (hA : ∀ x a, okA k x a = true → RelV M (lk a) (ρ x)) (hok : okOp P k o (.nlc a) = true) (h : stepP lk Hi (.nlc a) = some (v, n)) (hp : ∀ id g off x, lk a = .c (.ptr id g off) → RelV M (lk a) x → ∃ y, x = .pointer (some y)) : Quiet P M w (execOp ρ o) v := by
  cases hop : o.op <;> simp only [okOp, hop] at hok <;> try (cases hok; done)
  rename_i x
  have r1 := hA _ _ hok
  simp only [stepP] at h
  split at h <;> try (cases h; done)
  · rename_i id g off hx
    simp only [Option.some.injEq, Prod.mk.injEq] at h
    obtain ⟨rfl, rfl⟩ := h
    obtain ⟨y, hy⟩ := hp id g off _ hx r1
    refine ⟨ρ x, ?_, by rw [← hx]; exact r1⟩
    simp [execOp, hop, hy]
  · rename_i cs hx
    simp only [Option.some.injEq, Prod.mk.injEq] at h
    obtain ⟨rfl, rfl⟩ := h
    refine ⟨ρ x, ?_, by rw [← hx]; exact r1⟩
    rw [hx, relV_d] at r1
    simp only [RelD] at r1
    obtain ⟨B, oo, arr, T, fr, hv, _⟩ := r1
    simp [execOp, hop, hv]
theorem q_mkf {f : FuncId} {first caps : List A} {v : V} {n : List Ob} (hA : ∀ x a, okA k x a = true → RelV M (lk a) (ρ x)) (hok : okOp P k o (.mkf f first caps) = true) (h : stepP lk Hi (.mkf f first caps) = some (v, n)) : Quiet P M w (execOp ρ o) v := by
  cases hop : o.op <;> simp only [okOp, hop] at hok <;> try (cases hok; done)
  rename_i fn fi ca
  cases fn <;> simp only at hok <;> try (cases hok; done)
  rename_i f'
  simp only [Bool.and_eq_true, beq_iff_eq] at hok
  obtain ⟨⟨rfl, h1⟩, h2⟩ := hok
  obtain ⟨m1, l1⟩ := mapA hA h1
  obtain ⟨m2, l2⟩ := mapA hA h2
  simp only [stepP] at h
  split at h <;> try (cases h; done)
  rename_i xs ys hx hy
  simp only [Option.some.injEq, Prod.mk.injEq] at h
  obtain ⟨rfl, rfl⟩ := h
  have key : ∀ (as : List A) (zs : List C) (us : List Value), mapO (fun a => (lk a).one) as = some zs → RelVs M (as.map lk) us → RelCs M zs us ∧ zs.length = as.length := by
    intro as
    induction as with
    | nil => intro zs us hz _; simp only [mapO, Option.some.injEq] at hz; subst hz; exact ⟨RelCs.nil _ _, rfl⟩
    | cons a as ih =>
      intro zs us hz hr
      simp only [mapO] at hz
      split at hz <;> try (cases hz; done)
      rename_i z hza
      split at hz <;> try (cases hz; done)
      rename_i zs' hzs
      simp only [Option.some.injEq] at hz
      subst hz
      cases us with
      | nil => simp only [List.map_cons, RelVs] at hr
      | cons u us =>
        simp only [List.map_cons, RelVs] at hr
        obtain ⟨i1, i2⟩ := ih zs' us hzs hr.2
        have hc : RelC M z u := by
          cases hl : lk a with
          | c x => rw [hl] at hza hr; simp only [V.one, Option.some.injEq] at hza; subst hza; rw [relV_c] at hr; exact hr.1
          | agg cs => rw [hl] at hza; simp [V.one] at hza
          | tup _ => rw [hl] at hza; simp [V.one] at hza
          | any => rw [hl] at hza; simp [V.one] at hza
        exact ⟨by simp only [RelCs]; exact ⟨hc, i1⟩, by simp [i2]⟩
  obtain ⟨r1, e1⟩ := key first xs _ hx m1
  obtain ⟨r2, e2⟩ := key caps ys _ hy m2
  refine quiet_of (v' := .func (.func f') (fi.map ρ) (ca.map ρ)) (by simp only [execOp, hop]; rfl) (by simp [Instr.makeFunc]) ?_
  rw [relV_c]
  simp only [RelC]
  refine ⟨_, _, rfl, by simpa using r1, ?_, by simpa using r2, ?_⟩
  · simp [e1, ← l1]
  · simp [e2, ← l2]
end
end Mini
end Go.Proofs.YtgjlofpfbhioaaaGreatDoor
namespace Go.Proofs.YtgjlofpfbhioaaaGreatDoor
namespace Mini
open Go
section
variable {P : Program} {M : MM} {w : World} {k : K} {o : Oper} {lk : A → V} {ρ : Operand → Value} {Hi H : Heap} {base : Nat}
theorem add_at (B o j : Nat) : (⟨B, o, none⟩ : Addr).add j = ⟨B, o + j, none⟩ := by unfold Addr.add; split <;> simp_all
theorem gen_of (hs : Sat P M H base w) (hsub : Sub Hi H) {id g : Nat} {cs : List C} {fz : Bool} (ho : ob? Hi id = some (.cells cs g fz)) (hg : g ≤ M.gen id) (hp : M.gen id = g → M.loc id ≠ none) :
    M.gen id = g ∧ ∃ l fz', M.loc id = some l ∧ ObSat P M w base id (.cells cs g fz') l := by
  obtain ⟨o', h1, h2⟩ := hsub id _ ho
  cases o' with
  | cells cs' g' fz' =>
    simp only [Same] at h2
    obtain ⟨rfl, rfl⟩ := h2
    cases hl : M.loc id with
    | none =>
      rcases hs.idle id _ h1 hl with h3 | h3
      · cases h3
      · have : M.gen id = g := by omega
        exact absurd hl (hp this)
    | some l =>
      obtain ⟨o'', h3, h4⟩ := hs.obj id l hl
      rw [h1] at h3
      cases h3
      have hgen : M.gen id = g := by
        cases l with
        | none => simp only [ObSat] at h4; exact h4.2
        | some l => obtain ⟨B, b, c⟩ := l; simp only [ObSat] at h4; exact h4.1
      exact ⟨hgen, l, fz', rfl, h4⟩
  | _ => simp [Same] at h2
theorem live_ptr (hs : Sat P M H base w) (hsub : Sub Hi H) {id g off : Nat} {cs : List C} {fz : Bool} {v : Value} (ho : ob? Hi id = some (.cells cs g fz)) (r : RelC M (.ptr id g off) v) :
    ∃ B b0 bs fz', M.loc id = some (some (B, b0, bs)) ∧ v = .pointer (some ⟨B, b0 + off, none⟩) ∧ RowSat M w base cs fz' B b0 bs := by
  simp only [RelC] at r
  obtain ⟨_, h2, _, h4⟩ := r
  obtain ⟨hg, l, fz', hl, hos⟩ := gen_of hs hsub ho h2 (fun he hn => by have := h4 he; rw [hn] at this; exact this.elim)
  have h5 := h4 hg
  rw [hl] at h5
  cases l with
  | none => exact h5.elim
  | some l =>
    obtain ⟨B, b0, bs⟩ := l
    simp only [ObSat] at hos
    exact ⟨B, b0, bs, fz', hl, h5, hos.2⟩
theorem live_os (hs : Sat P M H base w) (hsub : Sub Hi H) {id g off len sz : Nat} {cap : Option Nat} {cs : List C} {fz : Bool} {v : Value} (ho : ob? Hi id = some (.cells cs g fz)) (r : RelC M (.os id g off len sz cap) v) :
    ∃ a c, v = .slice a len c ∧ len ≤ c ∧ (∀ k, cap = some k → c = k) ∧ ((M.loc id = some none ∧ a = none ∧ c = 0 ∧ cs = []) ∨
      ∃ B b0 bs fz', M.loc id = some (some (B, b0, bs)) ∧ (c = 0 ∨ a = some ⟨B, b0 + off, none⟩) ∧ b0 + off + c * sz ≤ bs ∧ RowSat M w base cs fz' B b0 bs) := by
  simp only [RelC] at r
  obtain ⟨_, h2, a, c, rfl, h5, _, h6, h4⟩ := r
  obtain ⟨hg, l, fz', hl, hos⟩ := gen_of hs hsub ho h2 (fun he hn => by have := h4 he; rw [hn] at this; exact this.elim)
  have h7 := h4 hg
  rw [hl] at h7
  refine ⟨a, c, rfl, h5, h6, ?_⟩
  cases l with
  | none => simp only [ObSat] at hos; exact .inl ⟨hl, h7.1, h7.2, hos.1⟩
  | some l =>
    obtain ⟨B, b0, bs⟩ := l
    simp only [ObSat] at hos
    exact .inr ⟨B, b0, bs, fz', hl, h7.1, h7.2, hos.2⟩
theorem run_row {B b0 n : Nat} {arr : Array Value} {T : TypeId} {fr : Nat × Nat} (hb : w.heap[B]? = some (.cells arr T fr)) (hn : b0 + n ≤ arr.size) :
    (loadCells ⟨B, b0, none⟩ n).run P w = .ok ((arr.toList.drop b0).take n).toArray w := by
  have := run_loadCells_list (P := P) w ⟨B, b0, none⟩ ((arr.toList.drop b0).take n) (fun j v hv => by
    rw [add_at]
    rw [List.getElem?_take] at hv
    split at hv
    · rw [List.getElem?_drop] at hv
      simp only [World.cell?, hb, Option.isSome_none, Bool.false_eq_true, if_false]
      simpa using hv
    · cases hv)
  rwa [show ((arr.toList.drop b0).take n).length = n by simp; omega] at this
theorem run_loadVar_row {t : TypeId} {g : Bool} {n B b0 : Nat} {arr : Array Value} {T : TypeId} {fr : Nat × Nat} (ha : agg? P t = some g) (hs : size? P t = some n) (hb : w.heap[B]? = some (.cells arr T fr)) (hn : b0 + n ≤ arr.size)
    {cs : List C} {v : V} (hc : RelCs M cs (arr.toList.drop b0)) (hv : ofCells g n (cs.take n) = some v) : ∃ v', (loadVar t ⟨B, b0, none⟩).run P w = .ok v' w ∧ RelV M v v' := by
  unfold loadVar
  rw [Sem.run_bind, run_isAgg ha]
  simp only [Result.andThen_ok]
  unfold ofCells at hv
  split at hv <;> try (cases hv; done)
  rename_i hl
  cases g with
  | true =>
    simp only [if_true, Option.some.injEq] at hv ⊢
    subst hv
    refine ⟨.agg ((arr.toList.drop b0).take n).toArray, ?_, ?_⟩
    · simp only [Sem.run_bind, run_sizeOf hs, Result.andThen_ok, run_row hb hn, Sem.run_pure]
    · rw [relV_agg]
      exact ⟨_, rfl, by simp at hl ⊢; omega, by simpa using hc.take' n⟩
  | false =>
    simp only [Bool.false_eq_true, if_false] at hv ⊢
    split at hv <;> try (cases hv; done)
    rename_i x hx
    simp only [Option.some.injEq] at hv
    subst hv
    have h0 : cs[0]? = some x := by
      have : (cs.take n)[0]? = some x := by rw [hx]; rfl
      rw [List.getElem?_take] at this
      split at this
      · exact this
      · cases this
    obtain ⟨u, hu, hr⟩ := hc.getElem h0
    rw [List.getElem?_drop] at hu
    refine ⟨u, ?_, by rw [relV_c]; exact hr⟩
    have hcell : w.cell? ⟨B, b0, none⟩ = some u := by
      simp only [World.cell?, hb, Option.isSome_none, Bool.false_eq_true, if_false]
      simpa using hu
    simp [hcell]
theorem ofCells_len {g : Bool} {n : Nat} {cs : List C} {v : V} (h : ofCells g n (cs.take n) = some v) : n ≤ cs.length := by
  unfold ofCells at h
  split at h
  · rename_i hl; simp at hl; omega
  · cases h
theorem relDs_map {I : Imm} {M : MM} (hI : M.imm = I) {ds : List D} {vs : List Value} (h : RelDs I ds vs) : RelCs M (ds.map .d) vs := by
  subst hI; exact RelCs.of_d.2 h
theorem q_ld {g : Bool} {m : Nat} {a : A} {v : V} {n : List Ob} (hs : Sat P M H base w) (hsub : ∀ id gen off, lk a = .c (.ptr id gen off) → ∀ o, ob? Hi id = some o → ∃ o', ob? H id = some o' ∧ Same o o')
    (hA : ∀ x a, okA k x a = true → RelV M (lk a) (ρ x)) (hok : okOp P k o (.ld g m a) = true) (h : stepP lk Hi (.ld g m a) = some (v, n)) : Quiet P M w (execOp ρ o) v := by
  cases hop : o.op <;> simp only [okOp, hop] at hok <;> try (cases hok; done)
  rename_i t x
  simp only [Bool.and_eq_true, beq_iff_eq, decide_eq_true_eq] at hok
  obtain ⟨⟨⟨h1, h2⟩, h3⟩, hm⟩ := hok
  have r1 := hA _ _ h3
  refine quiet_of' (by simp only [execOp, hop]; rfl) ?_
  simp only [stepP] at h
  split at h <;> try (cases h; done)
  · rename_i id gen off hx
    have hsub' := hsub id gen off hx
    split at h <;> try (cases h; done)
    rename_i cs g' fz ho
    split at h <;> try (cases h; done)
    rename_i hg
    subst hg
    cases hv : ofCells g m (List.take m (List.drop off cs)) with
    | none => rw [hv] at h; cases h
    | some u =>
      rw [hv] at h
      simp only [Option.map_some, Option.some.injEq, Prod.mk.injEq] at h
      obtain ⟨rfl, rfl⟩ := h
      rw [hx, relV_c] at r1
      obtain ⟨o', ho', hsame⟩ := hsub' _ ho
      cases o' with
      | cells cs' g'' fz' =>
        simp only [Same] at hsame
        obtain ⟨rfl, rfl⟩ := hsame
        obtain ⟨B, b0, bs, fz', hl, hv', arr, T, fr, e1, e2, e3, e4, _⟩ := live_ptr hs (Sub.refl H) ho' r1
        rw [hv']
        unfold Instr.loadAt
        simp only [Sem.run_bind, Instr.sureAddr, Sem.run_pure, Result.andThen_ok]
        have hlen : m ≤ (cs.drop off).length := ofCells_len hv
        have hd := e4.drop off
        rw [List.drop_drop] at hd
        exact run_loadVar_row h1 h2 e1 (by simp at hlen; omega) hd hv
      | _ => simp [Same] at hsame
  · rename_i cs hx
    cases hv : ofCells g m (List.map C.d (List.take m cs)) with
    | none => rw [hv] at h; cases h
    | some u =>
      rw [hv] at h
      simp only [Option.map_some, Option.some.injEq, Prod.mk.injEq] at h
      obtain ⟨rfl, rfl⟩ := h
      rw [hx, relV_d] at r1
      simp only [RelD] at r1
      obtain ⟨B, oo, arr, T, fr, hv', hB, hr⟩ := r1
      rw [hv']
      unfold Instr.loadAt
      simp only [Sem.run_bind, Instr.sureAddr, Sem.run_pure, Result.andThen_ok]
      have hv2 : ofCells g m ((cs.map C.d).take m) = some u := by rw [← List.map_take]; exact hv
      have hlen := ofCells_len hv2
      have hlen2 := hr.length
      simp at hlen hlen2
      exact run_loadVar_row h1 h2 (hs.imm _ _ hB) (by omega) (RelCs.of_d.2 hr) hv2
theorem relC_ptr_add {id g off j : Nat} {v : Value} (r : RelC M (.ptr id g off) v) : ∃ B x, v = .pointer (some ⟨B, x, none⟩) ∧ RelC M (.ptr id g (off + j)) (.pointer (some ⟨B, x + j, none⟩)) := by
  simp only [RelC] at r ⊢
  obtain ⟨h1, h2, ⟨B, x, rfl⟩, h4⟩ := r
  refine ⟨B, x, rfl, h1, h2, ⟨B, x + j, rfl⟩, fun he => ?_⟩
  have h5 := h4 he
  cases hl : M.loc id with
  | none => rw [hl] at h5; exact h5.elim
  | some l =>
    rw [hl] at h5
    cases l with
    | none => exact h5.elim
    | some l =>
      obtain ⟨B', b0, bs⟩ := l
      simp only [PtrAt, Value.pointer.injEq, Option.some.injEq, Addr.mk.injEq, and_true] at h5 ⊢
      obtain ⟨rfl, rfl⟩ := h5
      exact ⟨rfl, by omega⟩
theorem relD_ip_drop {I : Imm} {cs : List D} {j : Nat} {v : Value} (r : RelD I (.ip cs) v) : ∃ B x, v = .pointer (some ⟨B, x, none⟩) ∧ RelD I (.ip (cs.drop j)) (.pointer (some ⟨B, x + j, none⟩)) := by
  simp only [RelD] at r ⊢
  obtain ⟨B, oo, arr, T, fr, rfl, hB, hr⟩ := r
  refine ⟨B, oo, rfl, B, oo + j, arr, T, fr, rfl, hB, ?_⟩
  have := hr.drop j
  rwa [List.drop_drop] at this
theorem q_fa {off : Nat} {a : A} {v : V} {n : List Ob} (hA : ∀ x a, okA k x a = true → RelV M (lk a) (ρ x)) (hok : okOp P k o (.fa off a) = true) (h : stepP lk Hi (.fa off a) = some (v, n)) : Quiet P M w (execOp ρ o) v := by
  cases hop : o.op <;> simp only [okOp, hop] at hok <;> try (cases hok; done)
  rename_i t x f
  simp only [Bool.and_eq_true] at hok
  obtain ⟨h1, h2⟩ := hok
  have r1 := hA _ _ h2
  refine quiet_of' (by simp only [execOp, hop]; rfl) ?_
  split at h1 <;> try (cases h1; done)
  rename_i fs hu
  split at h1 <;> try (cases h1; done)
  rename_i fd hf
  simp only [Bool.and_eq_true, beq_iff_eq] at h1
  obtain ⟨rfl, h3⟩ := h1
  split at h3 <;> try (cases h3; done)
  rename_i m hsz
  have hm : m ≠ 0 := by simpa using h3
  have run : ∀ B x, (Instr.fieldAt t (.pointer (some ⟨B, x, none⟩)) f).run P w = .ok (.pointer (some ⟨B, x + fd.offset, none⟩)) w := by
    intro B x
    simp [Instr.fieldAt, run_underlying hu, hf, Instr.sureAddr, fieldPlace, run_sizeOf hsz, hm, add_at]
  simp only [stepP] at h
  split at h <;> try (cases h; done)
  · rename_i id g oo hx
    simp only [Option.some.injEq, Prod.mk.injEq] at h
    obtain ⟨rfl, rfl⟩ := h
    rw [hx, relV_c] at r1
    obtain ⟨B, x, hv, hr⟩ := relC_ptr_add (j := fd.offset) r1
    exact ⟨_, by rw [hv]; exact run B x, by rw [relV_c]; exact hr⟩
  · rename_i cs hx
    split at h <;> try (cases h; done)
    simp only [Option.some.injEq, Prod.mk.injEq] at h
    obtain ⟨rfl, rfl⟩ := h
    rw [hx, relV_d] at r1
    obtain ⟨B, x, hv, hr⟩ := relD_ip_drop (j := fd.offset) r1
    exact ⟨_, by rw [hv]; exact run B x, by rw [relV_d]; exact hr⟩
theorem part_rel {t : TypeId} {g : Bool} {off m : Nat} {arr : Array Value} {cs : List C} {v : V} (ha : agg? P t = some g) (hsz : size? P t = some m) (hr : RelCs M cs arr.toList) (hv : ofCells g m ((cs.drop off).take m) = some v) (hm : 0 < m) :
    ∃ v', (part t arr off).run P w = .ok v' w ∧ RelV M v v' := by
  have hlen := ofCells_len hv
  have hl2 := hr.length
  simp at hlen hl2
  cases g with
  | true =>
    unfold ofCells at hv
    split at hv <;> try (cases hv; done)
    simp only [if_true, Option.some.injEq] at hv
    subst hv
    refine ⟨_, part_agg ha hsz, ?_⟩
    rw [relV_agg]
    refine ⟨_, rfl, by simp; omega, ?_⟩
    have := (hr.drop off).take' m
    simpa [Array.toList_extract, List.extract_eq_take_drop] using this
  | false =>
    unfold ofCells at hv
    split at hv <;> try (cases hv; done)
    simp only [Bool.false_eq_true, if_false] at hv
    split at hv <;> try (cases hv; done)
    rename_i x hx
    simp only [Option.some.injEq] at hv
    subst hv
    have h0 : cs[off]? = some x := by
      have : ((cs.drop off).take m)[0]? = some x := by rw [hx]; rfl
      rw [List.getElem?_take] at this
      split at this
      · rw [List.getElem?_drop] at this; simpa using this
      · omega
    obtain ⟨u, hu, hr'⟩ := hr.getElem h0
    exact ⟨u, part_cell ha (by simpa using hu), by rw [relV_c]; exact hr'⟩
theorem q_fld {g : Bool} {off m : Nat} {a : A} {v : V} {n : List Ob} (hA : ∀ x a, okA k x a = true → RelV M (lk a) (ρ x)) (hok : okOp P k o (.fld g off m a) = true) (h : stepP lk Hi (.fld g off m a) = some (v, n)) : Quiet P M w (execOp ρ o) v := by
  cases hop : o.op <;> simp only [okOp, hop] at hok <;> try (cases hok; done)
  rename_i t x f
  simp only [Bool.and_eq_true, decide_eq_true_eq] at hok
  obtain ⟨⟨h1, h2⟩, hm⟩ := hok
  have r1 := hA _ _ h2
  refine quiet_of' (by simp only [execOp, hop]; rfl) ?_
  split at h1 <;> try (cases h1; done)
  rename_i fs hu
  split at h1 <;> try (cases h1; done)
  rename_i fd hf
  simp only [Bool.and_eq_true, beq_iff_eq] at h1
  obtain ⟨⟨rfl, h3⟩, h4⟩ := h1
  simp only [stepP] at h
  split at h <;> try (cases h; done)
  rename_i cs hx
  cases hv : ofCells g m (List.take m (List.drop fd.offset cs)) with
  | none => rw [hv] at h; cases h
  | some u =>
    rw [hv] at h
    simp only [Option.map_some, Option.some.injEq, Prod.mk.injEq] at h
    obtain ⟨rfl, rfl⟩ := h
    rw [hx, relV_agg] at r1
    obtain ⟨arr, e1, _, hr⟩ := r1
    obtain ⟨v', h5, h6⟩ := part_rel (P := P) (w := w) h4 h3 hr hv hm
    exact ⟨v', by rw [e1]; simp [Instr.field, run_underlying hu, hf, asAgg, h5], h6⟩
theorem q_ixg {g : Bool} {len sz : Nat} {a i : A} {v : V} {n : List Ob} (hA : ∀ x a, okA k x a = true → RelV M (lk a) (ρ x)) (hok : okOp P k o (.ixg g len sz a i) = true) (h : stepP lk Hi (.ixg g len sz a i) = some (v, n)) : Quiet P M w (execOp ρ o) v := by
  cases hop : o.op <;> simp only [okOp, hop] at hok <;> try (cases hok; done)
  rename_i t x ix
  simp only [Bool.and_eq_true, decide_eq_true_eq] at hok
  obtain ⟨⟨⟨h1, h2⟩, h2'⟩, hm⟩ := hok
  have r1 := hA _ _ h2
  have r2 := hA _ _ h2'
  refine quiet_of' (by simp only [execOp, hop]; rfl) ?_
  split at h1 <;> try (cases h1; done)
  rename_i n' elem hu
  simp only [Bool.and_eq_true, beq_iff_eq] at h1
  obtain ⟨⟨rfl, h3⟩, h4⟩ := h1
  simp only [stepP] at h
  split at h <;> try (cases h; done)
  rename_i cs j hx hj
  split at h <;> try (cases h; done)
  rename_i hlt
  cases hv : ofCells g sz (List.take sz (List.drop (j * sz) cs)) with
  | none => rw [hv] at h; cases h
  | some u =>
    rw [hv] at h
    simp only [Option.map_some, Option.some.injEq, Prod.mk.injEq] at h
    obtain ⟨rfl, rfl⟩ := h
    rw [hx, relV_agg] at r1
    obtain ⟨arr, e1, _, hr⟩ := r1
    obtain ⟨kd, e2⟩ := asNat_rel hj r2
    obtain ⟨v', h5, h6⟩ := part_rel (P := P) (w := w) h4 h3 hr hv hm
    refine ⟨v', ?_, h6⟩
    rw [e1, e2]
    have hc : (0 : Int) ≤ (j : Int) ∧ (j : Int) < (n' : Int) := by omega
    unfold Instr.index
    simp only [asIntOf, Sem.run_bind, Sem.run_pure, Result.andThen_ok, run_underlying hu, Sem.run_ite, if_pos hc, run_sizeOf h3, Int.toNat_natCast, h5]
theorem q_ixp {len sz : Nat} {a i : A} {v : V} {n : List Ob} (hA : ∀ x a, okA k x a = true → RelV M (lk a) (ρ x)) (hok : okOp P k o (.ixp len sz a i) = true) (h : stepP lk Hi (.ixp len sz a i) = some (v, n)) : Quiet P M w (execOp ρ o) v := by
  cases hop : o.op <;> simp only [okOp, hop] at hok <;> try (cases hok; done)
  rename_i t x ix
  simp only [Bool.and_eq_true] at hok
  obtain ⟨⟨h1, h2⟩, h2'⟩ := hok
  have r1 := hA _ _ h2
  have r2 := hA _ _ h2'
  refine quiet_of' (by simp only [execOp, hop]; rfl) ?_
  split at h1 <;> try (cases h1; done)
  rename_i n' elem hu
  simp only [Bool.and_eq_true, beq_iff_eq] at h1
  obtain ⟨rfl, h3⟩ := h1
  simp only [stepP] at h
  split at h <;> try (cases h; done)
  rename_i j hj
  split at h <;> try (cases h; done)
  rename_i hlt
  obtain ⟨kd, e2⟩ := asNat_rel hj r2
  have hc : (0 : Int) ≤ (j : Int) ∧ (j : Int) < (n' : Int) := by omega
  have run : ∀ B x, (Instr.indexAt t (.pointer (some ⟨B, x, none⟩)) (.int kd j)).run P w = .ok (.pointer (some ⟨B, x + j * sz, none⟩)) w := by
    intro B x
    unfold Instr.indexAt
    simp only [asIntOf, Sem.run_bind, Sem.run_pure, Result.andThen_ok, run_underlying hu, Instr.sureAddr, Sem.run_ite, if_pos hc, run_sizeOf h3, Int.toNat_natCast, add_at]
  split at h <;> try (cases h; done)
  · rename_i id g oo hx
    simp only [Option.some.injEq, Prod.mk.injEq] at h
    obtain ⟨rfl, rfl⟩ := h
    rw [hx, relV_c] at r1
    obtain ⟨B, x, hv, hr⟩ := relC_ptr_add (j := j * sz) r1
    exact ⟨_, by rw [hv, e2]; exact run B x, by rw [relV_c]; exact hr⟩
  · rename_i cs hx
    split at h <;> try (cases h; done)
    simp only [Option.some.injEq, Prod.mk.injEq] at h
    obtain ⟨rfl, rfl⟩ := h
    rw [hx, relV_d] at r1
    obtain ⟨B, x, hv, hr⟩ := relD_ip_drop (j := j * sz) r1
    exact ⟨_, by rw [hv, e2]; exact run B x, by rw [relV_d]; exact hr⟩
theorem relC_os_at {id g off len sz j : Nat} {cap : Option Nat} {v : Value} (r : RelC M (.os id g off len sz cap) v) (hj : j < len) : ∃ B x c, v = .slice (some ⟨B, x, none⟩) len c ∧ RelC M (.ptr id g (off + j * sz)) (.pointer (some ⟨B, x + j * sz, none⟩)) := by
  simp only [RelC] at r ⊢
  obtain ⟨h1, h2, a, c, rfl, h4, h5, h6, h7⟩ := r
  rcases h5 with h5 | ⟨B, x, rfl⟩
  · omega
  refine ⟨B, x, c, rfl, h1, h2, ⟨_, _, rfl⟩, fun he => ?_⟩
  have h8 := h7 he
  cases hl : M.loc id with
  | none => rw [hl] at h8; exact h8.elim
  | some l =>
    rw [hl] at h8
    cases l with
    | none => simp [OsAt] at h8
    | some l =>
      obtain ⟨B', b0, bs⟩ := l
      simp only [OsAt, Option.some.injEq, Addr.mk.injEq, and_true] at h8
      rcases h8.1 with h9 | ⟨rfl, rfl⟩
      · omega
      · simp only [PtrAt, Value.pointer.injEq, Option.some.injEq, Addr.mk.injEq, and_true, true_and]
        omega
theorem q_ixa {sz : Nat} {a i : A} {v : V} {n : List Ob} (hA : ∀ x a, okA k x a = true → RelV M (lk a) (ρ x)) (hok : okOp P k o (.ixa sz a i) = true) (h : stepP lk Hi (.ixa sz a i) = some (v, n)) : Quiet P M w (execOp ρ o) v := by
  cases hop : o.op <;> simp only [okOp, hop] at hok <;> try (cases hok; done)
  rename_i t x ix
  simp only [Bool.and_eq_true] at hok
  obtain ⟨⟨h1, h2⟩, h2'⟩ := hok
  have r1 := hA _ _ h2
  have r2 := hA _ _ h2'
  refine quiet_of' (by simp only [execOp, hop]; rfl) ?_
  split at h1 <;> try (cases h1; done)
  rename_i elem hu
  simp only [beq_iff_eq] at h1
  simp only [stepP] at h
  split at h <;> try (cases h; done)
  rename_i j hj
  obtain ⟨kd, e2⟩ := asNat_rel hj r2
  have run : ∀ B x len c, j < len → (Instr.indexAt t (.slice (some ⟨B, x, none⟩) len c) (.int kd j)).run P w = .ok (.pointer (some ⟨B, x + j * sz, none⟩)) w := by
    intro B x len c hlt
    have hc : (0 : Int) ≤ (j : Int) ∧ (j : Int) < (len : Int) := by omega
    unfold Instr.indexAt
    simp only [asIntOf, Sem.run_bind, Sem.run_pure, Result.andThen_ok, run_underlying hu, Sem.run_ite, if_pos hc, run_sizeOf h1, Int.toNat_natCast, add_at]
  split at h <;> try (cases h; done)
  · rename_i cs len hx
    split at h <;> try (cases h; done)
    rename_i hlt
    simp only [Option.some.injEq, Prod.mk.injEq] at h
    obtain ⟨rfl, rfl⟩ := h
    rw [hx, relV_d] at r1
    simp only [RelD] at r1
    obtain ⟨ad, c, hv, hle, hr⟩ := r1
    rcases hr with hr | ⟨B, oo, arr, T, fr, rfl, hB, hr⟩
    · subst hr; simp at hlt
    · refine ⟨_, by rw [hv, e2]; exact run B oo len c hlt.1, ?_⟩
      rw [relV_d]
      simp only [RelD]
      refine ⟨B, oo + j * sz, arr, T, fr, rfl, hB, ?_⟩
      have := hr.drop (j * sz)
      rwa [List.drop_drop] at this
  · rename_i id g off len sz' cap hx
    split at h <;> try (cases h; done)
    rename_i hlt
    simp only [Option.some.injEq, Prod.mk.injEq] at h
    obtain ⟨rfl, rfl⟩ := h
    obtain ⟨rfl, hlt⟩ := hlt
    rw [hx, relV_c] at r1
    obtain ⟨B, x, c, hv, hr⟩ := relC_os_at r1 hlt
    exact ⟨_, by rw [hv, e2]; exact run B x len c hlt, by rw [relV_c]; exact hr⟩
theorem q_ixs {a i : A} {v : V} {n : List Ob} (hA : ∀ x a, okA k x a = true → RelV M (lk a) (ρ x)) (hok : okOp P k o (.ixs a i) = true) (h : stepP lk Hi (.ixs a i) = some (v, n)) : Quiet P M w (execOp ρ o) v := by
  cases hop : o.op <;> simp only [okOp, hop] at hok <;> try (cases hok; done)
  rename_i t x ix
  simp only [Bool.and_eq_true] at hok
  obtain ⟨⟨h1, h2⟩, h2'⟩ := hok
  have r1 := hA _ _ h2
  have r2 := hA _ _ h2'
  split at h1 <;> try (cases h1; done)
  rename_i hu
  simp only [stepP] at h
  split at h <;> try (cases h; done)
  rename_i s j hx hj
  split at h <;> try (cases h; done)
  rename_i b hb
  simp only [Option.some.injEq, Prod.mk.injEq] at h
  obtain ⟨rfl, rfl⟩ := h
  obtain ⟨kd, e2⟩ := asNat_rel hj r2
  rw [hx, relV_str] at r1
  obtain ⟨bs, e1, rfl⟩ := r1
  rw [List.getElem?_map] at hb
  cases hc : bs.data.toList[j]? with
  | none => rw [hc] at hb; cases hb
  | some u =>
    rw [hc] at hb
    simp only [Option.map_some, Option.some.injEq] at hb
    subst hb
    refine quiet_of (v' := .int .u8 (Int.ofNat u.toNat)) (by simp only [execOp, hop]; rfl) ?_ (by rw [relV_int])
    have hg : bs[j]? = some u := by
      have : bs.data[j]? = some u := by simpa using hc
      have hlt : j < bs.data.size := (Array.getElem?_eq_some_iff.1 this).1
      rw [getElem?_pos bs j hlt]
      have h3 := (Array.getElem?_eq_some_iff.1 this).2
      exact congrArg some h3
    rw [e1, e2]
    simp [Instr.index, asIntOf, run_underlying hu, hg]
end
end Mini
end Go.Proofs.YtgjlofpfbhioaaaGreatDoor
namespace Go.Proofs.YtgjlofpfbhioaaaGreatDoor
namespace Mini
open Go
section
variable {P : Program} {M : MM} {w : World} {k : K} {o : Oper} {lk : A → V} {ρ : Operand → Value} {Hi H : Heap} {base : Nat}
theorem optNat_rel {d n : Nat} {x : Option Operand} {a : Option A} (hA : ∀ x a, okA k x a = true → RelV M (lk a) (ρ x)) (hok : okO k x a = true) (h : optNat d (a.map lk) = some n) :
    (x = none ∧ a = none ∧ n = d) ∨ ∃ y kd, x = some y ∧ a.isSome = true ∧ ρ y = .int kd (n : Int) := by
  cases x with
  | none =>
    cases a with
    | none => simp only [optNat, Option.map_none, Option.some.injEq] at h; exact .inl ⟨rfl, rfl, h.symm⟩
    | some a => simp [okO] at hok
  | some y =>
    cases a with
    | none => simp [okO] at hok
    | some a =>
      simp only [okO] at hok
      simp only [Option.map_some, optNat] at h
      obtain ⟨kd, hk⟩ := asNat_rel h (hA _ _ hok)
      exact .inr ⟨y, kd, rfl, rfl, hk⟩
theorem run_sliceBound {kd : IntKind} {i y : Nat} {c : BoundsCode} (h : i ≤ y) : (Instr.sliceBound (.int kd (i : Int)) y c).run P w = .ok i w := by
  unfold Instr.sliceBound
  have hc : (0 : Int) ≤ (i : Int) ∧ (i : Int) ≤ (y : Int) := by omega
  simp only [asIntOf, Sem.run_bind, Sem.run_pure, Result.andThen_ok, Sem.run_ite, if_pos hc, Int.toNat_natCast]
theorem run_sliceBounds {isS : Bool} {len cap l h m : Nat} {lo hi mx : Option Operand} {lo' hi' mx' : Option A} (hA : ∀ x a, okA k x a = true → RelV M (lk a) (ρ x))
    (h1 : okO k lo lo' = true) (h2 : okO k hi hi' = true) (h3 : okO k mx mx' = true) (hm : mx.isNone = true ∨ hi.isSome = true)
    (e1 : optNat 0 (lo'.map lk) = some l) (e2 : optNat len (hi'.map lk) = some h) (e3 : optNat cap (mx'.map lk) = some m) (hlh : l ≤ h) (hhm : h ≤ m) (hmc : m ≤ cap) :
    (Instr.sliceBounds isS len cap (lo.map ρ) (hi.map ρ) (mx.map ρ)).run P w = .ok (l, h, m) w := by
  unfold Instr.sliceBounds
  rcases optNat_rel hA h1 e1 with ⟨rfl, rfl, rfl⟩ | ⟨y1, k1, rfl, _, r1⟩ <;>
  rcases optNat_rel hA h2 e2 with ⟨rfl, rfl, rfl⟩ | ⟨y2, k2, rfl, _, r2⟩ <;>
  rcases optNat_rel hA h3 e3 with ⟨rfl, rfl, rfl⟩ | ⟨y3, k3, rfl, _, r3⟩ <;>
  first
    | (simp at hm; done)
    | (simp only [Option.map_some, Option.map_none, *, run_sliceBound hlh, run_sliceBound hhm, run_sliceBound hmc, Sem.run_bind, Sem.run_pure, Result.andThen_ok]; done)
theorem bytes_extract (bs : ByteArray) (l h : Nat) : (bs.extract l h).data.toList.map UInt8.toNat = ((bs.data.toList.map UInt8.toNat).take h).drop l := by
  rw [ByteArray.data_extract, Array.toList_extract, List.extract_eq_take_drop, ← List.map_take, ← List.map_drop]
  congr 1
  rw [List.drop_take]
theorem q_sls {a : A} {lo hi : Option A} {v : V} {n : List Ob} (hA : ∀ x a, okA k x a = true → RelV M (lk a) (ρ x)) (hok : okOp P k o (.sls a lo hi) = true) (h : stepP lk Hi (.sls a lo hi) = some (v, n)) : Quiet P M w (execOp ρ o) v := by
  cases hop : o.op <;> simp only [okOp, hop] at hok <;> try (cases hok; done)
  rename_i t x xlo xhi xmx
  simp only [Bool.and_eq_true] at hok
  obtain ⟨⟨⟨⟨h1, h2⟩, h3⟩, h4⟩, h5⟩ := hok
  have r1 := hA _ _ h2
  split at h1 <;> try (cases h1; done)
  rename_i hu
  cases xmx with
  | some _ => simp at h5
  | none =>
  simp only [stepP] at h
  split at h <;> try (cases h; done)
  rename_i s hx
  split at h <;> try (cases h; done)
  rename_i hh ll e1 e2
  split at h <;> try (cases h; done)
  rename_i hb
  simp only [Option.some.injEq, Prod.mk.injEq] at h
  obtain ⟨rfl, rfl⟩ := h
  rw [hx, relV_str] at r1
  obtain ⟨bs, e3, rfl⟩ := r1
  have hlen : (bs.data.toList.map UInt8.toNat).length = bs.size := by rw [List.length_map, Array.length_toList]; rfl
  rw [hlen] at e1 hb
  refine quiet_of (v' := .string (bs.extract ll hh)) (by simp only [execOp, hop]; rfl) ?_ (by rw [relV_str]; exact ⟨_, rfl, bytes_extract bs ll hh⟩)
  have hbounds := run_sliceBounds (P := P) (w := w) (isS := false) (len := bs.size) (cap := bs.size) (m := bs.size) (mx := none) (mx' := none) hA h3 h4 rfl (.inl rfl) e2 e1 rfl hb.1 hb.2 (Nat.le_refl _)
  simp only [Option.map_none] at hbounds
  rw [e3]
  unfold Instr.sliceAt
  rw [Sem.run_bind, run_underlying hu]
  simp only [Result.andThen_ok]
  unfold Instr.slice
  rw [Sem.run_bind, run_underlying hu]
  simp only [Result.andThen_ok, Option.map_none, Option.isSome_none, Bool.false_eq_true, if_false, Sem.run_bind, hbounds, Sem.run_pure]
theorem relDs_seg {I : Imm} {cs : List D} {vs : List Value} (h : RelDs I cs vs) (i n : Nat) : RelDs I ((cs.drop i).take n) (vs.drop i) := (h.drop i).take n
theorem q_slc {sz : Nat} {a : A} {lo hi mx : Option A} {v : V} {n : List Ob} (hA : ∀ x a, okA k x a = true → RelV M (lk a) (ρ x)) (hok : okOp P k o (.slc sz a lo hi mx) = true) (h : stepP lk Hi (.slc sz a lo hi mx) = some (v, n)) : Quiet P M w (execOp ρ o) v := by
  cases hop : o.op <;> simp only [okOp, hop] at hok <;> try (cases hok; done)
  rename_i t x xlo xhi xmx
  simp only [Bool.and_eq_true, Bool.or_eq_true, decide_eq_true_eq] at hok
  obtain ⟨⟨⟨⟨⟨⟨h1, h2⟩, h3⟩, h4⟩, h5⟩, h6⟩, h7⟩ := hok
  have r1 := hA _ _ h2
  split at h1 <;> try (cases h1; done)
  rename_i elem hu
  simp only [beq_iff_eq] at h1
  have run : ∀ (ad : Option Addr) (len cap l h m : Nat), (Instr.sliceBounds true len cap (xlo.map ρ) (xhi.map ρ) (xmx.map ρ)).run P w = .ok (l, h, m) w →
      (Instr.sliceAt t (.slice ad len cap) (xlo.map ρ) (xhi.map ρ) (xmx.map ρ)).run P w = .ok (.slice (if m = l then ad else ad.map (·.add (l * sz))) (h - l) (m - l)) w := by
    intro ad len cap l h m hb
    simp [Instr.sliceAt, Instr.slice, run_underlying hu, hb, run_sizeOf h1]
  refine quiet_of' (by simp only [execOp, hop]; rfl) ?_
  simp only [stepP] at h
  split at h <;> try (cases h; done)
  · rename_i hx
    split at h <;> try (cases h; done)
    rename_i e1 e2 e3
    simp only [Option.some.injEq, Prod.mk.injEq] at h
    obtain ⟨rfl, rfl⟩ := h
    rw [hx, relV_nils] at r1
    have hb := run_sliceBounds (P := P) (w := w) (isS := true) (len := 0) (cap := 0) hA h3 h4 h5 h6 e2 e1 e3 (Nat.le_refl _) (Nat.le_refl _) (Nat.le_refl _)
    exact ⟨.slice none 0 0, by rw [r1, run none 0 0 0 0 0 hb]; simp, by rw [relV_nils]⟩
  · rename_i cs len hx
    split at h <;> try (cases h; done)
    rename_i hh ll mm e1 e2 e3
    split at h <;> try (cases h; done)
    rename_i hc
    simp only [Option.some.injEq, Prod.mk.injEq] at h
    obtain ⟨rfl, rfl⟩ := h
    rw [hx, relV_d] at r1
    simp only [RelD] at r1
    obtain ⟨ad, cap, hv, hle, hr⟩ := r1
    obtain ⟨c1, c2, c3, c4⟩ := hc
    obtain ⟨m2, hm2, e3', hmm⟩ : ∃ m2, m2 ≤ cap ∧ optNat cap (mx.map lk) = some m2 ∧ hh ≤ m2 := by
      cases mx with
      | none => simp only [Option.map_none, optNat, Option.some.injEq] at e3 ⊢; exact ⟨cap, Nat.le_refl _, rfl, by omega⟩
      | some mx => simp only [Option.map_some, optNat] at e3 ⊢; exact ⟨mm, by omega, e3, c2⟩
    have hb := run_sliceBounds (P := P) (w := w) (isS := true) (len := len) (cap := cap) hA h3 h4 h5 h6 e2 e1 e3' c1 hmm hm2
    refine ⟨_, by rw [hv, run _ _ _ _ _ _ hb], ?_⟩
    rw [relV_d]
    simp only [RelD]
    refine ⟨_, _, rfl, by omega, ?_⟩
    by_cases hz : hh - ll = 0
    · left; simp [hz]
    · right
      rcases hr with hr | ⟨B, oo, arr, T, fr, rfl, hB, hr⟩
      · subst hr
        simp only [List.length_nil] at c4
        have : len = 0 := by
          rcases Nat.eq_zero_or_pos len with h' | h'
          · exact h'
          · have := Nat.mul_pos h' h7; omega
        omega
      · refine ⟨B, oo + ll * sz, arr, T, fr, ?_, hB, ?_⟩
        · rw [if_neg (by omega)]; simp [add_at]
        · have := relDs_seg hr (ll * sz) ((hh - ll) * sz)
          rwa [List.drop_drop] at this
  · rename_i id g off len sz' cap hx
    split at h <;> try (cases h; done)
    rename_i hh ll e1 e2
    split at h <;> try (cases h; done)
    rename_i hc
    obtain ⟨rfl, c1, c2⟩ := hc
    rw [hx, relV_c] at r1
    simp only [RelC] at r1
    obtain ⟨q1, q2, ad, cp, hv, q4, q5, q6, q7⟩ := r1
    have fin : ∀ (m2 : Nat) (cap2 : Option Nat), hh ≤ m2 → m2 ≤ cp → (∀ kk, cap2 = some kk → m2 - ll = kk) →
        RelC M (.os id g (off + ll * sz') (hh - ll) sz' cap2) (.slice (if m2 = ll then ad else ad.map (·.add (ll * sz'))) (hh - ll) (m2 - ll)) := by
      intro m2 cap2 b1 b2 b3
      simp only [RelC]
      refine ⟨q1, q2, _, _, rfl, by omega, ?_, b3, ?_⟩
      · by_cases hz : m2 = ll
        · left; omega
        · right
          rcases q5 with q5 | ⟨B, xx, rfl⟩
          · omega
          · exact ⟨B, xx + ll * sz', by rw [if_neg hz]; simp [add_at]⟩
      · intro he
        have q8 := q7 he
        cases hl : M.loc id with
        | none => rw [hl] at q8; exact q8.elim
        | some l =>
          rw [hl] at q8
          cases l with
          | none =>
            simp only [OsAt] at q8 ⊢
            obtain ⟨q8, q9⟩ := q8
            subst q8
            have : m2 = 0 := by omega
            subst this
            have : ll = 0 := by omega
            subst this
            simp
          | some l =>
            obtain ⟨B, b0, bs⟩ := l
            simp only [OsAt] at q8 ⊢
            obtain ⟨q8, q9⟩ := q8
            have hmul : (m2 - ll) * sz' + ll * sz' = m2 * sz' := by rw [← Nat.add_mul]; congr 1; omega
            have hmul2 : m2 * sz' ≤ cp * sz' := Nat.mul_le_mul_right _ b2
            refine ⟨?_, by omega⟩
            by_cases hz : m2 = ll
            · left; omega
            · right
              rw [if_neg hz]
              rcases q8 with q8 | q8
              · omega
              · rw [q8]; simp [add_at]; omega
    split at h
    · rename_i hmx
      simp only [Option.some.injEq, Prod.mk.injEq] at h
      obtain ⟨rfl, rfl⟩ := h
      have hb := run_sliceBounds (P := P) (w := w) (isS := true) (len := len) (cap := cp) (m := cp) hA h3 h4 h5 h6 e2 e1 (by simp [optNat]) c1 (by omega) (Nat.le_refl _)
      refine ⟨_, by rw [hv, run _ _ _ _ _ _ hb], ?_⟩
      rw [relV_c]
      refine fin cp _ (by omega) (Nat.le_refl _) ?_
      intro kk hk
      cases cap with
      | none => cases hk
      | some c => simp only [Option.map_some, Option.some.injEq] at hk; have := q6 c rfl; omega
    · rename_i mx'
      split at h <;> try (cases h; done)
      rename_i m3 e3
      split at h <;> try (cases h; done)
      rename_i hc3
      simp only [Option.some.injEq, Prod.mk.injEq] at h
      obtain ⟨rfl, rfl⟩ := h
      have hm3 : m3 ≤ cp := by
        cases cap with
        | none => simp at hc3; omega
        | some c => simp at hc3; have := q6 c rfl; omega
      have hb := run_sliceBounds (P := P) (w := w) (isS := true) (len := len) (cap := cp) (m := m3) hA h3 h4 h5 h6 e2 e1 (by simpa [optNat] using e3) c1 hc3.1 hm3
      refine ⟨_, by rw [hv, run _ _ _ _ _ _ hb], ?_⟩
      rw [relV_c]
      exact fin m3 _ hc3.1 hm3 (fun kk hk => by simpa using hk)
theorem q_slp {len sz : Nat} {a : A} {lo hi mx : Option A} {v : V} {n : List Ob} (hs : Sat P M H base w) (hsub : Sub Hi H) (hA : ∀ x a, okA k x a = true → RelV M (lk a) (ρ x)) (hok : okOp P k o (.slp len sz a lo hi mx) = true)
    (h : stepP lk Hi (.slp len sz a lo hi mx) = some (v, n)) : Quiet P M w (execOp ρ o) v := by
  cases hop : o.op <;> simp only [okOp, hop] at hok <;> try (cases hok; done)
  rename_i t x xlo xhi xmx
  simp only [Bool.and_eq_true, Bool.or_eq_true] at hok
  obtain ⟨⟨⟨⟨⟨h1, h2⟩, h3⟩, h4⟩, h5⟩, h6⟩ := hok
  have r1 := hA _ _ h2
  split at h1 <;> try (cases h1; done)
  rename_i n' elem hu
  simp only [Bool.and_eq_true, beq_iff_eq] at h1
  obtain ⟨rfl, h7⟩ := h1
  have run : ∀ (B xx l h m : Nat), (Instr.sliceBounds false n' n' (xlo.map ρ) (xhi.map ρ) (xmx.map ρ)).run P w = .ok (l, h, m) w →
      (Instr.sliceAt t (.pointer (some ⟨B, xx, none⟩)) (xlo.map ρ) (xhi.map ρ) (xmx.map ρ)).run P w = .ok (.slice (some (if m = l then ⟨B, xx, none⟩ else ⟨B, xx + l * sz, none⟩)) (h - l) (m - l)) w := by
    intro B xx l h m hb
    unfold Instr.sliceAt
    rw [Sem.run_bind, run_underlying hu]
    simp only [Result.andThen_ok, Instr.sureAddr, Sem.run_bind, Sem.run_pure, hb, run_sizeOf h7, add_at]
  refine quiet_of' (by simp only [execOp, hop]; rfl) ?_
  simp only [stepP] at h
  split at h <;> try (cases h; done)
  rename_i hh ll mm e1 e2 e3
  split at h <;> try (cases h; done)
  rename_i hc
  obtain ⟨c1, c2, c3⟩ := hc
  have hb := run_sliceBounds (P := P) (w := w) (isS := false) (len := n') (cap := n') hA h3 h4 h5 h6 e2 e1 e3 c1 c2 c3
  split at h <;> try (cases h; done)
  · rename_i id g off hx
    split at h <;> try (cases h; done)
    rename_i cs g' fz ho
    split at h <;> try (cases h; done)
    rename_i hc2
    obtain ⟨rfl, hc2⟩ := hc2
    simp only [Option.some.injEq, Prod.mk.injEq] at h
    obtain ⟨rfl, rfl⟩ := h
    rw [hx, relV_c] at r1
    obtain ⟨B, b0, bs, fz', hl, hv, arr, T, fr, f1, f2, f3, f4, f5⟩ := live_ptr hs hsub ho r1
    refine ⟨_, by rw [hv, run _ _ _ _ _ hb], ?_⟩
    rw [relV_c]
    simp only [RelC] at r1 ⊢
    obtain ⟨q1, q2, _, q4⟩ := r1
    have hmul : (mm - ll) * sz + ll * sz = mm * sz := by rw [← Nat.add_mul]; congr 1; omega
    have hmul2 : mm * sz ≤ n' * sz := Nat.mul_le_mul_right _ c3
    refine ⟨q1, q2, _, _, rfl, by omega, ?_, fun kk hk => by simpa using hk, fun _ => ?_⟩
    · right
      by_cases hz : mm = ll
      · exact ⟨_, _, by rw [if_pos hz]⟩
      · exact ⟨_, _, by rw [if_neg hz]⟩
    · rw [hl]
      simp only [OsAt]
      refine ⟨?_, by omega⟩
      by_cases hz : mm = ll
      · left; omega
      · right; rw [if_neg hz]; simp; omega
  · rename_i cs hx
    split at h <;> try (cases h; done)
    rename_i hc2
    simp only [Option.some.injEq, Prod.mk.injEq] at h
    obtain ⟨rfl, rfl⟩ := h
    rw [hx, relV_d] at r1
    simp only [RelD] at r1
    obtain ⟨B, oo, arr, T, fr, hv, hB, hr⟩ := r1
    refine ⟨_, by rw [hv, run _ _ _ _ _ hb], ?_⟩
    rw [relV_d]
    simp only [RelD]
    refine ⟨_, _, rfl, by omega, ?_⟩
    by_cases hz : hh - ll = 0
    · left; simp [hz]
    · right
      refine ⟨B, oo + ll * sz, arr, T, fr, by rw [if_neg (by omega)], hB, ?_⟩
      have := relDs_seg hr (ll * sz) ((hh - ll) * sz)
      rwa [List.drop_drop] at this
theorem call1 {c : Call} {a : A} (hA : ∀ x a, okA k x a = true → RelV M (lk a) (ρ x)) (h : okAs k c.args.toList [a] = true) : ∃ x, c.args.map ρ = #[x] ∧ RelV M (lk a) x := by
  obtain ⟨hm, hl⟩ := mapA hA h
  match hargs : c.args.toList, hm, hl with
  | [x], hm, _ =>
    simp only [List.map_cons, List.map_nil, RelVs] at hm
    exact ⟨ρ x, by apply Array.ext'; simp [hargs], hm.1⟩
theorem call2 {c : Call} {a b : A} (hA : ∀ x a, okA k x a = true → RelV M (lk a) (ρ x)) (h : okAs k c.args.toList [a, b] = true) : ∃ x y, c.args.map ρ = #[x, y] ∧ RelV M (lk a) x ∧ RelV M (lk b) y := by
  obtain ⟨hm, hl⟩ := mapA hA h
  match hargs : c.args.toList, hm, hl with
  | [x, y], hm, _ =>
    simp only [List.map_cons, List.map_nil, RelVs] at hm
    exact ⟨ρ x, ρ y, by apply Array.ext'; simp [hargs], hm.1, hm.2.1⟩
theorem exec_builtin {c : Call} {b : Builtin} {s : Sem Value} {v' : Value} {w' : World} (hop : o.op = .call c) (hc : c.callee = .builtin b)
    (hb : ∀ cs, builtin b c.argTypes o.type cs (c.args.map ρ) = (do pure (.value (← s)))) (hrun : s.run P w = .ok v' w') : (execOp ρ o).run P w = .ok (.value v') w' := by
  simp only [execOp, hop, resolve, hc, Sem.run_bind, Sem.run_pure, Result.andThen_ok, invoke, hb, hrun]
theorem q_len {a : A} {v : V} {n : List Ob} (hA : ∀ x a, okA k x a = true → RelV M (lk a) (ρ x)) (hok : okOp P k o (.len a) = true) (h : stepP lk Hi (.len a) = some (v, n)) : Quiet P M w (execOp ρ o) v := by
  cases hop : o.op <;> simp only [okOp, hop] at hok <;> try (cases hok; done)
  rename_i c
  simp only [Bool.and_eq_true] at hok
  obtain ⟨h1, h2⟩ := hok
  obtain ⟨x, hargs, r1⟩ := call1 hA h2
  split at h1 <;> try (cases h1; done)
  rename_i t hc ht
  split at h1 <;> try (cases h1; done)
  rename_i e hu
  have key : ∀ (ad : Option Addr) (len cap : Nat), x = .slice ad len cap → Quiet P M w (execOp ρ o) (.c (.d (.int .i64 (Int.ofNat len)))) := by
    intro ad len cap hv
    refine ⟨.int .i64 (Int.ofNat len), exec_builtin hop hc (fun cs => rfl) ?_, by rw [relV_int]⟩
    rw [hargs, hv]
    simp [Builtin.len_, ht, run_underlying hu, goInt]
  simp only [stepP] at h
  split at h <;> try (cases h; done)
  · rename_i hx
    simp only [Option.some.injEq, Prod.mk.injEq] at h
    obtain ⟨rfl, rfl⟩ := h
    rw [hx, relV_nils] at r1
    exact key none 0 0 r1
  · rename_i cs len hx
    simp only [Option.some.injEq, Prod.mk.injEq] at h
    obtain ⟨rfl, rfl⟩ := h
    rw [hx, relV_d] at r1
    simp only [RelD] at r1
    obtain ⟨ad, cap, hv, _⟩ := r1
    exact key _ _ _ hv
  · rename_i id g off len sz cap hx
    simp only [Option.some.injEq, Prod.mk.injEq] at h
    obtain ⟨rfl, rfl⟩ := h
    rw [hx, relV_c] at r1
    simp only [RelC] at r1
    obtain ⟨_, _, ad, cp, hv, _⟩ := r1
    exact key _ _ _ hv
theorem q_lns {a : A} {v : V} {n : List Ob} (hA : ∀ x a, okA k x a = true → RelV M (lk a) (ρ x)) (hok : okOp P k o (.lns a) = true) (h : stepP lk Hi (.lns a) = some (v, n)) : Quiet P M w (execOp ρ o) v := by
  cases hop : o.op <;> simp only [okOp, hop] at hok <;> try (cases hok; done)
  rename_i c
  simp only [Bool.and_eq_true] at hok
  obtain ⟨h1, h2⟩ := hok
  obtain ⟨x, hargs, r1⟩ := call1 hA h2
  split at h1 <;> try (cases h1; done)
  rename_i t hc ht
  split at h1 <;> try (cases h1; done)
  rename_i hu
  simp only [stepP] at h
  split at h <;> try (cases h; done)
  rename_i s hx
  simp only [Option.some.injEq, Prod.mk.injEq] at h
  obtain ⟨rfl, rfl⟩ := h
  rw [hx, relV_str] at r1
  obtain ⟨bs, hv, rfl⟩ := r1
  refine ⟨.int .i64 (Int.ofNat bs.size), exec_builtin hop hc (fun cs => rfl) ?_, by rw [relV_int, List.length_map, Array.length_toList]; rfl⟩
  rw [hargs, hv]
  simp [Builtin.len_, ht, run_underlying hu, goInt]
theorem q_cap {a : A} {v : V} {n : List Ob} (hA : ∀ x a, okA k x a = true → RelV M (lk a) (ρ x)) (hok : okOp P k o (.cap a) = true) (h : stepP lk Hi (.cap a) = some (v, n)) : Quiet P M w (execOp ρ o) v := by
  cases hop : o.op <;> simp only [okOp, hop] at hok <;> try (cases hok; done)
  rename_i c
  simp only [Bool.and_eq_true] at hok
  obtain ⟨h1, h2⟩ := hok
  obtain ⟨x, hargs, r1⟩ := call1 hA h2
  split at h1 <;> try (cases h1; done)
  rename_i t hc ht
  split at h1 <;> try (cases h1; done)
  rename_i e hu
  have key : ∀ (ad : Option Addr) (len cap : Nat), x = .slice ad len cap → Quiet P M w (execOp ρ o) (.c (.d (.int .i64 (Int.ofNat cap)))) := by
    intro ad len cap hv
    refine ⟨.int .i64 (Int.ofNat cap), exec_builtin hop hc (fun cs => rfl) ?_, by rw [relV_int]⟩
    rw [hargs, hv]
    simp [Builtin.cap_, ht, run_underlying hu, goInt]
  simp only [stepP] at h
  split at h <;> try (cases h; done)
  · rename_i hx
    simp only [Option.some.injEq, Prod.mk.injEq] at h
    obtain ⟨rfl, rfl⟩ := h
    rw [hx, relV_nils] at r1
    exact key none 0 0 r1
  · rename_i id g off len sz cap hx
    simp only [Option.some.injEq, Prod.mk.injEq] at h
    obtain ⟨rfl, rfl⟩ := h
    rw [hx, relV_c] at r1
    simp only [RelC] at r1
    obtain ⟨_, _, ad, cp, hv, _, _, hcap, _⟩ := r1
    have := hcap _ rfl
    subst this
    exact key _ _ _ hv
end
end Mini
end Go.Proofs.YtgjlofpfbhioaaaGreatDoor
