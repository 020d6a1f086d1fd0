/-
  The quiet operations, on: each one's lemma.
-/
import Derived.Test.YtmcgaakbkgdljaaGreatDoorMiniE2
import Derived.Laws.Cells
namespace Go.Proofs.YtmcgaakbkgdljaaGreatDoor
namespace Mini
open Go

section
variable {P : Program} {M : MM} {w : World} {k : K} {o : Oper} {lk : A → V} {ρ : Operand → Value} {Hi H : Heap} {base : Nat}

theorem eqInts_eqK : ∀ {xs ys : List C} {r : Bool}, eqInts xs ys = some r → eqK xs ys = some r ∧ hasKinds (List.replicate xs.length 0) xs = true
  | [], [], r, h => by simpa [eqInts, eqK, hasKinds] using h
  | x :: xs, ys, r, h => by
    unfold eqInts at h
    split at h
    · rename_i e; cases e
    · rename_i k a xs' k' b ys' e
      simp only [List.cons.injEq] at e
      obtain ⟨rfl, rfl⟩ := e
      split at h <;> try (cases h; done)
      rename_i hk
      split at h <;> try (cases h; done)
      rename_i r' hr'
      simp only [Option.some.injEq] at h
      subst h
      obtain ⟨h1, h2⟩ := eqInts_eqK hr'
      refine ⟨by simp only [eqK, eqCell, if_pos hk, h1], ?_⟩
      simp only [List.length_cons, List.replicate_succ, hasKinds, isKind, h2, Bool.and_self]
    · cases h
  | [], _ :: _, _, h => by simp [eqInts] at h

/-- One cell of a kind. -/
theorem kind_rel {k : Nat} {c : C} {u : Value} (h : isKind k c = true) (hr : RelC M c u) : CellP k u u := by
  unfold isKind at h
  split at h <;> try (cases h; done)
  · simp only [RelC, RelD] at hr; exact ⟨_, _, _, hr, hr⟩
  · simp only [RelC, RelD] at hr; exact ⟨_, _, hr, hr⟩
  · simp only [RelC, RelD] at hr
    obtain ⟨bs, hr, _⟩ := hr
    exact ⟨_, _, hr, hr⟩
theorem eqCell_rel {k : Nat} {c c' : C} {u v : Value} {r : Bool} (hk : isKind k c = true) (h : eqCell c c' = some r) (h1 : RelC M c u) (h2 : RelC M c' v) : CellP k u v ∧ (r = true ↔ u = v) := by
  unfold eqCell at h
  split at h
  · rename_i kd a kd' b
    split at h <;> try (cases h; done)
    rename_i e
    subst e
    simp only [Option.some.injEq] at h
    subst h
    simp only [RelC, RelD] at h1 h2
    subst h1; subst h2
    have : k = 0 := by
      unfold isKind at hk
      split at hk <;> first | rfl | (cases hk; done) | (rename_i e; cases e; done)
    subst this
    exact ⟨⟨_, _, _, rfl, rfl⟩, by simp⟩
  · rename_i a b
    simp only [Option.some.injEq] at h
    subst h
    simp only [RelC, RelD] at h1 h2
    subst h1; subst h2
    have : k = 1 := by
      unfold isKind at hk
      split at hk <;> first | rfl | (cases hk; done) | (rename_i e; cases e; done)
    subst this
    exact ⟨⟨_, _, rfl, rfl⟩, by simp⟩
  · rename_i a b
    simp only [Option.some.injEq] at h
    subst h
    simp only [RelC, RelD] at h1 h2
    obtain ⟨x, rfl, rfl⟩ := h1
    obtain ⟨y, rfl, rfl⟩ := h2
    have : k = 2 := by
      unfold isKind at hk
      split at hk <;> first | rfl | (cases hk; done) | (rename_i e; cases e; done)
    subst this
    refine ⟨⟨_, _, rfl, rfl⟩, ?_⟩
    rw [beq_iff_eq]
    exact ⟨fun h => by rw [bytes_inj h], fun h => by rw [Value.string.inj h]⟩
  · cases h
theorem eqK_pair : ∀ {ks : List Nat} {xs ys : List C} {us vs : List Value} {r : Bool}, hasKinds ks xs = true → eqK xs ys = some r → RelCs M xs us → RelCs M ys vs →
    xs.length = ks.length ∧ ys.length = ks.length ∧ (∀ (j k : Nat), ks[j]? = some k → ∃ u v, us[j]? = some u ∧ vs[j]? = some v ∧ CellP k u v) ∧ (r = true ↔ ∀ (j : Nat), j < ks.length → us[j]? = vs[j]?)
  | [], [], [], us, vs, r, _, h, _, _ => by simp only [eqK, Option.some.injEq] at h; subst h; simp
  | [], [], _ :: _, _, _, _, _, h, _, _ => by simp [eqK] at h
  | [], _ :: _, _, _, _, _, h, _, _, _ => by simp [hasKinds] at h
  | _ :: _, [], _, _, _, _, h, _, _, _ => by simp [hasKinds] at h
  | _ :: _, _ :: _, [], _, _, _, _, h, _, _ => by simp [eqK] at h
  | _ :: _, _ :: _, _ :: _, [], _, _, _, _, h, _ => by simp only [RelCs] at h
  | _ :: _, _ :: _, _ :: _, _ :: _, [], _, _, _, _, h => by simp only [RelCs] at h
  | k :: ks, x :: xs, y :: ys, u :: us, v :: vs, r, hk, h, hx, hy => by
    simp only [hasKinds, Bool.and_eq_true] at hk
    simp only [RelCs] at hx hy
    simp only [eqK] at h
    split at h <;> try (cases h; done)
    rename_i r1 hr1
    split at h <;> try (cases h; done)
    rename_i r2 hr2
    simp only [Option.some.injEq] at h
    subst h
    obtain ⟨h1, h2, h3, h4⟩ := eqK_pair hk.2 hr2 hx.2 hy.2
    obtain ⟨h5, h6⟩ := eqCell_rel hk.1 hr1 hx.1 hy.1
    refine ⟨by simp [h1], by simp [h2], fun j k' hj => ?_, ?_⟩
    · cases j with
      | zero => simp at hj; subst hj; exact ⟨u, v, by simp, by simp, h5⟩
      | succ j => simpa using h3 j k' (by simpa using hj)
    · rw [Bool.and_eq_true, h6, h4]
      constructor
      · rintro ⟨rfl, h7⟩ j hj
        cases j with
        | zero => simp
        | succ j => simpa using h7 j (by simpa using hj)
      · intro hall
        refine ⟨by simpa using hall 0 (by simp), fun j hj => by simpa using hall (j + 1) (by simpa using hj)⟩

theorem q_rows {neg : Bool} {ks : List Nat} {x y : List C} {r : Bool} {op : BinOp} {t : TypeId} {x' y' : Operand} {u : TypeId} (h0 : (match op with | .eql => !neg | .neq => neg | _ => false) = true) (hop : o.op = .binOp op t x' y' u) (hi : flat? P 9 t = some ks) (hagg : isAggT P t = true) (hg : P.eqGuardType P.depth t = false)
    (hk : hasKinds ks x = true) (he : eqK x y = some r) (r1 : RelV M (.agg x) (ρ x')) (r2 : RelV M (.agg y) (ρ y')) : Quiet P M w (execOp ρ o) (.c (.d (.bool (neg ^^ r)))) := by
  rw [relV_agg] at r1 r2
  obtain ⟨xs, e1, l1, c1⟩ := r1
  obtain ⟨ys, e2, l2, c2⟩ := r2
  obtain ⟨n1, n2, hp, hiff⟩ := eqK_pair hk he c1 c2
  have hag : agg? P t = some true := by simpa [isAggT] using hagg
  obtain ⟨r', hr', hiff'⟩ := (flat_eq (w := w) 9 t ks hi).1 hag 9991 xs ys (fun j k hj => by
    obtain ⟨a, b, h3, h4, h5⟩ := hp j k hj
    exact ⟨a, b, by simpa using h3, by simpa using h4, h5⟩) (by omega) (by omega)
  have hrr : r' = r := by
    rw [Bool.eq_iff_iff, hiff', hiff]
    simp
  subst hrr
  have hr2 : (Op.equalIn 10000 t (.agg xs) (.agg ys)).run P w = .ok r' w := hr'
  split at h0
  · refine quiet_of (v' := .bool r') (by simp only [execOp, hop]; rfl) ?_ (by rw [relV_bool]; cases neg <;> simp_all)
    rw [e1, e2, Sem.run_bind, run_eqGuard_agg w _ _ _ _ _ _ hg]
    simp only [Result.andThen_ok]
    rw [run_eql_struct, hr2]
    rfl
  · refine quiet_of (v' := .bool (!r')) (by simp only [execOp, hop]; rfl) ?_ (by rw [relV_bool]; cases neg <;> simp_all)
    rw [e1, e2, Sem.run_bind, run_eqGuard_agg w _ _ _ _ _ _ hg]
    simp only [Result.andThen_ok]
    rw [run_neq_struct, hr2]
    rfl
  · cases h0

theorem q_eqa {neg : Bool} {m : Nat} {a b : A} {v : V} {n : List Ob} (hA : ∀ x a, okA k x a = true → RelV M (lk a) (ρ x)) (hok : okOp P k o (.eqa neg m a b) = true) (h : stepP lk Hi (.eqa neg m a b) = some (v, n)) : Quiet P M w (execOp ρ o) v := by
  simp only [stepP] at h
  split at h <;> try (cases h; done)
  rename_i x y hx hy
  split at h <;> try (cases h; done)
  rename_i hlen
  cases he : eqInts x y with
  | none => rw [he] at h; cases h
  | some r =>
    rw [he] at h
    simp only [Option.map_some, Option.some.injEq, Prod.mk.injEq] at h
    obtain ⟨rfl, rfl⟩ := h
    cases hop : o.op <;> simp only [okOp, hop] at hok <;> try (cases hok; done)
    simp only [Bool.and_eq_true, beq_iff_eq, Bool.not_eq_true'] at hok
    obtain ⟨⟨⟨⟨⟨h0, hi⟩, hagg⟩, hg⟩, h1⟩, h2⟩ := hok
    have r1 := hA _ _ h1
    have r2 := hA _ _ h2
    rw [hx] at r1
    rw [hy] at r2
    obtain ⟨q1, q2⟩ := eqInts_eqK he
    rw [hlen] at q2
    exact q_rows h0 hop hi hagg hg q2 q1 r1 r2

theorem q_eqk {neg : Bool} {ks : List Nat} {a b : A} {v : V} {n : List Ob} (hA : ∀ x a, okA k x a = true → RelV M (lk a) (ρ x)) (hok : okOp P k o (.eqk neg ks a b) = true) (h : stepP lk Hi (.eqk neg ks a b) = some (v, n)) : Quiet P M w (execOp ρ o) v := by
  simp only [stepP] at h
  split at h <;> try (cases h; done)
  rename_i x y hx hy
  split at h <;> try (cases h; done)
  rename_i hlen
  simp only [Bool.and_eq_true] at hlen
  cases he : eqK x y with
  | none => rw [he] at h; cases h
  | some r =>
    rw [he] at h
    simp only [Option.map_some, Option.some.injEq, Prod.mk.injEq] at h
    obtain ⟨rfl, rfl⟩ := h
    cases hop : o.op <;> simp only [okOp, hop] at hok <;> try (cases hok; done)
    simp only [Bool.and_eq_true, beq_iff_eq, Bool.not_eq_true'] at hok
    obtain ⟨⟨⟨⟨⟨h0, hi⟩, hagg⟩, hg⟩, h1⟩, h2⟩ := hok
    have r1 := hA _ _ h1
    have r2 := hA _ _ h2
    rw [hx] at r1
    rw [hy] at r2
    exact q_rows h0 hop hi hagg hg hlen.1 he r1 r2

/-! Held against nil -/
theorem run_eql_of {t : TypeId} {p c : Value} {r : Bool} (h1 : binOp .eql t p c = (do pure (.bool (← Op.equal t p c)))) (h : (Op.equalIn 10000 t p c).run P w = .ok r w) : (binOp .eql t p c).run P w = .ok (.bool r) w := by
  rw [h1]
  have : (Op.equal t p c).run P w = .ok r w := h
  simp [this]
theorem run_neq_of {t : TypeId} {p c : Value} {r : Bool} (h1 : binOp .neq t p c = (do pure (.bool (!(← Op.equal t p c))))) (h : (Op.equalIn 10000 t p c).run P w = .ok r w) : (binOp .neq t p c).run P w = .ok (.bool (!r)) w := by
  rw [h1]
  have : (Op.equal t p c).run P w = .ok r w := h
  simp [this]
theorem eq_pn (d : Nat) {t e : TypeId} (h : P.underlying t = some (.pointer e)) : (Op.equalIn (d + 1) t (.pointer none) (.pointer none)).run P w = .ok true w := by simp [Op.equalIn, run_underlying h]
theorem eq_ps (d : Nat) {t e : TypeId} (h : P.underlying t = some (.pointer e)) (a : Addr) : (Op.equalIn (d + 1) t (.pointer (some a)) (.pointer none)).run P w = .ok false w := by simp [Op.equalIn, run_underlying h]
theorem eq_fn (d : Nat) {t : TypeId} {a b c} (h : P.underlying t = some (.func a b c)) : (Op.equalIn (d + 1) t .nilFunc .nilFunc).run P w = .ok true w := by simp [Op.equalIn, run_underlying h]
theorem eq_fs (d : Nat) {t : TypeId} {a b c} (h : P.underlying t = some (.func a b c)) (f : Go.Fn) (x y : Array Value) : (Op.equalIn (d + 1) t (.func f x y) .nilFunc).run P w = .ok false w := by simp [Op.equalIn, run_underlying h]
theorem eq_sn (d : Nat) {t e : TypeId} (h : P.underlying t = some (.slice e)) : (Op.equalIn (d + 1) t (.slice none 0 0) (.slice none 0 0)).run P w = .ok true w := by simp [Op.equalIn, run_underlying h]
theorem eq_ss (d : Nat) {t e : TypeId} (h : P.underlying t = some (.slice e)) (a : Addr) (n c : Nat) : (Op.equalIn (d + 1) t (.slice (some a) n c) (.slice none 0 0)).run P w = .ok false w := by simp [Op.equalIn, run_underlying h]
theorem eq_mn (d : Nat) {t a b : TypeId} (h : P.underlying t = some (.map a b)) : (Op.equalIn (d + 1) t (.map none) (.map none)).run P w = .ok true w := by simp [Op.equalIn, run_underlying h]
theorem eq_ms (d : Nat) {t a b : TypeId} (h : P.underlying t = some (.map a b)) (B : Nat) : (Op.equalIn (d + 1) t (.map (some B)) (.map none)).run P w = .ok false w := by simp [Op.equalIn, run_underlying h]
theorem eq_cn (d : Nat) {t e : TypeId} {dir : ChanDir} (h : P.underlying t = some (.chan dir e)) : (Op.equalIn (d + 1) t (.chan none) (.chan none)).run P w = .ok true w := by simp [Op.equalIn, run_underlying h]
theorem eq_cs (d : Nat) {t e : TypeId} {dir : ChanDir} (h : P.underlying t = some (.chan dir e)) (B : Nat) : (Op.equalIn (d + 1) t (.chan (some B)) (.chan none)).run P w = .ok false w := by simp [Op.equalIn, run_underlying h]
/-- Held against nil. -/
theorem q_isz {kd : Nat} {neg : Bool} {a : A} {v : V} {n : List Ob} (hA : ∀ x a, okA k x a = true → RelV M (lk a) (ρ x)) (hc : ∀ x, ρ (.const x) = x) (hok : okOp P k o (.isz kd neg a) = true) (h : stepP lk Hi (.isz kd neg a) = some (v, n)) : Quiet P M w (execOp ρ o) v := by
  cases hop : o.op <;> simp only [okOp, hop] at hok <;> try (cases hok; done)
  rename_i op t x y u
  simp only [Bool.and_eq_true] at hok
  obtain ⟨⟨h0, h1⟩, hy⟩ := hok
  have r1 := hA _ _ h1
  have fin : ∀ (p c : Value) (r : Bool), ρ x = p → ρ y = c → (∀ op', (eqGuard op' t x y p c).run P w = .ok () w) → (binOp .eql t p c).run P w = .ok (.bool r) w → (binOp .neq t p c).run P w = .ok (.bool (!r)) w → v = .c (.d (.bool (neg ^^ r))) → Quiet P M w (execOp ρ o) v := by
    intro p c r hp hq hg b1 b2 hv
    subst hv
    split at h0
    · refine quiet_of (v' := .bool r) (by simp only [execOp, hop]; rfl) ?_ (by rw [relV_bool]; cases neg <;> simp_all)
      rw [hp, hq, Sem.run_bind, hg]
      simp only [Result.andThen_ok]
      exact b1
    · refine quiet_of (v' := .bool (!r)) (by simp only [execOp, hop]; rfl) ?_ (by rw [relV_bool]; cases neg <;> simp_all)
      rw [hp, hq, Sem.run_bind, hg]
      simp only [Result.andThen_ok]
      exact b2
    · cases h0
  simp only [stepP, Option.map_eq_some_iff, Prod.mk.injEq] at h
  obtain ⟨z, hz, hv, _⟩ := h
  subst hv
  split at hy <;> try (cases hy; done)
  · rename_i e hu
    have yes : z = true → ρ x = .pointer none → Quiet P M w (execOp ρ o) (.c (.d (.bool (neg ^^ z)))) := fun hv hx => fin _ _ true hx (hc _) (fun op' => by cases op' <;> simp [eqGuard]) (run_eql_of rfl (eq_pn 9999 hu)) (run_neq_of rfl (eq_pn 9999 hu)) (by rw [hv])
    have no : z = false → (∃ a, ρ x = .pointer (some a)) → Quiet P M w (execOp ρ o) (.c (.d (.bool (neg ^^ z)))) := fun hv ⟨a, hx⟩ => fin _ _ false hx (hc _) (fun op' => by cases op' <;> simp [eqGuard]) (run_eql_of rfl (eq_ps 9999 hu a)) (run_neq_of rfl (eq_ps 9999 hu a)) (by rw [hv])
    cases hx : lk a with
    | c x' =>
      rw [hx] at hz r1
      cases x' with
      | d dd =>
        cases dd <;> simp only [isZ, Option.some.injEq] at hz <;> try (cases hz; done)
        · simp only [RelV, RelC, RelD] at r1; exact yes hz.symm r1
        · simp only [RelV, RelC, RelD] at r1
          obtain ⟨B, off, arr, T, fr, r1, _⟩ := r1
          exact no hz.symm ⟨_, r1⟩
      | ptr id g off =>
        simp only [isZ, Option.some.injEq] at hz
        simp only [RelV, RelC] at r1
        obtain ⟨_, _, ⟨B, off, r1⟩, _⟩ := r1
        exact no hz.symm ⟨_, r1⟩
      | _ => simp [isZ] at hz
    | _ => rw [hx] at hz; simp [isZ] at hz
  · rename_i e e1 e2 hu
    have yes : z = true → ρ x = .nilFunc → Quiet P M w (execOp ρ o) (.c (.d (.bool (neg ^^ z)))) := fun hv hx => fin _ _ true hx (hc _) (fun op' => by cases op' <;> simp [eqGuard]) (run_eql_of rfl (eq_fn 9999 hu)) (run_neq_of rfl (eq_fn 9999 hu)) (by rw [hv])
    have no : z = false → (∃ f p q, ρ x = .func f p q) → Quiet P M w (execOp ρ o) (.c (.d (.bool (neg ^^ z)))) := fun hv ⟨f, p, q, hx⟩ => fin _ _ false hx (hc _) (fun op' => by cases op' <;> simp [eqGuard]) (run_eql_of rfl (eq_fs 9999 hu f p q)) (run_neq_of rfl (eq_fs 9999 hu f p q)) (by rw [hv])
    cases hx : lk a with
    | c x' =>
      rw [hx] at hz r1
      cases x' with
      | d dd =>
        cases dd <;> simp only [isZ, Option.some.injEq] at hz <;> try (cases hz; done)
        · simp only [RelV, RelC, RelD] at r1
          obtain ⟨p, q, r1, _⟩ := r1
          exact no hz.symm ⟨_, _, _, r1⟩
        · simp only [RelV, RelC, RelD] at r1; exact yes hz.symm r1
      | fn f p q =>
        simp only [isZ, Option.some.injEq] at hz
        simp only [RelV, RelC] at r1
        obtain ⟨p, q, r1, _⟩ := r1
        exact no hz.symm ⟨_, _, _, r1⟩
      | _ => simp [isZ] at hz
    | _ => rw [hx] at hz; simp [isZ] at hz
  · rename_i e e1 hu
    have yes : z = true → ρ x = .map none → Quiet P M w (execOp ρ o) (.c (.d (.bool (neg ^^ z)))) := fun hv hx => fin _ _ true hx (hc _) (fun op' => by cases op' <;> simp [eqGuard]) (run_eql_of rfl (eq_mn 9999 hu)) (run_neq_of rfl (eq_mn 9999 hu)) (by rw [hv])
    have no : z = false → (∃ B, ρ x = .map (some B)) → Quiet P M w (execOp ρ o) (.c (.d (.bool (neg ^^ z)))) := fun hv ⟨B, hx⟩ => fin _ _ false hx (hc _) (fun op' => by cases op' <;> simp [eqGuard]) (run_eql_of rfl (eq_ms 9999 hu B)) (run_neq_of rfl (eq_ms 9999 hu B)) (by rw [hv])
    cases hx : lk a with
    | c x' =>
      rw [hx] at hz r1
      cases x' with
      | d dd =>
        cases dd <;> simp only [isZ, Option.some.injEq] at hz <;> try (cases hz; done)
        simp only [RelV, RelC, RelD] at r1; exact yes hz.symm r1
      | mp id =>
        simp only [isZ, Option.some.injEq] at hz
        simp only [RelV, RelC] at r1
        obtain ⟨_, B, r1, _⟩ := r1
        exact no hz.symm ⟨_, r1⟩
      | _ => simp [isZ] at hz
    | _ => rw [hx] at hz; simp [isZ] at hz
  · rename_i e hu
    have yes : z = true → ρ x = .slice none 0 0 → Quiet P M w (execOp ρ o) (.c (.d (.bool (neg ^^ z)))) := fun hv hx => fin _ _ true hx (hc _) (fun op' => by cases op' <;> simp [eqGuard]) (run_eql_of rfl (eq_sn 9999 hu)) (run_neq_of rfl (eq_sn 9999 hu)) (by rw [hv])
    have no : z = false → (∃ a n c, ρ x = .slice (some a) n c) → Quiet P M w (execOp ρ o) (.c (.d (.bool (neg ^^ z)))) := fun hv ⟨a, n, c, hx⟩ => fin _ _ false hx (hc _) (fun op' => by cases op' <;> simp [eqGuard]) (run_eql_of rfl (eq_ss 9999 hu a n c)) (run_neq_of rfl (eq_ss 9999 hu a n c)) (by rw [hv])
    cases hx : lk a with
    | c x' =>
      rw [hx] at hz r1
      cases x' with
      | d dd =>
        cases dd with
        | nils =>
          simp only [isZ, Option.some.injEq] at hz
          simp only [RelV, RelC, RelD] at r1; exact yes hz.symm r1
        | sl cs n =>
          cases cs with
          | nil => simp [isZ] at hz
          | cons c0 cs0 =>
            simp only [isZ, Option.some.injEq] at hz
            simp only [RelV, RelC, RelD] at r1
            obtain ⟨ad, cp, r1, _, r2⟩ := r1
            rcases r2 with r2 | ⟨B, o', arr, T, fr, rfl, _⟩
            · cases r2
            · exact no hz.symm ⟨_, _, _, r1⟩
        | _ => simp [isZ] at hz
      | os id g off len sz cap =>
        cases len with
        | zero => simp [isZ] at hz
        | succ len =>
          simp only [isZ, Option.some.injEq] at hz
          simp only [RelV, RelC] at r1
          obtain ⟨_, _, ad, cp, r1, hle, hcp, _⟩ := r1
          rcases hcp with hcp | ⟨B, off', rfl⟩
          · omega
          · exact no hz.symm ⟨_, _, _, r1⟩
      | _ => simp [isZ] at hz
    | _ => rw [hx] at hz; simp [isZ] at hz
  · rename_i dir e hu
    have yes : z = true → ρ x = .chan none → Quiet P M w (execOp ρ o) (.c (.d (.bool (neg ^^ z)))) := fun hv hx => fin _ _ true hx (hc _) (fun op' => by cases op' <;> simp [eqGuard]) (run_eql_of rfl (eq_cn 9999 hu)) (run_neq_of rfl (eq_cn 9999 hu)) (by rw [hv])
    have no : z = false → (∃ B, ρ x = .chan (some B)) → Quiet P M w (execOp ρ o) (.c (.d (.bool (neg ^^ z)))) := fun hv ⟨B, hx⟩ => fin _ _ false hx (hc _) (fun op' => by cases op' <;> simp [eqGuard]) (run_eql_of rfl (eq_cs 9999 hu B)) (run_neq_of rfl (eq_cs 9999 hu B)) (by rw [hv])
    cases hx : lk a with
    | c x' =>
      rw [hx] at hz r1
      cases x' with
      | d dd =>
        cases dd <;> simp only [isZ, Option.some.injEq] at hz <;> try (cases hz; done)
        simp only [RelV, RelC, RelD] at r1; exact yes hz.symm r1
      | ch id =>
        simp only [isZ, Option.some.injEq] at hz
        simp only [RelV, RelC] at r1
        obtain ⟨_, B, r1, _⟩ := r1
        exact no hz.symm ⟨_, r1⟩
      | _ => simp [isZ] at hz
    | _ => rw [hx] at hz; simp [isZ] at hz

/-- A value of its type, as an interface. -/
theorem mapO_d {cs : List C} {ds : List D} (h : mapO (fun c => match c with | .d x => some x | _ => none) cs = some ds) : cs = ds.map .d := by
  induction cs generalizing ds with
  | nil => simp only [mapO, Option.some.injEq] at h; subst h; rfl
  | cons c cs ih =>
    simp only [mapO] at h
    split at h <;> try (cases h; done)
    rename_i x hx
    split at h <;> try (cases h; done)
    rename_i ys hys
    simp only [Option.some.injEq] at h
    subst h
    rw [ih hys]
    split at hx <;> try (cases hx; done)
    cases hx
    rfl
theorem q_mkt {t : Nat} {a : A} {v : V} {n : List Ob} (hA : ∀ x a, okA k x a = true → RelV M (lk a) (ρ x)) (hok : okOp P k o (.mkt t a) = true) (h : stepP lk Hi (.mkt t a) = some (v, n)) : Quiet P M w (execOp ρ o) v := by
  cases hop : o.op <;> simp only [okOp, hop] at hok <;> try (cases hok; done)
  rename_i t' x
  simp only [Bool.and_eq_true, beq_iff_eq] at hok
  obtain ⟨⟨rfl, hu⟩, h1⟩ := hok
  have r1 := hA _ _ h1
  have hrun : (Instr.makeInterface t' (ρ x)).run P w = .ok (.iface t' (ρ x)) w := by
    split at hu <;> try (cases hu; done)
    rename_i d hne hu'
    simp only [Instr.makeInterface, Sem.run_bind, run_underlying hu', Result.andThen_ok, Sem.run_pure]
  simp only [stepP] at h
  split at h <;> try (cases h; done)
  · rename_i d hx
    simp only [Option.some.injEq, Prod.mk.injEq] at h
    obtain ⟨rfl, rfl⟩ := h
    rw [hx, relV_d] at r1
    refine quiet_of (v' := .iface t' (ρ x)) (by simp only [execOp, hop]) hrun ?_
    rw [relV_d]
    simp only [RelD]
    exact ⟨_, rfl, rfl, by simp only [RelDs]; exact ⟨r1, trivial⟩⟩
  · rename_i cs hx
    simp only [Option.map_eq_some_iff, Prod.mk.injEq] at h
    obtain ⟨ds, hds, rfl, rfl⟩ := h
    rw [hx, relV_agg] at r1
    obtain ⟨arr, e1, e2, e3⟩ := r1
    refine quiet_of (v' := .iface t' (ρ x)) (by simp only [execOp, hop]) hrun ?_
    rw [relV_d]
    simp only [RelD]
    rw [mapO_d hds] at e2 e3
    exact ⟨arr, by rw [e1], by simpa using e2, RelCs.of_d.1 e3⟩

theorem run_zero {t : TypeId} {zv : Value} (hz : (P.info? t).bind (·.zero) = some zv) : (zeroValue t).run P w = .ok zv w := by
  obtain ⟨it, hz1, hz2⟩ : ∃ it, P.info? t = some it ∧ it.zero = some zv := by
    simp only [Option.bind_eq_some_iff] at hz
    exact hz
  simp [zeroValue, typeInfo, hz1, hz2]
theorem q_tas {t m : Nat} {g ok : Bool} {zero : V} {a : A} {v : V} {n : List Ob} (hA : ∀ x a, okA k x a = true → RelV M (lk a) (ρ x)) (hok : okOp P k o (.tas t m g ok zero a) = true) (h : stepP lk Hi (.tas t m g ok zero a) = some (v, n)) : Quiet P M w (execOp ρ o) v := by
  cases hop : o.op <;> simp only [okOp, hop] at hok <;> try (cases hok; done)
  rename_i x xt t' ok'
  simp only [Bool.and_eq_true, beq_iff_eq] at hok
  obtain ⟨⟨⟨⟨⟨⟨rfl, rfl⟩, hsz⟩, hag⟩, hu⟩, hz⟩, h1⟩ := hok
  have r1 := hA _ _ h1
  split at hz <;> try (cases hz; done)
  rename_i zv hzv
  have hzr := okV_rel (M := M) hz
  have hzero : (zeroValue t').run P w = .ok zv w := run_zero hzv
  obtain ⟨u, hu', hni⟩ : ∃ u, P.underlying t' = some u ∧ ∀ ms, u ≠ .interface ms := by
    split at hu <;> try (cases hu; done)
    rename_i u hne hu'
    exact ⟨u, hu', fun ms e => hne ms e⟩
  have yes : ∀ (vx : Value) (vv : V), ρ x = .iface t' vx → RelV M vv vx → v = (if ok' then .tup [vv, .c (.d (.bool true))] else vv) → Quiet P M w (execOp ρ o) v := by
    intro vx vv hx hr hv
    subst hv
    refine ⟨if ok' then .tuple #[vx, .bool true] else vx, ?_, ?_⟩
    · have : (Instr.typeAssert (ρ x) xt t' ok').run P w = .ok (if ok' then .tuple #[vx, .bool true] else vx) w := by
        rw [hx]
        simp only [Instr.typeAssert, Sem.run_bind, run_underlying hu', Result.andThen_ok]
        cases u <;> first | exact absurd rfl (hni _) | simp
      simp [execOp, hop, this, Result.andThen]
    · cases ok'
      · exact hr
      · simp only [if_true]
        rw [relV_tup]
        refine ⟨_, rfl, rfl, ?_⟩
        simp only [RelVs, and_true]
        exact ⟨hr, by rw [relV_bool]⟩
  have no : ok' = true → (ρ x = .nilIface ∨ ∃ t2 v2, ρ x = .iface t2 v2 ∧ t2 ≠ t') → v = .tup [zero, .c (.d (.bool false))] → Quiet P M w (execOp ρ o) v := by
    intro hk hx hv
    subst hv
    subst hk
    refine ⟨.tuple #[zv, .bool false], ?_, ?_⟩
    · have : (Instr.typeAssert (ρ x) xt t' true).run P w = .ok (.tuple #[zv, .bool false]) w := by
        rcases hx with hx | ⟨t2, v2, hx, hne⟩
        · rw [hx]
          simp only [Instr.typeAssert, Sem.run_bind, run_underlying hu', Result.andThen_ok]
          cases u <;> first | exact absurd rfl (hni _) | simp [hzero, Result.andThen]
        · rw [hx]
          simp only [Instr.typeAssert, Sem.run_bind, run_underlying hu', Result.andThen_ok]
          cases u <;> first | exact absurd rfl (hni _) | simp [hne, hzero, Result.andThen]
      simp [execOp, hop, this, Result.andThen]
    · rw [relV_tup]
      refine ⟨_, rfl, rfl, ?_⟩
      simp only [RelVs, and_true]
      exact ⟨hzr, by rw [relV_bool]⟩
  simp only [stepP] at h
  split at h <;> try (cases h; done)
  · rename_i t2 g2 ds hx
    rw [hx, relV_d] at r1
    split at h
    · rename_i ht
      subst ht
      split at h <;> try (cases h; done)
      rename_i hgl
      obtain ⟨rfl, hl⟩ := hgl
      simp only [Option.map_eq_some_iff, Prod.mk.injEq] at h
      obtain ⟨vv, hvv, hv, rfl⟩ := h
      cases g2 with
      | true =>
        simp only [RelD] at r1
        obtain ⟨arr, e1, e2, e3⟩ := r1
        unfold ofCells at hvv
        rw [if_pos (by simp [hl]), if_pos rfl] at hvv
        cases hvv
        exact yes _ _ e1 (by rw [relV_agg]; exact ⟨arr, rfl, by simpa using e2, RelCs.of_d.2 e3⟩) hv.symm
      | false =>
        simp only [RelD] at r1
        obtain ⟨vx, e1, e2, e3⟩ := r1
        match ds, e2, e3, hvv with
        | [d], _, e3, hvv =>
          unfold ofCells at hvv
          rw [if_pos (by simpa using hl)] at hvv
          simp only [Bool.false_eq_true, if_false, List.map_cons, List.map_nil, Option.some.injEq] at hvv
          subst hvv
          simp only [RelDs] at e3
          exact yes _ _ e1 (by rw [relV_d]; exact e3.1) hv.symm
    · rename_i ht
      split at h <;> try (cases h; done)
      rename_i hk
      simp only [Option.some.injEq, Prod.mk.injEq] at h
      refine no hk (.inr ?_) h.1.symm
      cases g2 <;> simp only [RelD] at r1
      · obtain ⟨vx, e1, _⟩ := r1; exact ⟨_, _, e1, ht⟩
      · obtain ⟨arr, e1, _⟩ := r1; exact ⟨_, _, e1, ht⟩
  · rename_i hx
    rw [hx, relV_nili] at r1
    split at h <;> try (cases h; done)
    rename_i hk
    simp only [Option.some.injEq, Prod.mk.injEq] at h
    exact no hk (.inl r1) h.1.symm

theorem finV_int {x : Sem Value} {kd : IntKind} {n : Int} (h : x.run P w = .ok (.int kd n) w) : ∃ v', x.run P w = .ok v' w ∧ RelV M (.c (.d (.int kd n))) v' := ⟨_, h, by rw [relV_int]⟩

theorem q_un {op : UnOp} {a : A} {v : V} {n : List Ob} (hA : ∀ x a, okA k x a = true → RelV M (lk a) (ρ x)) (hok : okOp P k o (.un op a) = true) (h : stepP lk Hi (.un op a) = some (v, n)) : Quiet P M w (execOp ρ o) v := by
  simp only [stepP] at h
  split at h <;> try (cases h; done)
  rename_i x hx
  cases hu : un op x with
  | none => rw [hu] at h; cases h
  | some d =>
    rw [hu] at h
    simp only [Option.map_some, Option.some.injEq, Prod.mk.injEq] at h
    obtain ⟨rfl, rfl⟩ := h
    cases hop : o.op <;> simp only [okOp, hop] at hok <;> try (cases hok; done)
    simp only [Bool.and_eq_true, beq_iff_eq] at hok
    obtain ⟨rfl, h1⟩ := hok
    have r1 := hA _ _ h1
    rw [hx, relV_c] at r1
    refine quiet_of' (by simp only [execOp, hop]; rfl) ?_
    unfold un at hu
    split at hu <;> try (cases hu; done)
    · simp only [RelC, RelD] at r1
      cases hu
      rw [r1]
      exact finV_int (by simp only [Op.unary, Op.intArith, Sem.run_pure])
    · simp only [RelC, RelD] at r1
      cases hu
      exact ⟨_, by rw [r1]; simp [Op.unary, Op.intBits]; rfl, by rw [relV_int]; simp [bits]⟩
    · simp only [RelC, RelD] at r1
      cases hu
      exact ⟨_, by rw [r1]; simp [Op.unary]; rfl, by rw [relV_bool]⟩

theorem q_cvi {kd : IntKind} {a : A} {v : V} {n : List Ob} (hA : ∀ x a, okA k x a = true → RelV M (lk a) (ρ x)) (hok : okOp P k o (.cvi kd a) = true) (h : stepP lk Hi (.cvi kd a) = some (v, n)) : Quiet P M w (execOp ρ o) v := by
  simp only [stepP] at h
  split at h <;> try (cases h; done)
  rename_i k' m hx
  simp only [Option.some.injEq, Prod.mk.injEq] at h
  obtain ⟨rfl, rfl⟩ := h
  cases hop : o.op <;> simp only [okOp, hop] at hok <;> try (cases hok; done)
  simp only [Bool.and_eq_true] at hok
  obtain ⟨h1, h2⟩ := hok
  have r1 := hA _ _ h2
  rw [hx, relV_int] at r1
  rename_i s t x
  split at h1 <;> try (cases h1; done)
  rename_i k1 k2 hs ht
  simp only [beq_iff_eq] at h1
  subst h1
  refine quiet_of (v' := .int kd (kd.wrap m)) (by simp only [execOp, hop]; rfl) ?_ (by rw [relV_int])
  rw [r1]
  simp [convert, run_underlying hs, run_underlying ht, Conv.intToInt]

theorem q_mm {mx : Bool} {a b : A} {v : V} {n : List Ob} (hA : ∀ x a, okA k x a = true → RelV M (lk a) (ρ x)) (hok : okOp P k o (.mm mx a b) = true) (h : stepP lk Hi (.mm mx a b) = some (v, n)) : Quiet P M w (execOp ρ o) v := by
  simp only [stepP] at h
  split at h <;> try (cases h; done)
  rename_i k1 p k2 q hx hy
  split at h <;> try (cases h; done)
  rename_i hk
  subst hk
  simp only [Option.some.injEq, Prod.mk.injEq] at h
  obtain ⟨rfl, rfl⟩ := h
  cases hop : o.op <;> simp only [okOp, hop] at hok <;> try (cases hok; done)
  rename_i c
  simp only [Bool.and_eq_true] at hok
  obtain ⟨h1, h2⟩ := hok
  obtain ⟨hm, hl⟩ := mapA hA h2
  obtain ⟨callee, args, argTypes⟩ := c
  simp only at h1 h2 hm hl
  match hargs : args.toList, hm, hl with
  | [x, y], hm, _ =>
    simp only [List.map_cons, List.map_nil, RelVs] at hm
    rw [hx, hy, relV_int, relV_int] at hm
    obtain ⟨e1, e2, _⟩ := hm
    have hmap : args.map ρ = #[ρ x, ρ y] := by
      apply Array.ext'
      simp [hargs]
    split at h1
    · subst h1
      refine ⟨.int k1 (if q > p then q else p), ?_, by rw [relV_int]; simp⟩
      simp [execOp, hop, resolve, invoke, builtin, hmap, e1, e2, Builtin.max_, Builtin.max2]
    · simp only [Bool.not_eq_true'] at h1
      subst h1
      refine ⟨.int k1 (if q < p then q else p), ?_, by rw [relV_int]; simp⟩
      simp [execOp, hop, resolve, invoke, builtin, hmap, e1, e2, Builtin.min_, Builtin.min2]
    · cases h1

theorem q_ext {a : A} {i : Nat} {v : V} {n : List Ob} (hA : ∀ x a, okA k x a = true → RelV M (lk a) (ρ x)) (hok : okOp P k o (.ext a i) = true) (h : stepP lk Hi (.ext a i) = some (v, n)) : Quiet P M w (execOp ρ o) v := by
  simp only [stepP] at h
  split at h <;> try (cases h; done)
  rename_i vs hx
  cases hi : vs[i]? with
  | none => rw [hi] at h; cases h
  | some u =>
    rw [hi] at h
    simp only [Option.map_some, Option.some.injEq, Prod.mk.injEq] at h
    obtain ⟨rfl, rfl⟩ := h
    cases hop : o.op <;> simp only [okOp, hop] at hok <;> try (cases hok; done)
    simp only [Bool.and_eq_true, beq_iff_eq] at hok
    obtain ⟨h1, rfl⟩ := hok
    have r1 := hA _ _ h1
    rw [hx, relV_tup] at r1
    obtain ⟨arr, e1, _, r2⟩ := r1
    obtain ⟨v', h2, h3⟩ := RelVs.iff.1 r2 _ _ hi
    refine quiet_of (v' := v') (by simp only [execOp, hop]; rfl) ?_ h3
    rw [e1]
    simp only [Array.getElem?_toList] at h2
    simp [Instr.extract, h2]

theorem q_mki {a : A} {v : V} {n : List Ob} (_hA : ∀ x a, okA k x a = true → RelV M (lk a) (ρ x)) (hok : okOp P k o (.mki a) = true) (h : stepP lk Hi (.mki a) = some (v, n)) : Quiet P M w (execOp ρ o) v := by
  simp only [stepP] at h
  split at h <;> try (cases h; done)
  simp only [Option.some.injEq, Prod.mk.injEq] at h
  obtain ⟨rfl, rfl⟩ := h
  cases hop : o.op <;> simp only [okOp, hop] at hok <;> try (cases hok; done)
  simp only [Bool.and_eq_true] at hok
  obtain ⟨h1, h2⟩ := hok
  rename_i t x
  split at h1 <;> try (cases h1; done)
  rename_i d hne hd
  refine quiet_of (v' := .iface t (ρ x)) (by simp only [execOp, hop]; rfl) ?_ (by rw [relV_d]; simp only [RelD]; exact ⟨_, _, rfl⟩)
  unfold Instr.makeInterface
  rw [Sem.run_bind, run_underlying hd]
  simp only [Result.andThen_ok]
  cases d <;> simp_all

theorem q_nlc {a : A} {v : V} {n : List Ob} (hA : ∀ x a, okA k x a = true → RelV M (lk a) (ρ x)) (hok : okOp P k o (.nlc a) = true) (h : stepP lk Hi (.nlc a) = some (v, n)) (hp : ∀ id g off x, lk a = .c (.ptr id g off) → RelV M (lk a) x → ∃ y, x = .pointer (some y)) : Quiet P M w (execOp ρ o) v := by
  cases hop : o.op <;> simp only [okOp, hop] at hok <;> try (cases hok; done)
  rename_i x
  have r1 := hA _ _ hok
  simp only [stepP] at h
  split at h <;> try (cases h; done)
  · rename_i id g off hx
    simp only [Option.some.injEq, Prod.mk.injEq] at h
    obtain ⟨rfl, rfl⟩ := h
    obtain ⟨y, hy⟩ := hp id g off _ hx r1
    refine ⟨ρ x, ?_, by rw [← hx]; exact r1⟩
    simp [execOp, hop, hy]
  · rename_i cs hx
    simp only [Option.some.injEq, Prod.mk.injEq] at h
    obtain ⟨rfl, rfl⟩ := h
    refine ⟨ρ x, ?_, by rw [← hx]; exact r1⟩
    rw [hx, relV_d] at r1
    simp only [RelD] at r1
    obtain ⟨B, oo, arr, T, fr, hv, _⟩ := r1
    simp [execOp, hop, hv]

theorem q_mkf {f : FuncId} {first caps : List A} {v : V} {n : List Ob} (hA : ∀ x a, okA k x a = true → RelV M (lk a) (ρ x)) (hok : okOp P k o (.mkf f first caps) = true) (h : stepP lk Hi (.mkf f first caps) = some (v, n)) : Quiet P M w (execOp ρ o) v := by
  cases hop : o.op <;> simp only [okOp, hop] at hok <;> try (cases hok; done)
  rename_i fn fi ca
  cases fn <;> simp only at hok <;> try (cases hok; done)
  rename_i f'
  simp only [Bool.and_eq_true, beq_iff_eq] at hok
  obtain ⟨⟨rfl, h1⟩, h2⟩ := hok
  obtain ⟨m1, l1⟩ := mapA hA h1
  obtain ⟨m2, l2⟩ := mapA hA h2
  simp only [stepP] at h
  split at h <;> try (cases h; done)
  rename_i xs ys hx hy
  simp only [Option.some.injEq, Prod.mk.injEq] at h
  obtain ⟨rfl, rfl⟩ := h
  have key : ∀ (as : List A) (zs : List C) (us : List Value), mapO (fun a => (lk a).one) as = some zs → RelVs M (as.map lk) us → RelCs M zs us ∧ zs.length = as.length := by
    intro as
    induction as with
    | nil => intro zs us hz _; simp only [mapO, Option.some.injEq] at hz; subst hz; exact ⟨RelCs.nil _ _, rfl⟩
    | cons a as ih =>
      intro zs us hz hr
      simp only [mapO] at hz
      split at hz <;> try (cases hz; done)
      rename_i z hza
      split at hz <;> try (cases hz; done)
      rename_i zs' hzs
      simp only [Option.some.injEq] at hz
      subst hz
      cases us with
      | nil => simp only [List.map_cons, RelVs] at hr
      | cons u us =>
        simp only [List.map_cons, RelVs] at hr
        obtain ⟨i1, i2⟩ := ih zs' us hzs hr.2
        have hc : RelC M z u := by
          cases hl : lk a with
          | c x => rw [hl] at hza hr; simp only [V.one, Option.some.injEq] at hza; subst hza; rw [relV_c] at hr; exact hr.1
          | agg cs => rw [hl] at hza; simp [V.one] at hza
          | tup _ => rw [hl] at hza; simp [V.one] at hza
          | any => rw [hl] at hza; simp [V.one] at hza
        exact ⟨by simp only [RelCs]; exact ⟨hc, i1⟩, by simp [i2]⟩
  obtain ⟨r1, e1⟩ := key first xs _ hx m1
  obtain ⟨r2, e2⟩ := key caps ys _ hy m2
  refine quiet_of (v' := .func (.func f') (fi.map ρ) (ca.map ρ)) (by simp only [execOp, hop]; rfl) (by simp [Instr.makeFunc]) ?_
  rw [relV_c]
  simp only [RelC]
  refine ⟨_, _, rfl, by simpa using r1, ?_, by simpa using r2, ?_⟩
  · simp [e1, ← l1]
  · simp [e2, ← l2]
end
end Mini
end Go.Proofs.YtmcgaakbkgdljaaGreatDoor
