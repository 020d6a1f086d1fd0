/-
  The quiet operations, on: rows of integers held against each other; conversions; places.
-/
import Derived.Test.YtgjlofpfbhioaaaGreatDoorMiniE
namespace Go.Proofs.YtgjlofpfbhioaaaGreatDoor
namespace Mini
open Go

section
variable {P : Program} {w : World}

/-- Two rows hold integers of the same kinds. -/
def Pair (xs ys : Array Value) (off m : Nat) : Prop := ∀ j, j < m → ∃ k a b, xs[off + j]? = some (.int k a) ∧ ys[off + j]? = some (.int k b)

theorem size?_spec {t : TypeId} {n : Nat} (h : size? P t = some n) : ∃ i, P.info? t = some i ∧ i.size = n := by
  unfold size? at h
  cases hi : P.info? t with
  | none => rw [hi] at h; cases h
  | some i => rw [hi] at h; simp at h; exact ⟨i, rfl, h⟩
theorem run_sizeOf {t : TypeId} {n : Nat} (h : size? P t = some n) : (sizeOf t).run P w = .ok n w := by
  obtain ⟨i, hi, hn⟩ := size?_spec h
  simp [sizeOf, typeInfo, hi, hn]
theorem run_isAgg {t : TypeId} {b : Bool} (h : agg? P t = some b) : (isAgg t).run P w = .ok b w := by
  unfold agg? at h
  cases hu : P.underlying t with
  | none => rw [hu] at h; cases h
  | some d =>
    rw [hu] at h
    simp only [Option.map_some, Option.some.injEq] at h
    unfold isAgg
    rw [Sem.run_bind, run_underlying hu]
    simp only [Result.andThen_ok]
    cases d <;> simp_all

theorem part_agg {t : TypeId} {xs : Array Value} {off n : Nat} (ha : agg? P t = some true) (hs : size? P t = some n) : (part t xs off).run P w = .ok (.agg (xs.extract off (off + n))) w := by
  unfold part
  rw [Sem.run_bind, run_isAgg ha]
  simp only [Result.andThen_ok, if_true]
  rw [Sem.run_bind, run_sizeOf hs]
  simp
theorem part_cell {t : TypeId} {xs : Array Value} {off : Nat} {v : Value} (ha : agg? P t = some false) (hv : xs[off]? = some v) : (part t xs off).run P w = .ok v w := by
  unfold part
  rw [Sem.run_bind, run_isAgg ha]
  simp [hv]

/-- A part that holds m integers, held against another. -/
def EqPart (P : Program) (w : World) (d : Nat) (t : TypeId) (m : Nat) : Prop :=
  ∀ (e : Nat) (xs ys : Array Value) (off : Nat), Pair xs ys off m → off + m ≤ xs.size → off + m ≤ ys.size →
    ∃ x y r, (part t xs off).run P w = .ok x w ∧ (part t ys off).run P w = .ok y w ∧ (Op.equalIn (d + e) t x y).run P w = .ok r w ∧ (r = true ↔ ∀ j, j < m → xs[off + j]? = ys[off + j]?)

theorem extract_get {xs : Array Value} {off m j : Nat} (hj : j < m) (hs : off + m ≤ xs.size) : (xs.extract off (off + m))[j]? = xs[off + j]? := by
  rw [Array.getElem?_extract]
  rw [if_pos (by omega)]

theorem eqFields_ints {d e : Nat} {xs ys : Array Value} : ∀ (fs : List Field) (off tot : Nat),
    (fs.foldl (fun acc f => match acc with
        | some off => if f.name ≠ "_" ∧ f.offset = off then (match ints? P d f.type with
          | some m => if size? P f.type = some m then some (off + m) else none
          | none => none) else none
        | none => none) (some off)) = some tot →
    (∀ t m, ints? P d t = some m → size? P t = some m → EqPart P w d t m) →
    Pair xs ys 0 tot → tot ≤ xs.size → tot ≤ ys.size → off ≤ tot ∧
    ∃ r, (Op.eqFields (d + e) xs ys fs).run P w = .ok r w ∧ (r = true ↔ ∀ j, off ≤ j → j < tot → xs[j]? = ys[j]?)
  | [], off, tot, h, _, _, _, _ => by
    simp only [List.foldl_nil, Option.some.injEq] at h
    subst h
    exact ⟨Nat.le_refl _, true, by simp [Op.eqFields], by simp; omega⟩
  | f :: fs, off, tot, h, hp, hP, hx, hy => by
    simp only [List.foldl_cons] at h
    have hnone : ∀ l : List Field, (l.foldl (fun acc f => match acc with
        | some off => if f.name ≠ "_" ∧ f.offset = off then (match ints? P d f.type with
          | some m => if size? P f.type = some m then some (off + m) else none
          | none => none) else none
        | none => none) (none : Option Nat)) = none := by
      intro l
      induction l with
      | nil => rfl
      | cons a l ih => simp only [List.foldl_cons]; exact ih
    by_cases hc : f.name ≠ "_" ∧ f.offset = off
    · rw [if_pos hc] at h
      cases hi : ints? P d f.type with
      | none => rw [hi] at h; simp only at h; rw [hnone] at h; cases h
      | some m =>
        rw [hi] at h
        simp only at h
        by_cases hsz : size? P f.type = some m
        · rw [if_pos hsz] at h
          obtain ⟨hle, r', hr', hiff'⟩ := eqFields_ints (e := e) (xs := xs) (ys := ys) fs (off + m) tot h hp hP hx hy
          obtain ⟨x, y, r, h1, h2, h3, h4⟩ := hp f.type m hi hsz e xs ys off (fun j hj => by have := hP (off + j) (by omega); simpa using this) (by omega) (by omega)
          refine ⟨by omega, ?_⟩
          have hname : f.name ≠ "_" := hc.1
          have hoff : f.offset = off := hc.2
          cases r with
          | false =>
            refine ⟨false, ?_, ?_⟩
            · simp only [Op.eqFields, hname, ne_eq, not_false_eq_true, if_true, hoff, Sem.run_bind, h1, h2, h3, Result.andThen_ok]
              simp
            · simp only [Bool.false_eq_true, false_iff]
              intro hall
              have : ¬ (∀ j, j < m → xs[off + j]? = ys[off + j]?) := by simpa using h4
              exact this fun j hj => hall (off + j) (by omega) (by omega)
          | true =>
            refine ⟨r', ?_, ?_⟩
            · simp only [Op.eqFields, hname, ne_eq, not_false_eq_true, if_true, hoff, Sem.run_bind, h1, h2, h3, Result.andThen_ok]
              simp [hr']
            · have h5 : ∀ j, j < m → xs[off + j]? = ys[off + j]? := h4.1 rfl
              constructor
              · intro hr j hj1 hj2
                rcases Nat.lt_or_ge j (off + m) with h' | h'
                · have := h5 (j - off) (by omega)
                  rwa [show off + (j - off) = j by omega] at this
                · exact hiff'.1 hr j h' hj2
              · intro hall
                exact hiff'.2 fun j hj1 hj2 => hall j (by omega) hj2
        · rw [if_neg hsz, hnone] at h; cases h
    · rw [if_neg hc, hnone] at h; cases h

def eqRows (d n : Nat) (elem : TypeId) (xs ys : Array Value) : List Nat → Sem Bool
  | [] => pure true
  | i :: is => do
    let a ← part elem xs (i * n)
    let b ← part elem ys (i * n)
    let r ← Op.equalIn d elem a b
    if (!r) = true then pure false else eqRows d n elem xs ys is

theorem run_equalIn_array (d : Nat) {t elem : TypeId} {len n : Nat} (xs ys : Array Value) (ht : P.underlying t = some (.array len elem)) (hs : size? P elem = some n) :
    (Op.equalIn (d + 1) t (.agg xs) (.agg ys)).run P w = (eqRows d n elem xs ys (List.range' 0 len)).run P w := by
  simp only [Op.equalIn, Sem.run_bind, run_underlying ht, Result.andThen_ok, run_sizeOf hs]
  rw [Std.Legacy.Range.forIn_eq_forIn_range']
  simp only [Std.Legacy.Range.size, Nat.sub_zero, Nat.add_sub_cancel, Nat.div_one]
  generalize List.range' 0 len = l
  induction l generalizing w with
  | nil => simp [eqRows]
  | cons i l ih =>
    simp only [List.forIn_cons, eqRows, Sem.run_bind, Sem.run_ite]
    generalize (part elem xs (i * n)).run P w = r1
    cases r1 with
    | ok a w1 =>
      simp only [Result.andThen_ok]
      generalize (part elem ys (i * n)).run P w1 = r2
      cases r2 with
      | ok b w2 =>
        simp only [Result.andThen_ok]
        generalize (Op.equalIn d elem a b).run P w2 = r3
        cases r3 with
        | ok r w3 =>
          cases r
          · simp
          · simp only [Result.andThen_ok, Bool.not_true, Bool.false_eq_true, if_false, Sem.run_pure]
            exact ih
        | halt x w3 => simp [Result.andThen]
      | halt x w2 => simp [Result.andThen]
    | halt x w1 => simp [Result.andThen]

theorem eqRows_ints {d e m n : Nat} {elem : TypeId} {xs ys : Array Value} (hp : EqPart P w d elem m) (hP : Pair xs ys 0 (n * m)) (hx : n * m ≤ xs.size) (hy : n * m ≤ ys.size) :
    ∀ (c i : Nat), i + c = n → ∃ r, (eqRows (d + e) m elem xs ys (List.range' i c)).run P w = .ok r w ∧ (r = true ↔ ∀ j, i * m ≤ j → j < n * m → xs[j]? = ys[j]?)
  | 0, i, h => by
    refine ⟨true, by simp [eqRows], ?_⟩
    simp only [true_iff]
    intro j h1 h2
    have : i = n := by omega
    subst this
    omega
  | c + 1, i, h => by
    obtain ⟨r', hr', hiff'⟩ := eqRows_ints (e := e) hp hP hx hy c (i + 1) (by omega)
    have hle : i * m + m ≤ n * m := by
      have : (i + 1) * m ≤ n * m := Nat.mul_le_mul_right m (by omega)
      rw [Nat.add_mul] at this
      omega
    have hsucc : (i + 1) * m = i * m + m := by rw [Nat.add_mul]; omega
    obtain ⟨x, y, r, h1, h2, h3, h4⟩ := hp e xs ys (i * m) (fun j hj => by have := hP (i * m + j) (by omega); simpa using this) (by omega) (by omega)
    rw [List.range'_succ]
    cases r with
    | false =>
      refine ⟨false, ?_, ?_⟩
      · simp only [eqRows, Sem.run_bind, h1, h2, h3, Result.andThen_ok]
        simp
      · simp only [Bool.false_eq_true, false_iff]
        intro hall
        have : ¬ (∀ j, j < m → xs[i * m + j]? = ys[i * m + j]?) := by simpa using h4
        exact this fun j hj => hall (i * m + j) (by omega) (by omega)
    | true =>
      refine ⟨r', ?_, ?_⟩
      · simp only [eqRows, Sem.run_bind, h1, h2, h3, Result.andThen_ok]
        simp [hr']
      · have h5 : ∀ j, j < m → xs[i * m + j]? = ys[i * m + j]? := h4.1 rfl
        constructor
        · intro hr j hj1 hj2
          rcases Nat.lt_or_ge j (i * m + m) with h' | h'
          · have := h5 (j - i * m) (by omega)
            rwa [show i * m + (j - i * m) = j by omega] at this
          · exact hiff'.1 hr j (by omega) hj2
        · intro hall
          exact hiff'.2 fun j hj1 hj2 => hall j (by omega) hj2

/-- An aggregate that holds integers alone, held against another. -/
def EqAgg (P : Program) (w : World) (d : Nat) (t : TypeId) (m : Nat) : Prop :=
  ∀ (e : Nat) (xs ys : Array Value), Pair xs ys 0 m → m ≤ xs.size → m ≤ ys.size →
    ∃ r, (Op.equalIn (d + e) t (.agg xs) (.agg ys)).run P w = .ok r w ∧ (r = true ↔ ∀ j, j < m → xs[j]? = ys[j]?)

theorem eqPart_of_agg {d m : Nat} {t : TypeId} (ha : agg? P t = some true) (hs : size? P t = some m) (h : EqAgg P w d t m) : EqPart P w d t m := by
  intro e xs ys off hP hx hy
  have hget : ∀ j, j < m → (xs.extract off (off + m))[j]? = xs[off + j]? := fun j hj => extract_get hj hx
  have hget' : ∀ j, j < m → (ys.extract off (off + m))[j]? = ys[off + j]? := fun j hj => extract_get hj hy
  obtain ⟨r, hr, hiff⟩ := h e (xs.extract off (off + m)) (ys.extract off (off + m))
    (fun j hj => by
      obtain ⟨k, a, b, h1, h2⟩ := hP j hj
      exact ⟨k, a, b, by rw [Nat.zero_add, hget j hj]; exact h1, by rw [Nat.zero_add, hget' j hj]; exact h2⟩)
    (by simp; omega) (by simp; omega)
  refine ⟨_, _, r, part_agg ha hs, part_agg ha hs, hr, ?_⟩
  rw [hiff]
  constructor
  · intro h j hj; rw [← hget j hj, ← hget' j hj]; exact h j hj
  · intro h j hj; rw [hget j hj, hget' j hj]; exact h j hj

theorem ints_eq : ∀ (d : Nat) (t : TypeId) (m : Nat), ints? P d t = some m →
    (agg? P t = some true → EqAgg P w d t m) ∧ (size? P t = some m → EqPart P w d t m)
  | 0, t, m, h => by simp [ints?] at h
  | d + 1, t, m, h => by
    have ih := ints_eq d
    have hpart : ∀ t m, ints? P d t = some m → size? P t = some m → EqPart P w d t m := fun t m hi hs => (ih t m hi).2 hs
    have agg : agg? P t = some true → EqAgg P w (d + 1) t m := by
      intro ha e xs ys hP hx hy
      have hd : d + 1 + e = (d + e) + 1 := by omega
      unfold ints? at h
      split at h
      · rename_i k hu
        unfold agg? at ha; rw [hu] at ha; simp at ha
      · rename_i n elem hu
        split at h
        · rename_i m' hm'
          split at h
          · rename_i hs
            simp only [Option.some.injEq] at h
            subst h
            obtain ⟨r, hr, hiff⟩ := eqRows_ints (e := e) (hpart _ _ hm' hs) hP hx hy n 0 (by omega)
            exact ⟨r, by rw [hd, run_equalIn_array _ _ _ hu hs]; exact hr, by rw [hiff]; simp⟩
          · cases h
        · cases h
      · rename_i fs hu
        split at h
        · cases h
        · rename_i hst
          have hf : P.underlying t = some (.struct (P.fieldsOf t)) := by unfold Program.fieldsOf; rw [hu]
          have hfs : P.fieldsOf t = fs := by unfold Program.fieldsOf; rw [hu]
          obtain ⟨_, r, hr, hiff⟩ := eqFields_ints (w := w) (e := e) (xs := xs) (ys := ys) fs.toList 0 m h hpart hP hx hy
          exact ⟨r, by rw [hd, run_equalIn_struct w (d + e) t xs ys hf (by simpa using hst), hfs]; exact hr, by rw [hiff]; simp⟩
      · cases h
    refine ⟨agg, fun hs => ?_⟩
    by_cases ha : agg? P t = some true
    · exact eqPart_of_agg ha hs (agg ha)
    · intro e xs ys off hP hx hy
      unfold ints? at h
      split at h
      · rename_i k hu
        simp only [Option.some.injEq] at h
        subst h
        have ha' : agg? P t = some false := by unfold agg?; rw [hu]; rfl
        obtain ⟨k', a, b, h1, h2⟩ := hP 0 (by omega)
        simp only [Nat.add_zero] at h1 h2
        refine ⟨_, _, a == b, part_cell ha' h1, part_cell ha' h2, ?_, ?_⟩
        · rw [show d + 1 + e = (d + e) + 1 by omega]; exact run_equalIn_int w _ t k' k a b hu
        · rw [beq_iff_eq]
          constructor
          · rintro rfl j hj
            have : j = 0 := by omega
            subst this
            simp [h1, h2]
          · intro hall
            have := hall 0 (by omega)
            simp only [Nat.add_zero, h1, h2, Option.some.injEq, Value.int.injEq, true_and] at this
            exact this
      · rename_i n elem hu
        exact absurd (by unfold agg?; rw [hu]; rfl) ha
      · rename_i fs hu
        exact absurd (by unfold agg?; rw [hu]; rfl) ha
      · cases h
end
end Mini
end Go.Proofs.YtgjlofpfbhioaaaGreatDoor
