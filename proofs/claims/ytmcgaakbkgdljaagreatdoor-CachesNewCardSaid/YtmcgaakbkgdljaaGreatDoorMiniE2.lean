/-
  The quiet operations, on: rows of integers, bools and strings held against each other; keys of maps.
-/
import Derived.Test.YtmcgaakbkgdljaaGreatDoorMiniE
import Derived.MapKept
namespace Go.Proofs.YtmcgaakbkgdljaaGreatDoor
namespace Mini
open Go

section
variable {P : Program} {w : World}

/-- Two cells of a kind. -/
def CellP : Nat → Value → Value → Prop
  | 0, u, v => ∃ k a b, u = .int k a ∧ v = .int k b
  | 1, u, v => ∃ a b, u = .bool a ∧ v = .bool b
  | 2, u, v => ∃ a b, u = .string a ∧ v = .string b
  | _, _, _ => False
/-- Two rows hold cells of these kinds. -/
def Pair (ks : List Nat) (xs ys : Array Value) (off : Nat) : Prop := ∀ j k, ks[j]? = some k → ∃ u v, xs[off + j]? = some u ∧ ys[off + j]? = some v ∧ CellP k u v

theorem size?_spec {t : TypeId} {n : Nat} (h : size? P t = some n) : ∃ i, P.info? t = some i ∧ i.size = n := by
  unfold size? at h
  cases hi : P.info? t with
  | none => rw [hi] at h; cases h
  | some i => rw [hi] at h; simp at h; exact ⟨i, rfl, h⟩
theorem run_sizeOf {t : TypeId} {n : Nat} (h : size? P t = some n) : (sizeOf t).run P w = .ok n w := by
  obtain ⟨i, hi, hn⟩ := size?_spec h
  simp [sizeOf, typeInfo, hi, hn]
theorem run_isAgg {t : TypeId} {b : Bool} (h : agg? P t = some b) : (isAgg t).run P w = .ok b w := by
  unfold agg? at h
  cases hu : P.underlying t with
  | none => rw [hu] at h; cases h
  | some d =>
    rw [hu] at h
    simp only [Option.map_some, Option.some.injEq] at h
    unfold isAgg
    rw [Sem.run_bind, run_underlying hu]
    simp only [Result.andThen_ok]
    cases d <;> simp_all

theorem part_agg {t : TypeId} {xs : Array Value} {off n : Nat} (ha : agg? P t = some true) (hs : size? P t = some n) : (part t xs off).run P w = .ok (.agg (xs.extract off (off + n))) w := by
  unfold part
  rw [Sem.run_bind, run_isAgg ha]
  simp only [Result.andThen_ok, if_true]
  rw [Sem.run_bind, run_sizeOf hs]
  simp
theorem part_cell {t : TypeId} {xs : Array Value} {off : Nat} {v : Value} (ha : agg? P t = some false) (hv : xs[off]? = some v) : (part t xs off).run P w = .ok v w := by
  unfold part
  rw [Sem.run_bind, run_isAgg ha]
  simp [hv]

/-- A part of such cells, held against another. -/
def EqPart (P : Program) (w : World) (d : Nat) (t : TypeId) (ks : List Nat) : Prop :=
  ∀ (e : Nat) (xs ys : Array Value) (off : Nat), Pair ks xs ys off → off + ks.length ≤ xs.size → off + ks.length ≤ ys.size →
    ∃ x y r, (part t xs off).run P w = .ok x w ∧ (part t ys off).run P w = .ok y w ∧ (Op.equalIn (d + e) t x y).run P w = .ok r w ∧ (r = true ↔ ∀ j, j < ks.length → xs[off + j]? = ys[off + j]?)

theorem extract_get {xs : Array Value} {off m j : Nat} (hj : j < m) (hs : off + m ≤ xs.size) : (xs.extract off (off + m))[j]? = xs[off + j]? := by
  rw [Array.getElem?_extract]
  rw [if_pos (by omega)]

def foldF (P : Program) (d : Nat) (acc : Option (List Nat)) (f : Field) : Option (List Nat) := match acc with
  | some ks0 => if f.name ≠ "_" ∧ f.offset = ks0.length then (match flat? P d f.type with
    | some ks => if size? P f.type = some ks.length then some (ks0 ++ ks) else none
    | none => none) else none
  | none => none
theorem foldF_none {d : Nat} : ∀ l : List Field, l.foldl (foldF P d) none = none
  | [] => rfl
  | _ :: l => by rw [List.foldl_cons]; exact foldF_none l
/-- A field, and what comes behind it. -/
theorem foldF_cons {d : Nat} {f : Field} {fs : List Field} {ks0 tot : List Nat} (h : (f :: fs).foldl (foldF P d) (some ks0) = some tot) : f.name ≠ "_" ∧ f.offset = ks0.length ∧ ∃ ks, flat? P d f.type = some ks ∧ size? P f.type = some ks.length ∧ fs.foldl (foldF P d) (some (ks0 ++ ks)) = some tot := by
  rw [List.foldl_cons] at h
  by_cases hc : f.name ≠ "_" ∧ f.offset = ks0.length
  · cases hi : flat? P d f.type with
    | none => simp only [foldF, if_pos hc, hi] at h; rw [foldF_none] at h; cases h
    | some ks =>
      by_cases hsz : size? P f.type = some ks.length
      · simp only [foldF, if_pos hc, hi, if_pos hsz] at h
        exact ⟨hc.1, hc.2, ks, rfl, hsz, h⟩
      · simp only [foldF, if_pos hc, hi, if_neg hsz] at h; rw [foldF_none] at h; cases h
  · simp only [foldF, if_neg hc] at h; rw [foldF_none] at h; cases h
theorem foldF_pre {d : Nat} : ∀ {fs : List Field} {ks0 tot : List Nat}, fs.foldl (foldF P d) (some ks0) = some tot → ∃ r, tot = ks0 ++ r
  | [], ks0, tot, h => by
    simp only [List.foldl_nil, Option.some.injEq] at h
    exact ⟨[], by simp [h]⟩
  | f :: fs, ks0, tot, h => by
    obtain ⟨_, _, ks, _, _, h⟩ := foldF_cons h
    obtain ⟨r, rfl⟩ := foldF_pre h
    exact ⟨ks ++ r, by simp⟩

theorem eqFields_flat {d e : Nat} {xs ys : Array Value} : ∀ (fs : List Field) (ks0 tot : List Nat), fs.foldl (foldF P d) (some ks0) = some tot →
    (∀ t ks, flat? P d t = some ks → size? P t = some ks.length → EqPart P w d t ks) →
    Pair tot xs ys 0 → tot.length ≤ xs.size → tot.length ≤ ys.size →
    ∃ r, (Op.eqFields (d + e) xs ys fs).run P w = .ok r w ∧ (r = true ↔ ∀ j, ks0.length ≤ j → j < tot.length → xs[j]? = ys[j]?)
  | [], ks0, tot, h, _, _, _, _ => by
    simp only [List.foldl_nil, Option.some.injEq] at h
    subst h
    exact ⟨true, by simp [Op.eqFields], by simp; omega⟩
  | f :: fs, ks0, tot, h, hp, hP, hx, hy => by
    obtain ⟨hname, hoff, ks, hi, hsz, h⟩ := foldF_cons h
    obtain ⟨rest, hrest⟩ := foldF_pre h
    have hlen : ks0.length + ks.length ≤ tot.length := by rw [hrest]; simp
    have hat : ∀ j k, ks[j]? = some k → tot[ks0.length + j]? = some k := fun j k hj => by
      have hj' := (List.getElem?_eq_some_iff.1 hj).1
      rw [hrest, List.getElem?_append_left (by simp; omega), List.getElem?_append_right (by omega)]
      rw [show ks0.length + j - ks0.length = j by omega]
      exact hj
    obtain ⟨r', hr', hiff'⟩ := eqFields_flat (e := e) (xs := xs) (ys := ys) fs (ks0 ++ ks) tot h hp hP hx hy
    rw [List.length_append] at hiff'
    obtain ⟨x, y, r, h1, h2, h3, h4⟩ := hp f.type ks hi hsz e xs ys ks0.length (fun j k hj => by have := hP (ks0.length + j) k (hat j k hj); simpa using this) (by omega) (by omega)
    cases r with
    | false =>
      refine ⟨false, ?_, ?_⟩
      · simp only [Op.eqFields, hname, ne_eq, not_false_eq_true, if_true, hoff, Sem.run_bind, h1, h2, h3, Result.andThen_ok]
        simp
      · simp only [Bool.false_eq_true, false_iff]
        intro hall
        have : ¬ (∀ j, j < ks.length → xs[ks0.length + j]? = ys[ks0.length + j]?) := by simpa using h4
        exact this fun j hj => hall (ks0.length + j) (by omega) (by omega)
    | true =>
      refine ⟨r', ?_, ?_⟩
      · simp only [Op.eqFields, hname, ne_eq, not_false_eq_true, if_true, hoff, Sem.run_bind, h1, h2, h3, Result.andThen_ok]
        simp [hr']
      · have h5 : ∀ j, j < ks.length → xs[ks0.length + j]? = ys[ks0.length + j]? := h4.1 rfl
        constructor
        · intro hr j hj1 hj2
          rcases Nat.lt_or_ge j (ks0.length + ks.length) with h' | h'
          · have := h5 (j - ks0.length) (by omega)
            rwa [show ks0.length + (j - ks0.length) = j by omega] at this
          · exact hiff'.1 hr j h' hj2
        · intro hall
          exact hiff'.2 fun j hj1 hj2 => hall j (by omega) hj2

def eqRows (d n : Nat) (elem : TypeId) (xs ys : Array Value) : List Nat → Sem Bool
  | [] => pure true
  | i :: is => do
    let a ← part elem xs (i * n)
    let b ← part elem ys (i * n)
    let r ← Op.equalIn d elem a b
    if (!r) = true then pure false else eqRows d n elem xs ys is

theorem run_equalIn_array (d : Nat) {t elem : TypeId} {len n : Nat} (xs ys : Array Value) (ht : P.underlying t = some (.array len elem)) (hs : size? P elem = some n) :
    (Op.equalIn (d + 1) t (.agg xs) (.agg ys)).run P w = (eqRows d n elem xs ys (List.range' 0 len)).run P w := by
  simp only [Op.equalIn, Sem.run_bind, run_underlying ht, Result.andThen_ok, run_sizeOf hs]
  rw [Std.Legacy.Range.forIn_eq_forIn_range']
  simp only [Std.Legacy.Range.size, Nat.sub_zero, Nat.add_sub_cancel, Nat.div_one]
  generalize List.range' 0 len = l
  induction l generalizing w with
  | nil => simp [eqRows]
  | cons i l ih =>
    simp only [List.forIn_cons, eqRows, Sem.run_bind, Sem.run_ite]
    generalize (part elem xs (i * n)).run P w = r1
    cases r1 with
    | ok a w1 =>
      simp only [Result.andThen_ok]
      generalize (part elem ys (i * n)).run P w1 = r2
      cases r2 with
      | ok b w2 =>
        simp only [Result.andThen_ok]
        generalize (Op.equalIn d elem a b).run P w2 = r3
        cases r3 with
        | ok r w3 =>
          cases r
          · simp
          · simp only [Result.andThen_ok, Bool.not_true, Bool.false_eq_true, if_false, Sem.run_pure]
            exact ih
        | halt x w3 => simp [Result.andThen]
      | halt x w2 => simp [Result.andThen]
    | halt x w1 => simp [Result.andThen]

theorem flatRep_length (n : Nat) (ks : List Nat) : (flatRep n ks).length = n * ks.length := by
  unfold flatRep
  induction n with
  | zero => simp
  | succ n ih => rw [List.replicate_succ, List.flatten_cons, List.length_append, ih, Nat.succ_mul, Nat.add_comm]
theorem flatRep_at {ks : List Nat} {j k : Nat} (hj : ks[j]? = some k) : ∀ {n i : Nat}, i < n → (flatRep n ks)[i * ks.length + j]? = some k
  | 0, _, h => absurd h (Nat.not_lt_zero _)
  | n + 1, 0, _ => by
    have := (List.getElem?_eq_some_iff.1 hj).1
    unfold flatRep
    rw [List.replicate_succ, List.flatten_cons, Nat.zero_mul, Nat.zero_add, List.getElem?_append_left this]
    exact hj
  | n + 1, i + 1, h => by
    have := flatRep_at hj (n := n) (i := i) (by omega)
    unfold flatRep at this ⊢
    rw [List.replicate_succ, List.flatten_cons, List.getElem?_append_right (by rw [Nat.succ_mul]; omega)]
    rw [show (i + 1) * ks.length + j - ks.length = i * ks.length + j by rw [Nat.succ_mul]; omega]
    exact this

theorem eqRows_flat {d e n : Nat} {ks : List Nat} {elem : TypeId} {xs ys : Array Value} (hp : EqPart P w d elem ks) (hP : Pair (flatRep n ks) xs ys 0) (hx : n * ks.length ≤ xs.size) (hy : n * ks.length ≤ ys.size) :
    ∀ (c i : Nat), i + c = n → ∃ r, (eqRows (d + e) ks.length elem xs ys (List.range' i c)).run P w = .ok r w ∧ (r = true ↔ ∀ j, i * ks.length ≤ j → j < n * ks.length → xs[j]? = ys[j]?)
  | 0, i, h => by
    refine ⟨true, by simp [eqRows], ?_⟩
    simp only [true_iff]
    intro j h1 h2
    have : i = n := by omega
    subst this
    omega
  | c + 1, i, h => by
    obtain ⟨r', hr', hiff'⟩ := eqRows_flat (e := e) hp hP hx hy c (i + 1) (by omega)
    have hle : i * ks.length + ks.length ≤ n * ks.length := by
      have : (i + 1) * ks.length ≤ n * ks.length := Nat.mul_le_mul_right ks.length (by omega)
      rw [Nat.add_mul] at this
      omega
    have hsucc : (i + 1) * ks.length = i * ks.length + ks.length := by rw [Nat.add_mul]; omega
    obtain ⟨x, y, r, h1, h2, h3, h4⟩ := hp e xs ys (i * ks.length) (fun j k hj => by have := hP (i * ks.length + j) k (flatRep_at hj (by omega)); simpa using this) (by omega) (by omega)
    rw [List.range'_succ]
    cases r with
    | false =>
      refine ⟨false, ?_, ?_⟩
      · simp only [eqRows, Sem.run_bind, h1, h2, h3, Result.andThen_ok]
        simp
      · simp only [Bool.false_eq_true, false_iff]
        intro hall
        have : ¬ (∀ j, j < ks.length → xs[i * ks.length + j]? = ys[i * ks.length + j]?) := by simpa using h4
        exact this fun j hj => hall (i * ks.length + j) (by omega) (by omega)
    | true =>
      refine ⟨r', ?_, ?_⟩
      · simp only [eqRows, Sem.run_bind, h1, h2, h3, Result.andThen_ok]
        simp [hr']
      · have h5 : ∀ j, j < ks.length → xs[i * ks.length + j]? = ys[i * ks.length + j]? := h4.1 rfl
        constructor
        · intro hr j hj1 hj2
          rcases Nat.lt_or_ge j (i * ks.length + ks.length) with h' | h'
          · have := h5 (j - i * ks.length) (by omega)
            rwa [show i * ks.length + (j - i * ks.length) = j by omega] at this
          · exact hiff'.1 hr j (by omega) hj2
        · intro hall
          exact hiff'.2 fun j hj1 hj2 => hall j (by omega) hj2

/-- An aggregate of such cells, held against another. -/
def EqAgg (P : Program) (w : World) (d : Nat) (t : TypeId) (ks : List Nat) : Prop :=
  ∀ (e : Nat) (xs ys : Array Value), Pair ks xs ys 0 → ks.length ≤ xs.size → ks.length ≤ ys.size →
    ∃ r, (Op.equalIn (d + e) t (.agg xs) (.agg ys)).run P w = .ok r w ∧ (r = true ↔ ∀ j, j < ks.length → xs[j]? = ys[j]?)

theorem eqPart_of_agg {d : Nat} {ks : List Nat} {t : TypeId} (ha : agg? P t = some true) (hs : size? P t = some ks.length) (h : EqAgg P w d t ks) : EqPart P w d t ks := by
  intro e xs ys off hP hx hy
  have hget : ∀ j, j < ks.length → (xs.extract off (off + ks.length))[j]? = xs[off + j]? := fun j hj => extract_get hj hx
  have hget' : ∀ j, j < ks.length → (ys.extract off (off + ks.length))[j]? = ys[off + j]? := fun j hj => extract_get hj hy
  obtain ⟨r, hr, hiff⟩ := h e (xs.extract off (off + ks.length)) (ys.extract off (off + ks.length))
    (fun j k hj => by
      obtain ⟨a, b, h1, h2, h3⟩ := hP j k hj
      have hj' := (List.getElem?_eq_some_iff.1 hj).1
      exact ⟨a, b, by rw [Nat.zero_add, hget j hj']; exact h1, by rw [Nat.zero_add, hget' j hj']; exact h2, h3⟩)
    (by simp; omega) (by simp; omega)
  refine ⟨_, _, r, part_agg ha hs, part_agg ha hs, hr, ?_⟩
  rw [hiff]
  constructor
  · intro h j hj; rw [← hget j hj, ← hget' j hj]; exact h j hj
  · intro h j hj; rw [hget j hj, hget' j hj]; exact h j hj

theorem kindOf_not {u : TypeDesc} {k : Nat} (h : kindOf u = some k) : (u = .bool ∧ k = 1) ∨ (u = .string ∧ k = 2) ∨ (∃ kd, u = .int kd) ∧ k = 0 := by
  unfold kindOf at h
  split at h <;> try (cases h; done)
  · exact .inr (.inr ⟨⟨_, rfl⟩, (Option.some.inj h).symm⟩)
  · exact .inl ⟨rfl, (Option.some.inj h).symm⟩
  · exact .inr (.inl ⟨rfl, (Option.some.inj h).symm⟩)

/-- What a type of such cells is. -/
theorem flat_cases {d : Nat} {t : TypeId} {ks : List Nat} (h : flat? P (d + 1) t = some ks) :
    (∃ n e ks', P.underlying t = some (.array n e) ∧ flat? P d e = some ks' ∧ size? P e = some ks'.length ∧ ks = flatRep n ks') ∨
    (∃ fs : Array Field, P.underlying t = some (.struct fs) ∧ P.stoodInHeld t = false ∧ fs.toList.foldl (foldF P d) (some []) = some ks) ∨
    (∃ u k, P.underlying t = some u ∧ kindOf u = some k ∧ ks = [k]) := by
  unfold flat? at h
  split at h
  · rename_i n e hu
    split at h
    · rename_i ks' hk
      split at h
      · rename_i hs
        exact .inl ⟨n, e, ks', hu, hk, hs, (Option.some.inj h).symm⟩
      · cases h
    · cases h
  · rename_i fs hu
    split at h
    · cases h
    · rename_i hst
      exact .inr (.inl ⟨fs, hu, by simpa using hst, h⟩)
  · rename_i u _ _ hu
    cases hk : kindOf u with
    | none => rw [hk] at h; cases h
    | some k =>
      rw [hk] at h
      exact .inr (.inr ⟨u, k, hu, hk, (Option.some.inj h).symm⟩)
  · cases h

theorem run_equalIn_bool (d : Nat) (t : TypeId) (a b : Bool) (h : P.underlying t = some .bool) : (Op.equalIn (d + 1) t (.bool a) (.bool b)).run P w = .ok (a == b) w := by
  simp [Op.equalIn, run_underlying h]
theorem run_equalIn_string (d : Nat) (t : TypeId) (a b : ByteArray) (h : P.underlying t = some .string) : (Op.equalIn (d + 1) t (.string a) (.string b)).run P w = .ok (a == b) w := by
  simp [Op.equalIn, run_underlying h]

/-- One cell held against another. -/
theorem eq_cell {d k : Nat} {t : TypeId} {desc : TypeDesc} {u v : Value} (hu : P.underlying t = some desc) (hk : kindOf desc = some k) (hc : CellP k u v) : ∃ r, (Op.equalIn (d + 1) t u v).run P w = .ok r w ∧ (r = true ↔ u = v) := by
  rcases kindOf_not hk with ⟨rfl, rfl⟩ | ⟨rfl, rfl⟩ | ⟨⟨kd, rfl⟩, rfl⟩
  · obtain ⟨a, b, rfl, rfl⟩ := hc
    exact ⟨_, run_equalIn_bool d t a b hu, by simp⟩
  · obtain ⟨a, b, rfl, rfl⟩ := hc
    exact ⟨_, run_equalIn_string d t a b hu, by rw [MapKept.bytes_beq]; simp⟩
  · obtain ⟨k', a, b, rfl, rfl⟩ := hc
    exact ⟨_, run_equalIn_int w d t k' kd a b hu, by simp⟩

theorem flat_eq : ∀ (d : Nat) (t : TypeId) (ks : List Nat), flat? P d t = some ks →
    (agg? P t = some true → EqAgg P w d t ks) ∧ (size? P t = some ks.length → EqPart P w d t ks)
  | 0, t, m, h => by simp [flat?] at h
  | d + 1, t, ks, h => by
    have ih := flat_eq d
    have hpart : ∀ t ks, flat? P d t = some ks → size? P t = some ks.length → EqPart P w d t ks := fun t ks hi hs => (ih t ks hi).2 hs
    have agg : agg? P t = some true → EqAgg P w (d + 1) t ks := by
      intro ha e xs ys hP hx hy
      have hd : d + 1 + e = (d + e) + 1 := by omega
      rcases flat_cases h with ⟨n, el, ks', hu, hk, hs, rfl⟩ | ⟨fs, hu, hst, hf⟩ | ⟨u, k, hu, hk, rfl⟩
      · rw [flatRep_length] at hx hy ⊢
        obtain ⟨r, hr, hiff⟩ := eqRows_flat (e := e) (hpart _ _ hk hs) hP hx hy n 0 (by omega)
        exact ⟨r, by rw [hd, run_equalIn_array _ _ _ hu hs]; exact hr, by rw [hiff]; simp⟩
      · have hf' : P.underlying t = some (.struct (P.fieldsOf t)) := by unfold Program.fieldsOf; rw [hu]
        have hfs : P.fieldsOf t = fs := by unfold Program.fieldsOf; rw [hu]
        obtain ⟨r, hr, hiff⟩ := eqFields_flat (w := w) (e := e) (xs := xs) (ys := ys) fs.toList [] ks hf hpart hP hx hy
        exact ⟨r, by rw [hd, run_equalIn_struct w (d + e) t xs ys hf' hst, hfs]; exact hr, by rw [hiff]; simp⟩
      · unfold agg? at ha
        rw [hu] at ha
        rcases kindOf_not hk with ⟨rfl, rfl⟩ | ⟨rfl, rfl⟩ | ⟨⟨kd, rfl⟩, rfl⟩ <;> simp at ha
    refine ⟨agg, fun hs => ?_⟩
    by_cases ha : agg? P t = some true
    · exact eqPart_of_agg ha hs (agg ha)
    · intro e xs ys off hP hx hy
      rcases flat_cases h with ⟨n, el, ks', hu, _⟩ | ⟨fs, hu, _⟩ | ⟨u, k, hu, hk, rfl⟩
      · exact absurd (by unfold agg?; rw [hu]; rfl) ha
      · exact absurd (by unfold agg?; rw [hu]; rfl) ha
      · have ha' : agg? P t = some false := by
          unfold agg?
          rw [hu]
          rcases kindOf_not hk with ⟨rfl, rfl⟩ | ⟨rfl, rfl⟩ | ⟨⟨kd, rfl⟩, rfl⟩ <;> rfl
        obtain ⟨a, b, h1, h2, h3⟩ := hP 0 k rfl
        simp only [Nat.add_zero] at h1 h2
        obtain ⟨r, hr, hiff⟩ := eq_cell (w := w) (d := d + e) hu hk h3
        refine ⟨a, b, r, part_cell ha' h1, part_cell ha' h2, ?_, ?_⟩
        · rw [show d + 1 + e = (d + e) + 1 by omega]; exact hr
        · rw [hiff]
          constructor
          · rintro rfl j hj
            have : j = 0 := by simpa using hj
            subst this
            simp [h1, h2]
          · intro hall
            have := hall 0 (by simp)
            simp only [Nat.add_zero, h1, h2, Option.some.injEq] at this
            exact this
end
end Mini
end Go.Proofs.YtmcgaakbkgdljaaGreatDoor
