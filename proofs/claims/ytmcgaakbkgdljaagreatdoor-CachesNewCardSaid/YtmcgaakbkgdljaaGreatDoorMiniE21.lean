/-
  The operations on maps; characters of strings one by one; calls through an interface.
-/
import Derived.Test.YtmcgaakbkgdljaaGreatDoorMiniE10
import Derived.MapKept
namespace Go.Proofs.YtmcgaakbkgdljaaGreatDoor
namespace Mini
open Go

section
variable {P : Program} {M : MM} {w w' : World} {k : K} {o : Oper} {lk : A → V} {ρ : Operand → Value} {H H' : Heap} {E : Env}

/-! ### Keys -/
def KeyVal (g : Bool) (ks : List Nat) (u : Value) : Prop :=
  if g then ∃ arr, u = .agg arr ∧ arr.size = ks.length ∧ ∀ (j k : Nat), ks[j]? = some k → ∃ x, arr[j]? = some x ∧ CellP k x x else ∃ k, ks = [k] ∧ CellP k u u

theorem kinds_rel : ∀ {ks : List Nat} {cs : List C} {us : List Value}, hasKinds ks cs = true → RelCs M cs us → cs.length = ks.length ∧ ∀ (j k : Nat), ks[j]? = some k → ∃ x, us[j]? = some x ∧ CellP k x x
  | [], [], _, _, _ => ⟨rfl, fun j k h => by simp at h⟩
  | [], _ :: _, _, h, _ => by simp [hasKinds] at h
  | _ :: _, [], _, h, _ => by simp [hasKinds] at h
  | _ :: _, _ :: _, [], _, h => by simp only [RelCs] at h
  | k :: ks, c :: cs, u :: us, h, hr => by
    simp only [hasKinds, Bool.and_eq_true] at h
    simp only [RelCs] at hr
    obtain ⟨h1, h2⟩ := kinds_rel h.2 hr.2
    refine ⟨by simp [h1], fun j k' hj => ?_⟩
    cases j with
    | zero => simp at hj; subst hj; exact ⟨u, by simp, kind_rel h.1 hr.1⟩
    | succ j => simpa using h2 j k' (by simpa using hj)
theorem key_rel {g : Bool} {ks : List Nat} {x : V} {u : Value} (h : keyFit g ks x = true) (hr : RelV M x u) : KeyVal g ks u := by
  unfold keyFit at h
  split at h <;> try (cases h; done)
  · rename_i c
    simp only [Bool.and_eq_true, Bool.not_eq_true'] at h
    obtain ⟨rfl, h⟩ := h
    rw [relV_c] at hr
    match ks, h with
    | [k0], h =>
      simp only [hasKinds, Bool.and_true] at h
      simp only [KeyVal, Bool.false_eq_true, if_false]
      exact ⟨k0, rfl, kind_rel h hr⟩
    | [], h => simp [hasKinds] at h
    | _ :: _ :: _, h => simp [hasKinds] at h
  · rename_i cs
    simp only [Bool.and_eq_true] at h
    obtain ⟨rfl, h⟩ := h
    rw [relV_agg] at hr
    obtain ⟨arr, rfl, h1, h2⟩ := hr
    obtain ⟨h3, h4⟩ := kinds_rel h h2
    simp only [KeyVal, if_true]
    exact ⟨arr, rfl, by omega, fun j k hj => by simpa using h4 j k hj⟩

theorem run_forIn_ok {α : Type} {f : α → PUnit → Sem (ForInStep PUnit)} : ∀ (l : List α), (∀ a ∈ l, (f a ⟨⟩).run P w = .ok (.yield ⟨⟩) w) → (forIn l PUnit.unit f).run P w = .ok ⟨⟩ w
  | [], _ => by simp
  | a :: l, h => by
    have h1 := h a (by simp)
    have h2 := run_forIn_ok l (fun b hb => h b (by simp [hb]))
    simp only [List.forIn_cons, Sem.run_bind]
    have h1' : (f a PUnit.unit).run P w = .ok (.yield ⟨⟩) w := h1
    rw [h1']
    simp only [Result.andThen_ok]
    exact h2

/-- A key of flat cells is a key. -/
theorem run_checkKey_flat : ∀ (d : Nat) (t : TypeId) (ks : List Nat), flat? P d t = some ks → ∀ (e : Bool) (n : Nat) (g : Bool) (u : Value), agg? P t = some g → KeyVal g ks u → (Instr.checkKey e (d + n) t u).run P w = .ok () w
  | 0, t, ks, h => by simp [flat?] at h
  | d + 1, t, ks, h => by
    intro e n g u ha hk
    have ih := run_checkKey_flat d
    rw [show d + 1 + n = (d + n) + 1 by omega]
    -- a part
    have part : ∀ (t' : TypeId) (ks' : List Nat) (arr : Array Value) (off : Nat), flat? P d t' = some ks' → size? P t' = some ks'.length → off + ks'.length ≤ arr.size → (∀ (j k : Nat), ks'[j]? = some k → ∃ x, arr[off + j]? = some x ∧ CellP k x x) →
        ∃ v, (Go.part t' arr off).run P w = .ok v w ∧ (Instr.checkKey e (d + n) t' v).run P w = .ok () w := by
      intro t' ks' arr off hf hs hle hc
      cases hg : agg? P t' with
      | none =>
        unfold agg? at hg
        cases d with
        | zero => simp [flat?] at hf
        | succ d =>
          rcases flat_cases hf with ⟨_, _, _, hu, _⟩ | ⟨_, hu, _⟩ | ⟨_, _, hu, _⟩ <;> rw [hu] at hg <;> simp at hg
      | some g' =>
        cases g' with
        | true =>
          refine ⟨_, part_agg hg hs, ih t' ks' hf e n true _ hg ?_⟩
          simp only [KeyVal, if_true]
          refine ⟨_, rfl, by simp; omega, fun j k hj => ?_⟩
          obtain ⟨x, h1, h2⟩ := hc j k hj
          exact ⟨x, by rw [extract_get (List.getElem?_eq_some_iff.1 hj).1 hle]; exact h1, h2⟩
        | false =>
          have : ∃ k0, ks' = [k0] := by
            cases d with
            | zero => simp [flat?] at hf
            | succ d =>
              rcases flat_cases hf with ⟨_, _, _, hu, _⟩ | ⟨_, hu, _⟩ | ⟨_, k0, hu, _, rfl⟩
              · unfold agg? at hg; rw [hu] at hg; simp at hg
              · unfold agg? at hg; rw [hu] at hg; simp at hg
              · exact ⟨k0, rfl⟩
          obtain ⟨k0, rfl⟩ := this
          obtain ⟨x, h1, h2⟩ := hc 0 k0 rfl
          refine ⟨x, part_cell hg (by simpa using h1), ih t' [k0] hf e n false _ hg ?_⟩
          simp only [KeyVal, Bool.false_eq_true, if_false]
          exact ⟨k0, rfl, h2⟩
    rcases flat_cases h with ⟨len, el, ks', hu, hf, hs, rfl⟩ | ⟨fs, hu, hst, hf⟩ | ⟨desc, k0, hu, hkd, rfl⟩
    · have hg : g = true := by unfold agg? at ha; rw [hu] at ha; simpa using ha.symm
      subst hg
      simp only [KeyVal, if_true] at hk
      obtain ⟨arr, rfl, hsz, hc⟩ := hk
      rw [flatRep_length] at hsz
      unfold Instr.checkKey
      simp only [Sem.run_bind, run_underlying hu, Result.andThen_ok]
      rw [Std.Legacy.Range.forIn_eq_forIn_range']
      refine Eq.trans (congrArg (fun r => Result.andThen r _) (run_forIn_ok (P := P) (w := w) _ fun i hi => ?_)) rfl
      have hi' : i < len := by
        rw [List.mem_range'_1] at hi
        simp at hi
        omega
      have hle : i * ks'.length + ks'.length ≤ len * ks'.length := by
        have := Nat.mul_le_mul_right ks'.length (show i + 1 ≤ len by omega)
        rw [Nat.succ_mul] at this
        exact this
      obtain ⟨v, h1, h2⟩ := part el ks' arr (i * ks'.length) hf hs (by omega) (fun j k hj => hc _ k (flatRep_at hj hi'))
      simp only [Sem.run_bind, run_sizeOf hs, Result.andThen_ok, h1, h2, Sem.run_pure]
    · have hg : g = true := by unfold agg? at ha; rw [hu] at ha; simpa using ha.symm
      subst hg
      simp only [KeyVal, if_true] at hk
      obtain ⟨arr, rfl, hsz, hc⟩ := hk
      unfold Instr.checkKey
      simp only [Sem.run_bind, run_underlying hu, Result.andThen_ok]
      rw [← Array.forIn_toList]
      refine Eq.trans (congrArg (fun r => Result.andThen r _) (run_forIn_ok (P := P) (w := w) fs.toList fun f hf' => ?_)) rfl
      have : ∃ ks1 ks2 ks3, flat? P d f.type = some ks2 ∧ size? P f.type = some ks2.length ∧ f.offset = ks1.length ∧ f.name ≠ "_" ∧ ks = ks1 ++ ks2 ++ ks3 := by
        have : ∀ (l : List Field) (ks0 : List Nat), l.foldl (foldF P d) (some ks0) = some ks → f ∈ l → ∃ ks1 ks2 ks3, flat? P d f.type = some ks2 ∧ size? P f.type = some ks2.length ∧ f.offset = ks1.length ∧ f.name ≠ "_" ∧ ks = ks1 ++ ks2 ++ ks3 := by
          intro l
          induction l with
          | nil => intro _ _ hm; cases hm
          | cons a l ihl =>
            intro ks0 hfold hm
            obtain ⟨q1, q2, ks2, q3, q4, q5⟩ := foldF_cons hfold
            rcases List.mem_cons.1 hm with rfl | hm
            · obtain ⟨r, hr⟩ := foldF_pre q5
              exact ⟨ks0, ks2, r, q3, q4, q2, q1, hr⟩
            · exact ihl _ q5 hm
        exact this fs.toList [] hf hf'
      obtain ⟨ks1, ks2, ks3, q1, q2, q3, q4, rfl⟩ := this
      simp only [List.length_append] at hsz
      obtain ⟨v, h1, h2⟩ := part f.type ks2 arr ks1.length q1 q2 (by omega) (fun j k hj => hc _ k (by
        have hj' := (List.getElem?_eq_some_iff.1 hj).1
        rw [List.getElem?_append_left (by simp; omega), List.getElem?_append_right (by omega), show ks1.length + j - ks1.length = j by omega]
        exact hj))
      simp only [ne_eq, q4, not_false_eq_true, if_true, q3, Sem.run_bind, h1, h2, Result.andThen_ok, Sem.run_pure]
    · have hg : g = false := by
        unfold agg? at ha
        rw [hu] at ha
        rcases kindOf_not hkd with ⟨rfl, rfl⟩ | ⟨rfl, rfl⟩ | ⟨⟨kd, rfl⟩, rfl⟩ <;> simpa using ha.symm
      subst hg
      simp only [KeyVal, Bool.false_eq_true, if_false] at hk
      obtain ⟨k1, hk1, hc⟩ := hk
      cases hk1
      unfold Instr.checkKey
      simp only [Sem.run_bind, run_underlying hu, Result.andThen_ok]
      rcases kindOf_not hkd with ⟨rfl, rfl⟩ | ⟨rfl, rfl⟩ | ⟨⟨kd, rfl⟩, rfl⟩
      · obtain ⟨a, b, rfl, _⟩ := hc; rfl
      · obtain ⟨a, b, rfl, _⟩ := hc; rfl
      · obtain ⟨k', a, b, rfl, _⟩ := hc; rfl

/-- The key held against another one: it comes out, and says whether they are one. -/
structure Hits (P : Program) (kt : TypeId) (u x : Value) (b : Bool) : Prop where
  run : ∀ w : World, (Op.equal kt u x).run P w = .ok b w
  iff : b = true ↔ u = x
  now : ∀ d, P.underlying kt = some d → Instr.sameNow d u x = some b ∨ Instr.sameNow d u x = none

theorem hits {kt : TypeId} {g : Bool} {ks : List Nat} {x y : V} {u v : Value} {b : Bool} (hf : flat? P 9 kt = some ks) (ha : agg? P kt = some g) (hk : keyFit g ks x = true) (he : eqKey x y = some b) (h1 : RelV M x u) (h2 : RelV M y v) : Hits P kt u v b := by
  unfold keyFit at hk
  split at hk <;> try (cases hk; done)
  · rename_i c
    simp only [Bool.and_eq_true, Bool.not_eq_true'] at hk
    obtain ⟨rfl, hk⟩ := hk
    cases y <;> simp only [eqKey] at he <;> try (cases he; done)
    rename_i c'
    rw [relV_c] at h1 h2
    match ks, hk with
    | [k0], hk =>
      simp only [hasKinds, Bool.and_true] at hk
      obtain ⟨hc, hiff⟩ := eqCell_rel hk he h1 h2
      rcases flat_cases hf with ⟨_, _, _, hu, _⟩ | ⟨_, hu, _⟩ | ⟨desc, k1, hu, hkd, hk1⟩
      · unfold agg? at ha; rw [hu] at ha; simp at ha
      · unfold agg? at ha; rw [hu] at ha; simp at ha
      · cases hk1
        refine ⟨fun w => ?_, hiff, fun d hd => ?_⟩
        · obtain ⟨r, hr, hri⟩ := eq_cell (w := w) (d := 9999) hu hkd hc
          have : r = b := by rw [Bool.eq_iff_iff, hri, hiff]
          subst this
          exact hr
        · rw [hu] at hd
          cases hd
          left
          rcases kindOf_not hkd with ⟨rfl, rfl⟩ | ⟨rfl, rfl⟩ | ⟨⟨kd, rfl⟩, rfl⟩
          · obtain ⟨a, a', rfl, rfl⟩ := hc
            simp only [Instr.sameNow, Option.some.injEq]
            rw [Bool.eq_iff_iff, hiff]; simp
          · obtain ⟨a, a', rfl, rfl⟩ := hc
            simp only [Instr.sameNow, Option.some.injEq]
            rw [Bool.eq_iff_iff, hiff, MapKept.bytes_beq]; simp
          · obtain ⟨k', a, a', rfl, rfl⟩ := hc
            simp only [Instr.sameNow, if_true, Option.some.injEq]
            rw [Bool.eq_iff_iff, hiff]; simp
    | [], hk => simp [hasKinds] at hk
    | _ :: _ :: _, hk => simp [hasKinds] at hk
  · rename_i cs
    simp only [Bool.and_eq_true] at hk
    obtain ⟨rfl, hk⟩ := hk
    cases y <;> simp only [eqKey] at he <;> try (cases he; done)
    rename_i cs'
    rw [relV_agg] at h1 h2
    obtain ⟨xs, rfl, l1, c1⟩ := h1
    obtain ⟨ys, rfl, l2, c2⟩ := h2
    obtain ⟨n1, n2, hp, hiff⟩ := eqK_pair hk he c1 c2
    have hext : (∀ j, j < ks.length → xs.toList[j]? = ys.toList[j]?) ↔ (Value.agg xs = Value.agg ys) := by
      constructor
      · intro h
        have : xs = ys := by
          apply Array.ext'
          apply List.ext_getElem?
          intro j
          rcases Nat.lt_or_ge j ks.length with hj | hj
          · exact h j hj
          · rw [List.getElem?_eq_none (by simp; omega), List.getElem?_eq_none (by simp; omega)]
        rw [this]
      · intro h j _; rw [Value.agg.inj h]
    refine ⟨fun w => ?_, hiff.trans hext, fun d _ => .inr ?_⟩
    · obtain ⟨r, hr, hri⟩ := (flat_eq (w := w) 9 kt ks hf).1 ha 9991 xs ys (fun j k hj => by
        obtain ⟨a, b, h3, h4, h5⟩ := hp j k hj
        exact ⟨a, b, by simpa using h3, by simpa using h4, h5⟩) (by omega) (by omega)
      have : r = b := by
        rw [Bool.eq_iff_iff, hri, hiff]
        simp
      subst this
      exact hr
    · cases d <;> rfl

theorem findNow_gen {kt : TypeId} {d : TypeDesc} {u : Value} (hd : P.underlying kt = some d) : ∀ (l : List MapEntry) (i : Nat), (∀ x ∈ l, ∃ b, Hits P kt u x.key b) →
    Instr.findNow d u l i = none ∨ (Instr.findNow d u l i = some none ∧ ∀ x ∈ l, x.key ≠ u) ∨ ∃ j e, Instr.findNow d u l i = some (some (i + j, e.val)) ∧ l[j]? = some e ∧ e.key = u
  | [], _, _ => .inr (.inl ⟨rfl, by simp⟩)
  | e :: es, i, h => by
    obtain ⟨b, hb⟩ := h e (by simp)
    rcases hb.now d hd with hn | hn
    · cases b with
      | true => exact .inr (.inr ⟨0, e, by simp [Instr.findNow, hn], rfl, (hb.iff.1 rfl).symm⟩)
      | false =>
        have hne : e.key ≠ u := fun q => by have := hb.iff.2 q.symm; cases this
        rcases findNow_gen hd es (i + 1) (fun x hx => h x (by simp [hx])) with h1 | ⟨h1, h2⟩ | ⟨j, e', h1, h2, h3⟩
        · exact .inl (by simp [Instr.findNow, hn, h1])
        · exact .inr (.inl ⟨by simp [Instr.findNow, hn, h1], fun x hx => by
            rcases List.mem_cons.1 hx with rfl | hx
            · exact hne
            · exact h2 x hx⟩)
        · exact .inr (.inr ⟨j + 1, e', by simp [Instr.findNow, hn, h1]; omega, by simpa using h2, h3⟩)
    · exact .inl (by simp [Instr.findNow, hn])
theorem findAsking_gen {kt : TypeId} {u : Value} : ∀ (l : List MapEntry) (i : Nat), (∀ x ∈ l, ∃ b, Hits P kt u x.key b) →
    ((Instr.findAsking kt u l i).run P w = .ok none w ∧ ∀ x ∈ l, x.key ≠ u) ∨ ∃ j e, (Instr.findAsking kt u l i).run P w = .ok (some (i + j, e.val)) w ∧ l[j]? = some e ∧ e.key = u
  | [], _, _ => .inl ⟨rfl, by simp⟩
  | e :: es, i, h => by
    obtain ⟨b, hb⟩ := h e (by simp)
    cases b with
    | true => exact .inr ⟨0, e, by simp [Instr.findAsking, hb.run w], rfl, (hb.iff.1 rfl).symm⟩
    | false =>
      have hne : e.key ≠ u := fun q => by have := hb.iff.2 q.symm; cases this
      rcases findAsking_gen es (i + 1) (fun x hx => h x (by simp [hx])) with ⟨h1, h2⟩ | ⟨j, e', h1, h2, h3⟩
      · exact .inl ⟨by simp [Instr.findAsking, hb.run w, h1], fun x hx => by
          rcases List.mem_cons.1 hx with rfl | hx
          · exact hne
          · exact h2 x hx⟩
      · exact .inr ⟨j + 1, e', by simp [Instr.findAsking, hb.run w, h1]; omega, by simpa using h2, h3⟩
theorem findKey_gen {kt : TypeId} {d : TypeDesc} {u : Value} (hd : P.underlying kt = some d) (l : List MapEntry) (h : ∀ x ∈ l, ∃ b, Hits P kt u x.key b) :
    ((Instr.findKey kt u l).run P w = .ok none w ∧ ∀ x ∈ l, x.key ≠ u) ∨ ∃ j e, (Instr.findKey kt u l).run P w = .ok (some (j, e.val)) w ∧ l[j]? = some e ∧ e.key = u := by
  rcases findNow_gen hd l 0 h with h1 | ⟨h1, h2⟩ | ⟨j, e, h1, h2, h3⟩
  · rcases findAsking_gen (w := w) l 0 h with ⟨h2, h3⟩ | ⟨j, e, h2, h3, h4⟩
    · exact .inl ⟨by simp [Instr.findKey, run_underlying hd, h1, h2], h3⟩
    · exact .inr ⟨j, e, by simp [Instr.findKey, run_underlying hd, h1, h2], h3, h4⟩
  · exact .inl ⟨by simp [Instr.findKey, run_underlying hd, h1], h2⟩
  · exact .inr ⟨j, e, by simp [Instr.findKey, run_underlying hd, h1], h2, h3⟩

theorem cell_bits {k : Nat} {u : Value} (h : CellP k u u) (n : Nat) : Instr.sameBits n u u = true := by
  match k, h with
  | 0, h => obtain ⟨_, _, _, rfl, _⟩ := h; cases n <;> simp [Instr.sameBits]
  | 1, h => obtain ⟨_, _, rfl, _⟩ := h; cases n <;> simp [Instr.sameBits]
  | 2, h => obtain ⟨a, _, rfl, _⟩ := h; cases n <;> simp [Instr.sameBits, (MapKept.bytes_beq a a).2 rfl]
theorem run_keyThatStays_flat {g : Bool} {ks : List Nat} {u : Value} (h : KeyVal g ks u) : (Instr.keyThatStays u u).run P w = .ok u w := by
  have : Instr.sameBits 10000 u u = true := by
    cases g with
    | false =>
      simp only [KeyVal, Bool.false_eq_true, if_false] at h
      obtain ⟨k, _, h⟩ := h
      exact cell_bits h _
    | true =>
      simp only [KeyVal, if_true] at h
      obtain ⟨arr, rfl, hsz, hc⟩ := h
      simp only [Instr.sameBits, beq_self_eq_true, Bool.true_and, List.all_eq_true]
      intro ⟨p, q⟩ hpq
      obtain ⟨j, hj, he⟩ := List.getElem_of_mem hpq
      rw [List.getElem_zip] at he
      cases he
      simp only [List.length_zip, Array.length_toList, Nat.min_self] at hj
      obtain ⟨x, h1, h2⟩ := hc j (ks[j]'(by omega)) (by rw [List.getElem?_eq_getElem])
      rw [Array.getElem?_eq_getElem hj] at h1
      cases h1
      simpa using cell_bits h2 9999
  simp [Instr.keyThatStays, this]

/-! ### Entries -/
theorem RelM.get : ∀ {es : List (V × V)} {ys : List MapEntry}, RelM M es ys → ∀ {e : V × V}, e ∈ es → ∃ y ∈ ys, RelV M e.1 y.key ∧ RelV M e.2 y.val
  | [], _, _, _, h => by cases h
  | _ :: _, [], hr, _, _ => by simp only [RelM] at hr
  | a :: es, y :: ys, hr, e, h => by
    simp only [RelM] at hr
    rcases List.mem_cons.1 h with rfl | h
    · exact ⟨y, by simp, hr.1, hr.2.1⟩
    · obtain ⟨z, h1, h2⟩ := RelM.get hr.2.2.2.2 h
      exact ⟨z, by simp [h1], h2⟩
theorem RelM.get' : ∀ {es : List (V × V)} {ys : List MapEntry}, RelM M es ys → ∀ {y : MapEntry}, y ∈ ys → ∃ e ∈ es, RelV M e.1 y.key ∧ RelV M e.2 y.val
  | [], [], _, _, h => by cases h
  | [], _ :: _, hr, _, _ => by simp only [RelM] at hr
  | _ :: _, [], _, _, h => by cases h
  | a :: es, z :: ys, hr, y, h => by
    simp only [RelM] at hr
    rcases List.mem_cons.1 h with rfl | h
    · exact ⟨a, by simp, hr.1, hr.2.1⟩
    · obtain ⟨e, h1, h2⟩ := RelM.get' hr.2.2.2.2 h
      exact ⟨e, by simp [h1], h2⟩
theorem lookM_all {k : V} : ∀ {es : List (V × V)} {r : Option V}, lookM k es = some r → ∀ e ∈ es, ∃ b, eqKey k e.1 = some b
  | [], _, _, _, h => by cases h
  | (k', v) :: es, r, h, e, he => by
    simp only [lookM] at h
    split at h <;> try (cases h; done)
    · rename_i r' h1 h2
      rcases List.mem_cons.1 he with rfl | he
      · exact ⟨_, h1⟩
      · exact lookM_all h2 e he
    · rename_i r' h1 h2
      rcases List.mem_cons.1 he with rfl | he
      · exact ⟨_, h1⟩
      · exact lookM_all h2 e he
theorem lookM_none {k : V} : ∀ {es : List (V × V)}, lookM k es = some none → ∀ e ∈ es, eqKey k e.1 = some false
  | [], _, _, h => by cases h
  | (k', v) :: es, h, e, he => by
    simp only [lookM] at h
    split at h <;> try (cases h; done)
    rename_i r' h1 h2
    simp only [Option.some.injEq] at h
    subst h
    rcases List.mem_cons.1 he with rfl | he
    · exact h1
    · exact lookM_none h2 e he
theorem lookM_some {k v : V} : ∀ {es : List (V × V)}, lookM k es = some (some v) → ∃ a b k0, es = a ++ (k0, v) :: b ∧ eqKey k k0 = some true ∧ ∀ e ∈ a, eqKey k e.1 = some false
  | [], h => by simp [lookM] at h
  | (k', v') :: es, h => by
    simp only [lookM] at h
    split at h <;> try (cases h; done)
    · rename_i r' h1 h2
      simp only [Option.some.injEq] at h
      subst h
      exact ⟨[], es, k', rfl, h1, by simp⟩
    · rename_i r' h1 h2
      simp only [Option.some.injEq] at h
      subst h
      obtain ⟨a, b, k0, rfl, h3, h4⟩ := lookM_some h2
      refine ⟨(k', v') :: a, b, k0, rfl, h3, fun e he => ?_⟩
      rcases List.mem_cons.1 he with rfl | he
      · exact h1
      · exact h4 e he
theorem insM_split (k v : V) : ∀ es : List (V × V), ∃ a b, es = a ++ b ∧ insM k v es = a ++ (k, v) :: b
  | [] => ⟨[], [], rfl, rfl⟩
  | e :: es => by
    unfold insM
    split
    · exact ⟨[], e :: es, rfl, rfl⟩
    · obtain ⟨a, b, h1, h2⟩ := insM_split k v es
      exact ⟨e :: a, b, by rw [h1]; rfl, by rw [h2]; rfl⟩
theorem repM_split {k v : V} : ∀ {a b : List (V × V)} {k0 v0 : V}, eqKey k k0 = some true → (∀ e ∈ a, eqKey k e.1 = some false) → repM k v (a ++ (k0, v0) :: b) = a ++ (k, v) :: b
  | [], b, k0, v0, h, _ => by simp [repM, h]
  | e :: a, b, k0, v0, h, ha => by
    have h1 := ha e (by simp)
    simp only [List.cons_append, repM, h1]
    rw [if_neg (by simp), repM_split h (fun x hx => ha x (by simp [hx]))]
theorem remM_split {k : V} : ∀ {a b : List (V × V)} {k0 v0 : V}, eqKey k k0 = some true → (∀ e ∈ a, eqKey k e.1 = some false) → remM k (a ++ (k0, v0) :: b) = a ++ b
  | [], b, k0, v0, h, _ => by simp [remM, h]
  | e :: a, b, k0, v0, h, ha => by
    have h1 := ha e (by simp)
    simp only [List.cons_append, remM, h1]
    rw [if_neg (by simp), remM_split h (fun x hx => ha x (by simp [hx]))]
theorem RelM.split : ∀ {a b : List (V × V)} {ys : List MapEntry}, RelM M (a ++ b) ys → ∃ ya yb, ys = ya ++ yb ∧ RelM M a ya ∧ RelM M b yb
  | [], b, ys, h => ⟨[], ys, rfl, by simp only [RelM], h⟩
  | _ :: _, _, [], h => by simp only [List.cons_append, RelM] at h
  | e :: a, b, y :: ys, h => by
    simp only [List.cons_append, RelM] at h
    obtain ⟨ya, yb, rfl, h1, h2⟩ := RelM.split h.2.2.2.2
    exact ⟨y :: ya, yb, rfl, by simp only [RelM]; exact ⟨h.1, h.2.1, h.2.2.1, h.2.2.2.1, h1⟩, h2⟩
theorem RelM.join : ∀ {a b : List (V × V)} {ya yb : List MapEntry}, RelM M a ya → RelM M b yb → RelM M (a ++ b) (ya ++ yb)
  | [], b, [], yb, _, h => h
  | [], _, _ :: _, _, h, _ => by simp only [RelM] at h
  | _ :: _, _, [], _, h, _ => by simp only [RelM] at h
  | e :: a, b, y :: ya, yb, h, k => by
    simp only [List.cons_append, RelM] at h ⊢
    exact ⟨h.1, h.2.1, h.2.2.1, h.2.2.2.1, RelM.join h.2.2.2.2 k⟩

/-- Every entry of the machine's, held against the key. -/
theorem all_hits {kt : TypeId} {g : Bool} {ks : List Nat} {x : V} {u : Value} {es : List (V × V)} {ys xs : List MapEntry} {r : Option V} (hf : flat? P 9 kt = some ks) (ha : agg? P kt = some g) (hk : keyFit g ks x = true) (hu : RelV M x u) (hr : RelM M es ys) (hp : ys.Perm xs) (hl : lookM x es = some r) :
    ∀ y ∈ xs, ∃ b, Hits P kt u y.key b := by
  intro y hy
  obtain ⟨e, h1, h2, _⟩ := hr.get' (hp.mem_iff.2 hy)
  obtain ⟨b, hb⟩ := lookM_all hl e h1
  exact ⟨b, hits hf ha hk hb hu h2⟩

theorem key_unique : ∀ {xs : List MapEntry}, (xs.map (·.key)).Nodup → ∀ {a b : MapEntry}, a ∈ xs → b ∈ xs → a.key = b.key → a = b
  | [], _, _, _, h1, _, _ => by cases h1
  | x :: xs, hn, a, b, h1, h2, h => by
    simp only [List.map_cons, List.nodup_cons] at hn
    rcases List.mem_cons.1 h1 with q1 | q1
    · rcases List.mem_cons.1 h2 with q2 | q2
      · rw [q1, q2]
      · exact absurd (List.mem_map.2 ⟨b, q2, by rw [← h, q1]⟩) hn.1
    · rcases List.mem_cons.1 h2 with q2 | q2
      · exact absurd (List.mem_map.2 ⟨a, q1, by rw [h, q2]⟩) hn.1
      · exact key_unique hn.2 q1 q2 h

/-- The entry of a key. -/
theorem find_rel {kt : TypeId} {d : TypeDesc} {g : Bool} {ks : List Nat} {x : V} {u : Value} {es : List (V × V)} {ys : List MapEntry} {xs : Array MapEntry} {clock : Nat} {r : Option V} (hd : P.underlying kt = some d) (hf : flat? P 9 kt = some ks) (ha : agg? P kt = some g) (hk : keyFit g ks x = true) (hu : RelV M x u) (hr : RelM M es ys) (hp : ys.Perm xs.toList) (hst : MapKept.Stamped xs clock) (hl : lookM x es = some r) :
    (r = none ∧ (Instr.findKey kt u xs.toList).run P w = .ok none w ∧ ∀ y ∈ xs.toList, y.key ≠ u) ∨ ∃ v j e, r = some v ∧ (Instr.findKey kt u xs.toList).run P w = .ok (some (j, e.val)) w ∧ xs.toList[j]? = some e ∧ e.key = u ∧ RelV M v e.val ∧
      ∃ a b k0 ya yb, es = a ++ (k0, v) :: b ∧ eqKey x k0 = some true ∧ (∀ e' ∈ a, eqKey x e'.1 = some false) ∧ ys = ya ++ e :: yb ∧ RelM M a ya ∧ RelM M b yb := by
  have hall := all_hits hf ha hk hu hr hp hl
  rcases findKey_gen (w := w) hd xs.toList hall with ⟨h1, h2⟩ | ⟨j, e, h1, h2, h3⟩
  · left
    refine ⟨?_, h1, h2⟩
    cases r with
    | none => rfl
    | some v =>
      exfalso
      obtain ⟨a, b, k0, rfl, h4, _⟩ := lookM_some hl
      obtain ⟨y, h5, h6, _⟩ := hr.get (e := (k0, v)) (by simp)
      exact h2 y (hp.mem_iff.1 h5) (((hits hf ha hk h4 hu h6).iff.1 rfl).symm)
  · right
    have hem : e ∈ xs.toList := List.mem_of_getElem? h2
    cases r with
    | none =>
      exfalso
      obtain ⟨e', h4, h5, _⟩ := hr.get' (hp.mem_iff.2 hem)
      have := (hits hf ha hk (lookM_none hl e' h4) hu h5).iff.2 h3.symm
      cases this
    | some v =>
      obtain ⟨a, b, k0, rfl, h4, h5⟩ := lookM_some hl
      obtain ⟨ya, yb', rfl, q1, q2⟩ := hr.split
      match yb', q2 with
      | y :: yb, q2 =>
        simp only [RelM] at q2
        have hy : y = e := key_unique hst.2.2 (hp.mem_iff.1 (by simp)) hem (((hits hf ha hk h4 hu q2.1).iff.1 rfl).symm.trans h3.symm)
        subst hy
        exact ⟨v, j, y, rfl, h1, h2, h3, q2.2.1, a, b, k0, ya, yb, rfl, h4, h5, rfl, q1, q2.2.2.2.2⟩

theorem perm_mid {α : Type} {a b c d : List α} {x : α} (h : (a ++ x :: b).Perm (c ++ x :: d)) (y : α) : (a ++ y :: b).Perm (c ++ y :: d) := by
  have h1 : (a ++ b).Perm (c ++ d) := by
    have := (List.perm_middle.symm.trans h).trans List.perm_middle
    exact List.Perm.cons_inv this
  exact (List.perm_middle.trans (h1.cons y)).trans List.perm_middle.symm
theorem at_split {α : Type} : ∀ {l : List α} {j : Nat} {x : α}, l[j]? = some x → l = l.take j ++ x :: l.drop (j + 1)
  | l, j, x, h => by
    have hj := (List.getElem?_eq_some_iff.1 h).1
    rw [List.getElem?_eq_getElem hj] at h
    cases h
    rw [List.getElem_cons_drop, List.take_append_drop]
theorem modify_split {α : Type} (f : α → α) : ∀ {l : List α} {j : Nat} {x : α}, l[j]? = some x → l.modify j f = l.take j ++ f x :: l.drop (j + 1)
  | [], _, _, h => by simp at h
  | a :: l, 0, x, h => by simp at h; subst h; simp
  | a :: l, j + 1, x, h => by
    have := modify_split f (l := l) (j := j) (x := x) (by simpa using h)
    simp [this]
theorem erase_split {α : Type} : ∀ {l : List α} {j : Nat} {x : α}, l[j]? = some x → l.eraseIdx j = l.take j ++ l.drop (j + 1)
  | l, j, _x, _ => List.eraseIdx_eq_take_drop_succ l j

/-- A map's object: where it lies. -/
theorem live_map (hs : Sat P M H 0 w) {id : Nat} {es : List (V × V)} {fz : Bool} (ho : ob? H id = some (.map es fz)) {v : Value} (hr : RelV M (.c (.mp id)) v) :
    ∃ B b c xs clock ys, v = .map (some B) ∧ M.loc id = some (some (B, b, c)) ∧ M.gen id = 0 ∧ w.heap[B]? = some (.map xs clock) ∧ ((fz = false ∧ M.imm B = none) ∨ (fz = true ∧ M.imm B = some (.map xs clock))) ∧ MapKept.Stamped xs clock ∧ ys.Perm xs.toList ∧ RelM M es ys := by
  rw [relV_c] at hr
  simp only [RelC] at hr
  obtain ⟨hlt, B, rfl, h4⟩ := hr
  have hg : M.gen id = 0 := by
    cases hl : M.loc id with
    | none => exact (hs.idle id _ ho hl).resolve_left (by intro h; cases h)
    | some l =>
      obtain ⟨o', ho', hos⟩ := hs.obj id l hl
      rw [ho] at ho'
      cases ho'
      cases l with
      | none => simp [ObSat] at hos
      | some l => obtain ⟨B', b, c⟩ := l; simp only [ObSat] at hos; exact hos.1
  obtain ⟨b, c, hl⟩ := h4 hg
  obtain ⟨o', ho', hos⟩ := hs.obj id _ hl
  rw [ho] at ho'
  cases ho'
  simp only [ObSat] at hos
  obtain ⟨_, xs, cl, ys, e1, _, e3, e4, e5, e6⟩ := hos
  exact ⟨B, b, c, xs, cl, ys, rfl, hl, hg, e1, e3, e4, e5, e6⟩

/-- An object of one block turns. -/
theorem ob_turn (hs : Sat P M H 0 w) {id B b c : Nat} {ob ob' : Ob} {x x' : Obj} (hl : M.loc id = some (some (B, b, c))) (hi : M.imm B = none) (ho : ob? H id = some ob) (hB : w.heap[B]? = some x) (hx : ∀ a t f, x ≠ .cells a t f) (hx2 : x ≠ .deferred (some []))
    (hq : ∀ w' : World, w'.heap[B]? = some x' → ObSat P M w' 0 id ob' (some (B, b, c))) :
    Sat P M (setOb H id ob') 0 { w with heap := w.heap.setIfInBounds B x' } ∧ Fr M M w { w with heap := w.heap.setIfInBounds B x' } := by
  obtain ⟨hsame, hkeep⟩ := MapKept.heap_set (o' := x') hB
  refine ⟨⟨by rw [setOb_length]; exact hs.n, hs.out, ?_, ?_, ?_, hs.inj, fun B' t hb => by
      obtain ⟨a, f, hh⟩ := hs.ty B' t hb
      exact ⟨a, f, by rw [hkeep B' (fun e => by subst e; rw [hB] at hh; cases hh; exact hx _ _ _ rfl)]; exact hh⟩, hs.bty⟩, ⟨Ext.refl M, rfl, rfl, rfl, by simp, fun B' _ hno => hkeep B' (fun e => hno ⟨id, b, c, by rw [e]; exact hl⟩), fun B h => .inl h, fun B o ho => .inl ho⟩⟩
  · intro B' o' hB'
    rw [hkeep B' (fun e => by subst e; rw [hi] at hB'; cases hB')]
    exact hs.imm B' o' hB'
  · intro j l hj
    by_cases e : j = id
    · subst e
      rw [hl, Option.some.injEq] at hj
      subst hj
      exact ⟨_, ob?_setOb_same ho, hq _ hsame⟩
    · obtain ⟨o', ho', hos⟩ := hs.obj j l hj
      refine ⟨o', by rw [ob?_setOb_ne e]; exact ho', hos.keep (Ext.refl M) rfl (fun B' b' c' hlb => ?_) (fun B' hB' => by rw [hkeep B' (fun e => by subst e; rw [hB] at hB'; cases hB'; exact hx2 rfl)]; exact hB')⟩
      subst hlb
      exact ⟨hkeep B' (fun e' => e (hs.inj j id B b' c' b c (by rw [← e']; exact hj) hl)), fun x => x⟩
  · intro j q' hq' hlj
    by_cases e : j = id
    · subst e; rw [hl] at hlj; cases hlj
    · rw [ob?_setOb_ne e] at hq'
      exact hs.idle j q' hq' hlj

theorem map_turn (hs : Sat P M H 0 w) {id B b c clock : Nat} {es es' : List (V × V)} {xs xs' : Array MapEntry} {ys' : List MapEntry} {clock' : Nat} (hl : M.loc id = some (some (B, b, c))) (hi : M.imm B = none) (hg : M.gen id = 0) (ho : ob? H id = some (.map es false)) (hB : w.heap[B]? = some (.map xs clock))
    (h1 : MapKept.Stamped xs' clock') (h2 : ys'.Perm xs'.toList) (h3 : RelM M es' ys') :
    Sat P M (setOb H id (.map es' false)) 0 { w with heap := w.heap.setIfInBounds B (.map xs' clock') } ∧ Fr M M w { w with heap := w.heap.setIfInBounds B (.map xs' clock') } :=
  ob_turn hs hl hi ho hB (fun _ _ _ h => by cases h) (fun h => by cases h) fun w' hw => by
    simp only [ObSat]
    exact ⟨hg, xs', clock', ys', hw, Nat.zero_le _, .inl ⟨rfl, hi⟩, h1, h2, h3⟩

theorem e_mpu0 {g : Bool} {ks : List Nat} {m a b : A} {v : V} {t : TypeId} {x y z : Operand} (hs : Sat P M H 0 w) (hA : ∀ x a, okA k x a = true → RelV M (lk a) (ρ x)) (hex : execOp ρ o = (do Instr.mapUpdate t (ρ x) (ρ y) (ρ z); pure .skip))
    (hok : ((match P.underlying t with | some (.map kt _) => (flat? P 9 kt == some ks) && (agg? P kt == some g) | _ => false) && okA k x m && okA k y a && okA k z b) = true) (h : stepE E lk H (.mpu g ks m a b) = some (v, H')) : Eff P M H' w (execOp ρ o) v := by
  simp only [Bool.and_eq_true] at hok
  obtain ⟨⟨⟨h1, h2⟩, h3⟩, h4⟩ := hok
  split at h1 <;> try (cases h1; done)
  rename_i kt et hu
  simp only [Bool.and_eq_true, beq_iff_eq] at h1
  obtain ⟨hf, ha⟩ := h1
  obtain ⟨d, hd⟩ : ∃ d, P.underlying kt = some d := by
    rcases flat_cases hf with ⟨_, _, _, hu, _⟩ | ⟨_, hu, _⟩ | ⟨_, _, hu, _⟩ <;> exact ⟨_, hu⟩
  have r1 := hA _ _ h2
  have r2 := hA _ _ h3
  have r3 := hA _ _ h4
  simp only [stepE] at h
  split at h <;> try (cases h; done)
  rename_i id hx
  split at h <;> try (cases h; done)
  rename_i es ho
  split at h <;> try (cases h; done)
  rename_i hc
  simp only [Bool.and_eq_true] at hc
  obtain ⟨hk, hcs⟩ := hc
  simp only [Option.map_eq_some_iff, Prod.mk.injEq] at h
  obtain ⟨es', hset, rfl, rfl⟩ := h
  rw [hx] at r1
  obtain ⟨B, b0, c0, xs, clock, ys, hv, hl, hg, hB, hi, hst, hp, hr⟩ := live_map hs ho r1
  have hi : M.imm B = none := by rcases hi with ⟨_, h⟩ | ⟨h, _⟩ <;> first | exact h | cases h
  have hkv := key_rel hk r2
  have hck : (Instr.checkKey false 10000 kt (ρ y)).run P w = .ok () w := run_checkKey_flat 9 kt ks hf false 9991 g _ ha hkv
  unfold setM at hset
  split at hset <;> try (cases hset; done)
  · rename_i hlk
    simp only [Option.some.injEq] at hset
    subst hset
    rcases find_rel (w := w) hd hf ha hk r2 hr hp hst hlk with ⟨_, q1, q2⟩ | ⟨_, _, _, e, _⟩
    · obtain ⟨l1, l2, rfl, hins⟩ := insM_split (lk a) (lk b) es
      obtain ⟨y1, y2, rfl, z1, z2⟩ := hr.split
      obtain ⟨s1, s2⟩ := map_turn (es' := insM (lk a) (lk b) (l1 ++ l2)) (xs' := xs.push { key := ρ y, val := ρ z, born := clock }) (clock' := clock + 1) (ys' := y1 ++ { key := ρ y, val := ρ z, born := clock } :: y2) hs hl hi hg ho hB (MapKept.stamped_push hst q2)
        (by
          rw [Array.toList_push]
          exact List.perm_middle.trans (((hp.cons _)).trans (List.perm_append_singleton _ _).symm))
        (by rw [hins]; exact z1.join (by simp only [RelM]; exact ⟨r2, r3, ⟨g, ks, hk⟩, hcs, z2⟩))
      refine ⟨.skip, _, M, ?_, .inr ⟨rfl, rfl⟩, s1, s2⟩
      simp [hex, hv, Instr.mapUpdate, run_underlying hu, MapKept.run_getObj_map hB, hck, q1, MapKept.run_setObj_map _ hB, Result.andThen]
    · cases e
  · rename_i v0 hlk
    simp only [Option.some.injEq] at hset
    subst hset
    rcases find_rel (w := w) hd hf ha hk r2 hr hp hst hlk with ⟨e, _⟩ | ⟨v1, j, e, _, q1, q2, q3, _, l1, l2, k0, y1, y2, rfl, q4, q5, rfl, z1, z2⟩
    · cases e
    · have hj : xs[j]? = some e := by simpa using q2
      obtain ⟨s1, s2⟩ := map_turn (es' := repM (lk a) (lk b) (l1 ++ (k0, v1) :: l2)) (xs' := xs.modify j fun e => { e with key := ρ y, val := ρ z }) (clock' := clock) (ys' := y1 ++ { e with key := ρ y, val := ρ z } :: y2) hs hl hi hg ho hB
        (MapKept.stamped_modify hst j _ (fun _ _ => rfl) (fun e' _ he' => by rw [hj] at he'; cases he'; exact q3.symm))
        (by
          rw [Array.toList_modify, modify_split _ q2]
          refine perm_mid (x := e) ?_ _
          have := at_split q2
          rw [← this]
          exact hp)
        (by rw [repM_split q4 q5]; exact z1.join (by simp only [RelM]; exact ⟨r2, r3, ⟨g, ks, hk⟩, hcs, z2⟩))
      refine ⟨.skip, _, M, ?_, .inr ⟨rfl, rfl⟩, s1, s2⟩
      simp [hex, hv, Instr.mapUpdate, run_underlying hu, MapKept.run_getObj_map hB, hck, q1, hj, q3, run_keyThatStays_flat hkv, MapKept.run_setObj_map _ hB, Result.andThen]

theorem e_mpu {g : Bool} {ks : List Nat} {m a b : A} {v : V} (hs : Sat P M H 0 w) (hA : ∀ x a, okA k x a = true → RelV M (lk a) (ρ x)) (hok : okOp P k o (.mpu g ks m a b) = true) (h : stepE E lk H (.mpu g ks m a b) = some (v, H')) : Eff P M H' w (execOp ρ o) v := by
  cases hop : o.op <;> simp only [okOp, hop] at hok <;> try (cases hok; done)
  all_goals exact e_mpu0 hs hA (by simp only [execOp, hop]) hok h

theorem e_lkp {ok : Bool} {zero : V} {g : Bool} {ks : List Nat} {m a : A} {v : V} (hs : Sat P M H 0 w) (hA : ∀ x a, okA k x a = true → RelV M (lk a) (ρ x)) (hok : okOp P k o (.lkp ok zero g ks m a) = true) (h : stepE E lk H (.lkp ok zero g ks m a) = some (v, H')) : Eff P M H' w (execOp ρ o) v := by
  cases hop : o.op <;> simp only [okOp, hop] at hok <;> try (cases hok; done)
  rename_i t x y ok'
  simp only [Bool.and_eq_true, beq_iff_eq] at hok
  obtain ⟨⟨⟨h1, rfl⟩, h2⟩, h3⟩ := hok
  split at h1 <;> try (cases h1; done)
  rename_i kt et hu
  simp only [Bool.and_eq_true, beq_iff_eq] at h1
  obtain ⟨⟨hf, ha⟩, h4⟩ := h1
  obtain ⟨d, hd⟩ : ∃ d, P.underlying kt = some d := by
    rcases flat_cases hf with ⟨_, _, _, hu, _⟩ | ⟨_, hu, _⟩ | ⟨_, _, hu, _⟩ <;> exact ⟨_, hu⟩
  split at h4 <;> try (cases h4; done)
  rename_i zv hz
  have hzr := okV_rel (M := M) h4
  have hzero : (zeroValue et).run P w = .ok zv w := run_zero hz
  have r1 := hA _ _ h2
  have r2 := hA _ _ h3
  have out : ∀ (r : Option V) (u : Value) (f : Bool), RelV M (r.getD zero) u → r.isSome = f → (Instr.lookup t (ρ x) (ρ y) ok').run P w = .ok (if ok' then .tuple #[u, .bool f] else u) w → Eff P M H w (execOp ρ o) (if ok' = true then .tup [r.getD zero, .c (.d (.bool r.isSome))] else r.getD zero) := by
    intro r u f hu' hf hrun
    refine ⟨.value (if ok' then .tuple #[u, .bool f] else u), w, M, ?_, .inl ⟨_, rfl, ?_⟩, hs, Fr.refl M w⟩
    · simp [execOp, hop, hrun, Result.andThen]
    · cases ok'
      · exact hu'
      · simp only [if_true]
        rw [relV_tup]
        refine ⟨_, rfl, rfl, ?_⟩
        simp only [RelVs, and_true]
        exact ⟨hu', by rw [relV_bool, hf]⟩
  simp only [stepE] at h
  split at h <;> try (cases h; done)
  · rename_i id hx
    split at h <;> try (cases h; done)
    rename_i es fz ho
    split at h <;> try (cases h; done)
    rename_i hk
    simp only [Option.map_eq_some_iff, Prod.mk.injEq] at h
    obtain ⟨r, hlook, rfl, rfl⟩ := h
    rw [hx] at r1
    obtain ⟨B, b0, c0, xs, clock, ys, hv, hl, hg, hB, hi, hst, hp, hr⟩ := live_map hs ho r1
    have hck : ∀ e, (Instr.checkKey e 10000 kt (ρ y)).run P w = .ok () w := fun e => run_checkKey_flat 9 kt ks hf e 9991 g _ ha (key_rel hk r2)
    rcases find_rel (w := w) hd hf ha hk r2 hr hp hst hlook with ⟨rfl, q1, _⟩ | ⟨v1, j, e, rfl, q1, _, _, q4, _⟩
    · refine out none zv false hzr rfl ?_
      simp [Instr.lookup, hv, run_underlying hu, MapKept.run_getObj_map hB, hck, q1, hzero, Result.andThen]
    · refine out (some v1) e.val true q4 rfl ?_
      simp [Instr.lookup, hv, run_underlying hu, MapKept.run_getObj_map hB, hck, q1, Result.andThen]
  · rename_i hx
    split at h <;> try (cases h; done)
    rename_i hk
    simp only [Option.some.injEq, Prod.mk.injEq] at h
    obtain ⟨rfl, rfl⟩ := h
    rw [hx, relV_d] at r1
    simp only [RelD] at r1
    have hck : ∀ e, (Instr.checkKey e 10000 kt (ρ y)).run P w = .ok () w := fun e => run_checkKey_flat 9 kt ks hf e 9991 g _ ha (key_rel hk r2)
    refine out none zv false hzr rfl ?_
    have hnil : (Instr.findKey kt (ρ y) []).run P w = .ok none w := by simp [Instr.findKey, run_underlying hd, Instr.findNow]
    simp [Instr.lookup, r1, run_underlying hu, hck, hnil, hzero, Result.andThen]

theorem e_mdl {g : Bool} {ks : List Nat} {m a : A} {v : V} (hs : Sat P M H 0 w) (hA : ∀ x a, okA k x a = true → RelV M (lk a) (ρ x)) (hok : okOp P k o (.mdl g ks m a) = true) (h : stepE E lk H (.mdl g ks m a) = some (v, H')) : Eff P M H' w (execOp ρ o) v := by
  cases hop : o.op <;> simp only [okOp, hop] at hok <;> try (cases hok; done)
  rename_i c
  simp only [Bool.and_eq_true] at hok
  obtain ⟨h1, h2⟩ := hok
  obtain ⟨x, y, hargs, r1, r2⟩ := call2 hA h2
  split at h1 <;> try (cases h1; done)
  rename_i t hcal ht
  split at h1 <;> try (cases h1; done)
  rename_i kt et hu
  simp only [Bool.and_eq_true, beq_iff_eq] at h1
  obtain ⟨hf, ha⟩ := h1
  obtain ⟨d, hd⟩ : ∃ d, P.underlying kt = some d := by
    rcases flat_cases hf with ⟨_, _, _, hu, _⟩ | ⟨_, hu, _⟩ | ⟨_, _, hu, _⟩ <;> exact ⟨_, hu⟩
  simp only [stepE] at h
  split at h <;> try (cases h; done)
  rename_i id hx
  split at h <;> try (cases h; done)
  rename_i es ho
  split at h <;> try (cases h; done)
  rename_i hk
  simp only [Option.map_eq_some_iff, Prod.mk.injEq] at h
  obtain ⟨es', hdel, rfl, rfl⟩ := h
  rw [hx] at r1
  obtain ⟨B, b0, c0, xs, clock, ys, rfl, hl, hg, hB, hi, hst, hp, hr⟩ := live_map hs ho r1
  have hi : M.imm B = none := by rcases hi with ⟨_, h⟩ | ⟨h, _⟩ <;> first | exact h | cases h
  have hck : ∀ e, (Instr.checkKey e 10000 kt y).run P w = .ok () w := fun e => run_checkKey_flat 9 kt ks hf e 9991 g _ ha (key_rel hk r2)
  have hset : ∀ xs' : Array MapEntry, ∃ w', (setObj B (.map xs' clock)).run P w = .ok () w' ∧ w' = { w with heap := w.heap.setIfInBounds B (.map xs' clock) } := fun xs' => ⟨_, MapKept.run_setObj_map _ hB, rfl⟩
  unfold delM at hdel
  split at hdel <;> try (cases hdel; done)
  · rename_i hlk
    simp only [Option.some.injEq] at hdel
    subst hdel
    rcases find_rel (w := w) hd hf ha hk r2 hr hp hst hlk with ⟨_, q1, q2⟩ | ⟨_, _, _, e, _⟩
    · obtain ⟨s1, s2⟩ := map_turn hs hl hi hg ho hB hst hp hr
      refine ⟨.value (.tuple #[]), _, M, ?_, .inl ⟨_, rfl, by rw [relV_tup]; exact ⟨_, rfl, rfl, RelVs.nil _ _⟩⟩, s1, s2⟩
      refine exec_builtin hop hcal (fun cs => rfl) ?_
      rw [hargs]
      simp [Builtin.delete_, ht, run_underlying hu, MapKept.run_getObj_map hB, hck, q1, MapKept.run_setObj_map _ hB, Result.andThen]
    · cases e
  · rename_i v0 hlk
    simp only [Option.some.injEq] at hdel
    subst hdel
    rcases find_rel (w := w) hd hf ha hk r2 hr hp hst hlk with ⟨e, _⟩ | ⟨v1, j, e, _, q1, q2, q3, _, l1, l2, k0, y1, y2, rfl, q4, q5, rfl, z1, z2⟩
    · cases e
    · have hlt : j < xs.size := by simpa using (List.getElem?_eq_some_iff.1 q2).1
      obtain ⟨s1, s2⟩ := map_turn (es' := remM (lk a) (l1 ++ (k0, v1) :: l2)) (xs' := xs.eraseIdxIfInBounds j) (clock' := clock) (ys' := y1 ++ y2) hs hl hi hg ho hB
        (MapKept.stamped_erase hst j)
        (by
          have e1 : (xs.eraseIdxIfInBounds j).toList = xs.toList.take j ++ xs.toList.drop (j + 1) := by
            unfold Array.eraseIdxIfInBounds
            rw [dif_pos hlt, Array.toList_eraseIdx]
            exact erase_split q2
          rw [e1]
          have h5 := at_split q2
          rw [h5] at hp
          exact List.Perm.cons_inv ((List.perm_middle.symm.trans hp).trans List.perm_middle))
        (by rw [remM_split q4 q5]; exact z1.join z2)
      refine ⟨.value (.tuple #[]), _, M, ?_, .inl ⟨_, rfl, by rw [relV_tup]; exact ⟨_, rfl, rfl, RelVs.nil _ _⟩⟩, s1, s2⟩
      refine exec_builtin hop hcal (fun cs => rfl) ?_
      rw [hargs]
      simp [Builtin.delete_, ht, run_underlying hu, MapKept.run_getObj_map hB, hck, q1, MapKept.run_setObj_map _ hB, Result.andThen]

theorem RelM.len {M : MM} : ∀ {es : List (V × V)} {xs : List MapEntry}, RelM M es xs → es.length = xs.length
  | [], [], _ => rfl
  | [], _ :: _, hr => by simp only [RelM] at hr
  | _ :: _, [], hr => by simp only [RelM] at hr
  | _ :: _, _ :: _, hr => by
    simp only [RelM] at hr
    rw [List.length_cons, List.length_cons, RelM.len hr.2.2.2.2]

theorem e_lnm {a : A} {v : V} (hs : Sat P M H 0 w) (hA : ∀ x a, okA k x a = true → RelV M (lk a) (ρ x)) (hok : okOp P k o (.lnm a) = true) (h : stepE E lk H (.lnm a) = some (v, H')) : Eff P M H' w (execOp ρ o) v := by
  cases hop : o.op <;> simp only [okOp, hop] at hok <;> try (cases hok; done)
  rename_i c
  simp only [Bool.and_eq_true] at hok
  obtain ⟨h1, h2⟩ := hok
  obtain ⟨x, hargs, r1⟩ := call1 hA h2
  split at h1 <;> try (cases h1; done)
  rename_i t hc ht
  split at h1 <;> try (cases h1; done)
  rename_i kt et hu
  simp only [stepE] at h
  split at h <;> try (cases h; done)
  · rename_i id hx
    split at h <;> try (cases h; done)
    rename_i es fz ho
    simp only [Option.some.injEq, Prod.mk.injEq] at h
    obtain ⟨rfl, rfl⟩ := h
    rw [hx] at r1
    obtain ⟨B, b0, c0, xs, clock, ys, rfl, hl, hg, hB, hi, hst, hp, hr⟩ := live_map hs ho r1
    have hlen := RelM.len hr
    have hlen2 := hp.length_eq
    refine ⟨.value (.int .i64 es.length), w, M, ?_, .inl ⟨_, rfl, relV_int.2 rfl⟩, hs, Fr.refl M w⟩
    refine exec_builtin hop hc (fun cs => rfl) ?_
    rw [hargs]
    have hsz : xs.size = es.length := by rw [hlen, hlen2, Array.length_toList]
    simp [Builtin.len_, ht, run_underlying hu, MapKept.run_getObj_map hB, goInt, hsz]
  · rename_i hx
    simp only [Option.some.injEq, Prod.mk.injEq] at h
    obtain ⟨rfl, rfl⟩ := h
    rw [hx, relV_d] at r1
    simp only [RelD] at r1
    subst r1
    refine ⟨.value (.int .i64 0), w, M, ?_, .inl ⟨_, rfl, relV_int.2 rfl⟩, hs, Fr.refl M w⟩
    refine exec_builtin hop hc (fun cs => rfl) ?_
    rw [hargs]
    simp [Builtin.len_, ht, run_underlying hu, goInt]

/-! ### New objects of one block -/
def MM.lay2 (M : MM) (id B : Nat) : MM := { M with loc := fun j => if j = id then some (some (B, 0, 0)) else M.loc j, n := id + 1 }
theorem lay2_sat (hs : Sat P M H 0 w) {x : Obj} {ob : Ob} (hq : ∀ w' : World, w'.heap[w.heap.size]? = some x → ObSat P (M.lay2 H.length w.heap.size) w' 0 H.length ob (some (w.heap.size, 0, 0))) :
    Sat P (M.lay2 H.length w.heap.size) (H ++ [ob]) 0 (w.alloc x) ∧ Fr M (M.lay2 H.length w.heap.size) w (w.alloc x) := by
  have hn := hs.n
  have hout := hs.out H.length (by omega)
  have hext : Ext M (M.lay2 H.length w.heap.size) := ⟨fun _ _ h => h, by simp only [MM.lay2]; omega, fun _ _ => Nat.le_refl _, fun id l hid _ hl => by simp only [MM.lay2]; rw [if_neg (by omega)]; exact hl, fun _ _ h => h⟩
  obtain ⟨hat, hkeep⟩ := MapKept.heap_alloc w x
  have hob : ∀ id, id < H.length → ob? (H ++ [ob]) id = ob? H id := fun id hid => by rw [ob?_eq, ob?_eq, List.getElem?_append_left hid]
  refine ⟨⟨by simp only [MM.lay2, List.length_append, List.length_cons, List.length_nil], ?_, ?_, ?_, ?_, ?_, fun B t hb => by
      obtain ⟨a', f, hh⟩ := hs.ty B t hb
      exact ⟨a', f, by rw [hkeep B (Array.getElem?_eq_some_iff.1 hh).1]; exact hh⟩, fun id B b c hid hg => by
      simp only [MM.lay2] at hid hg
      split at hid
      · rename_i e; rw [e, hout.2] at hg; exact absurd hg (by decide)
      · exact hs.bty id B b c hid hg⟩, ⟨hext, rfl, rfl, rfl, by simp, fun B hB _ => hkeep B hB, ?_, fun B o ho => .inl ho⟩⟩
  · intro id hid
    simp only [MM.lay2] at hid ⊢
    rw [if_neg (by omega)]
    exact hs.out id (by omega)
  · intro B o' hB
    have := hs.imm B o' hB
    rw [hkeep B (Array.getElem?_eq_some_iff.1 this).1]
    exact this
  · intro id l hl
    simp only [MM.lay2] at hl
    split at hl
    · rename_i e
      subst e
      simp only [Option.some.injEq] at hl
      subst hl
      exact ⟨ob, by rw [ob?_eq, List.getElem?_append_right (Nat.le_refl _), Nat.sub_self]; rfl, hq _ hat⟩
    · obtain ⟨o', ho, hos⟩ := hs.obj id l hl
      refine ⟨o', by rw [hob id (ob?_lt ho)]; exact ho, hos.keep hext rfl (fun B b c e => ?_) (fun B hB => by rw [hkeep B (Array.getElem?_eq_some_iff.1 hB).1]; exact hB)⟩
      subst e
      exact ⟨hkeep B (hs.block_lt ⟨id, b, c, hl⟩), fun x => x⟩
  · intro id o' ho hl
    simp only [MM.lay2] at hl ⊢
    split at hl
    · cases hl
    · rename_i hne
      rcases Nat.lt_or_ge id H.length with hlt | hge
      · rw [hob id hlt] at ho
        exact hs.idle id o' ho hl
      · exact .inr (hs.out id (by omega)).2
  · intro id id' B b c b' c' e1 e2
    simp only [MM.lay2] at e1 e2
    split at e1
    · rename_i h1
      split at e2
      · rename_i h2; rw [h1, h2]
      · simp only [Option.some.injEq, Prod.mk.injEq] at e1
        have := hs.block_lt ⟨id', b', c', e2⟩
        omega
    · split at e2
      · simp only [Option.some.injEq, Prod.mk.injEq] at e2
        have := hs.block_lt ⟨id, b, c, e1⟩
        omega
      · exact hs.inj id id' B b c b' c' e1 e2
  · rintro B ⟨id, b, c, hid⟩
    simp only [MM.lay2] at hid
    split at hid
    · simp only [Option.some.injEq, Prod.mk.injEq] at hid
      exact .inr (by omega)
    · exact .inl ⟨id, b, c, hid⟩

theorem e_mkm {v : V} (hs : Sat P M H 0 w) (hok : okOp P k o .mkm = true) (h : stepE E lk H .mkm = some (v, H')) : Eff P M H' w (execOp ρ o) v := by
  cases hop : o.op <;> simp only [okOp, hop] at hok <;> try (cases hok; done)
  rename_i t r
  cases r with
  | some _ => cases hok
  | none =>
  simp only [stepE, Option.some.injEq, Prod.mk.injEq] at h
  obtain ⟨rfl, rfl⟩ := h
  have hout := hs.out H.length (by rw [hs.n]; exact Nat.le_refl _)
  obtain ⟨s1, s2⟩ := lay2_sat (x := .map #[] 0) (ob := .map [] false) hs fun w' hw => by
    simp only [ObSat]
    exact ⟨hout.2, _, _, [], hw, Nat.zero_le _, .inl ⟨rfl, hs.imm_lt (Nat.le_refl _)⟩, MapKept.stamped_empty 0, by simp, by simp [RelM]⟩
  refine ⟨.value (.map (some w.heap.size)), w.alloc (.map #[] 0), M.lay2 H.length w.heap.size, ?_, .inl ⟨_, rfl, ?_⟩, s1, s2⟩
  · simp [execOp, hop, Instr.makeMap, Result.andThen]
  · rw [relV_c]
    simp only [RelC]
    exact ⟨Nat.lt_succ_self _, _, rfl, fun _ => ⟨0, 0, by simp [MM.lay2]⟩⟩

/-! ### The characters of a string -/
theorem e_rgs {a : A} {v : V} (hs : Sat P M H 0 w) (hA : ∀ x a, okA k x a = true → RelV M (lk a) (ρ x)) (hok : okOp P k o (.rgs a) = true) (h : stepE E lk H (.rgs a) = some (v, H')) : Eff P M H' w (execOp ρ o) v := by
  cases hop : o.op <;> simp only [okOp, hop] at hok <;> try (cases hok; done)
  rename_i t x
  simp only [Bool.and_eq_true] at hok
  obtain ⟨h1, h2⟩ := hok
  have hu : P.underlying t = some .string := by split at h1 <;> first | assumption | cases h1
  have r1 := hA _ _ h2
  simp only [stepE] at h
  split at h <;> try (cases h; done)
  rename_i s hx
  simp only [Option.some.injEq, Prod.mk.injEq] at h
  obtain ⟨rfl, rfl⟩ := h
  rw [hx, relV_str] at r1
  obtain ⟨bs, hbs, hbl⟩ := r1
  have hout := hs.out H.length (by rw [hs.n]; exact Nat.le_refl _)
  obtain ⟨s1, s2⟩ := lay2_sat (x := .stringIter bs 0) (ob := .sit s 0) hs fun w' hw => by
    simp only [ObSat]
    exact ⟨hout.2, trivial, bs, hw, Nat.zero_le _, hs.imm_lt (Nat.le_refl _), hbl⟩
  refine ⟨.value (.pointer (some ⟨w.heap.size, 0, none⟩)), w.alloc (.stringIter bs 0), M.lay2 H.length w.heap.size, ?_, .inl ⟨_, rfl, ?_⟩, s1, s2⟩
  · simp [execOp, hop, hbs, Instr.range, run_underlying hu, Result.andThen]
  · rw [relV_c]
    simp only [RelC]
    exact ⟨Nat.lt_succ_self _, Nat.zero_le _, ⟨_, _, rfl⟩, fun _ => by simp [MM.lay2, PtrAt]⟩

theorem bytes_at {bs : ByteArray} {s : List Nat} (h : bs.data.toList.map UInt8.toNat = s) (i : Nat) (hi : i < s.length) : (bs.get! i).toNat = s.getD i 0 ∧ i < bs.size := by
  subst h
  simp only [List.length_map, Array.length_toList] at hi
  refine ⟨?_, hi⟩
  have e : bs.get! i = bs.data[i]! := rfl
  rw [e, List.getD_eq_getElem?_getD, List.getElem?_map, Array.getElem?_toList, getElem!_pos bs.data i hi, Array.getElem?_eq_getElem hi]
  rfl
theorem rune_eq {bs : ByteArray} {s : List Nat} (h : bs.data.toList.map UInt8.toNat = s) {pos : Nat} (hp : pos < s.length) : Utf8.decode bs pos = runeAt (s.drop pos) := by
  have hlen : s.length = bs.size := by subst h; simp
  have ha : ∀ k, pos + k < s.length → (bs.get! (pos + k)).toNat = (s.drop pos).getD k 0 := fun k hk => by
    rw [(bytes_at h (pos + k) hk).1]
    simp only [List.getD_eq_getElem?_getD, List.getElem?_drop]
  have h0 := ha 0 (by omega)
  have hc : ∀ k, (decide (pos + k < bs.size) && (bs.get! (pos + k)).toNat / 64 == 2) = (decide (k < (s.drop pos).length) && (s.drop pos).getD k 0 / 64 == 2) := fun k => by
    rw [List.length_drop, ← hlen]
    by_cases hk : pos + k < s.length
    · rw [ha k hk, decide_eq_true hk, decide_eq_true (show k < s.length - pos by omega)]
    · rw [decide_eq_false hk, decide_eq_false (show ¬ k < s.length - pos by omega), Bool.false_and, Bool.false_and]
  have hv : ∀ k, (decide (k < (s.drop pos).length) && (s.drop pos).getD k 0 / 64 == 2) = true → (bs.get! (pos + k)).toNat = (s.drop pos).getD k 0 := fun k hk => by
    rw [Bool.and_eq_true, decide_eq_true_eq, List.length_drop] at hk
    exact ha k (by omega)
  have hval : ∀ c : Nat, Utf8.valid (c : Int) = (decide (c < 55296) || (decide (57344 ≤ c) && decide (c ≤ 1114111))) := fun c => by
    unfold Utf8.valid
    rw [Bool.eq_iff_iff]
    simp only [Bool.or_eq_true, Bool.and_eq_true, decide_eq_true_eq]
    omega
  unfold Utf8.decode runeAt
  simp only [hc, h0, hval, Utf8.runeError]
  generalize hL : s.drop pos = L at *
  by_cases c0 : L.getD 0 0 < 128
  · rw [if_pos c0, if_pos c0]
  rw [if_neg c0, if_neg c0]
  by_cases c1 : (L.getD 0 0 / 32 == 6 && (decide (1 < L.length) && L.getD 1 0 / 64 == 2)) = true
  · rw [if_pos c1, if_pos c1, hv 1 (by rw [Bool.and_eq_true] at c1; exact c1.2)]
  rw [if_neg c1, if_neg c1]
  by_cases c2 : (L.getD 0 0 / 16 == 14 && (decide (1 < L.length) && L.getD 1 0 / 64 == 2) && (decide (2 < L.length) && L.getD 2 0 / 64 == 2)) = true
  · have q := c2
    rw [Bool.and_eq_true, Bool.and_eq_true] at q
    rw [if_pos c2, if_pos c2, hv 1 q.1.2, hv 2 q.2]
  rw [if_neg c2, if_neg c2]
  by_cases c3 : (L.getD 0 0 / 8 == 30 && (decide (1 < L.length) && L.getD 1 0 / 64 == 2) && (decide (2 < L.length) && L.getD 2 0 / 64 == 2) && (decide (3 < L.length) && L.getD 3 0 / 64 == 2)) = true
  · have q := c3
    rw [Bool.and_eq_true, Bool.and_eq_true, Bool.and_eq_true] at q
    rw [if_pos c3, if_pos c3, hv 1 q.1.1.2, hv 2 q.1.2, hv 3 q.2]
  rw [if_neg c3, if_neg c3]

theorem e_nxs {a : A} {v : V} (hs : Sat P M H 0 w) (hA : ∀ x a, okA k x a = true → RelV M (lk a) (ρ x)) (hok : okOp P k o (.nxs a) = true) (h : stepE E lk H (.nxs a) = some (v, H')) : Eff P M H' w (execOp ρ o) v := by
  cases hop : o.op <;> simp only [okOp, hop] at hok <;> try (cases hok; done)
  rename_i x b
  cases b <;> simp only [] at hok <;> try (cases hok; done)
  have r1 := hA _ _ hok
  simp only [stepE] at h
  split at h <;> try (cases h; done)
  rename_i id hx
  split at h <;> try (cases h; done)
  rename_i s pos ho
  rw [hx, relV_c] at r1
  simp only [RelC] at r1
  obtain ⟨hlt, hg0, ⟨B', x', hv⟩, hpt⟩ := r1
  have hg : M.gen id = 0 := by
    cases hl : M.loc id with
    | none => exact (hs.idle id _ ho hl).resolve_left (by intro h; cases h)
    | some l =>
      obtain ⟨o', ho', hos⟩ := hs.obj id l hl
      rw [ho] at ho'
      cases ho'
      cases l with
      | none => simp [ObSat] at hos
      | some l => obtain ⟨B', b, c⟩ := l; simp only [ObSat] at hos; exact hos.1
  have hpt := hpt hg
  cases hl : M.loc id with
  | none => rw [hl] at hpt; exact hpt.elim
  | some l =>
  cases l with
  | none => rw [hl] at hpt; exact hpt.elim
  | some l =>
  obtain ⟨B, b, c⟩ := l
  rw [hl] at hpt
  simp only [PtrAt] at hpt
  obtain ⟨o', ho', hos⟩ := hs.obj id _ hl
  rw [ho] at ho'
  cases ho'
  simp only [ObSat] at hos
  obtain ⟨_, rfl, bs, e1, _, e3, e4⟩ := hos
  have hget : (getObj B).run P w = .ok (.stringIter bs pos) w := by simp [getObj, Sem.run, e1]
  have hlen : s.length = bs.size := by subst e4; simp
  split at h
  · rename_i hpos
    simp only [Option.some.injEq, Prod.mk.injEq] at h
    obtain ⟨rfl, rfl⟩ := h
    obtain ⟨s1, s2⟩ := ob_turn (ob' := .sit s (pos + (runeAt (s.drop pos)).2)) (x' := .stringIter bs (pos + (runeAt (s.drop pos)).2)) hs hl e3 ho e1 (fun _ _ _ h => by cases h) (fun h => by cases h) fun w' hw => by
      simp only [ObSat]
      exact ⟨hg, trivial, bs, hw, Nat.zero_le _, e3, e4⟩
    have hset : ∀ q, (setObj B (.stringIter bs q)).run P w = .ok () { w with heap := w.heap.setIfInBounds B (.stringIter bs q) } := fun q => by simp [setObj, Sem.run, e1]
    refine ⟨.value (.tuple #[.bool true, goInt pos, .int .i32 (runeAt (s.drop pos)).1]), _, M, ?_, .inl ⟨_, rfl, ?_⟩, s1, s2⟩
    · rw [Nat.zero_add] at hpt
      simp [execOp, hop, hpt, Instr.next, hget, ← hlen, hpos, rune_eq e4 hpos, hset, Result.andThen]
    · rw [relV_tup]
      refine ⟨_, rfl, rfl, ?_⟩
      simp only [RelVs, and_true]
      exact ⟨by rw [relV_bool], by rw [relV_int]; rfl, by rw [relV_int]; rfl⟩
  · rename_i hpos
    simp only [Option.some.injEq, Prod.mk.injEq] at h
    obtain ⟨rfl, rfl⟩ := h
    refine ⟨.value (.tuple #[.bool false]), w, M, ?_, .inl ⟨_, rfl, ?_⟩, hs, Fr.refl M w⟩
    · rw [Nat.zero_add] at hpt
      simp [execOp, hop, hpt, Instr.next, hget, ← hlen, hpos, Result.andThen]
    · rw [relV_tup]
      refine ⟨_, rfl, rfl, ?_⟩
      simp only [RelVs, and_true]
      exact relV_bool.2 rfl

/-! ### A map that is ranged over -/
def MM.frz (M : MM) (B : Nat) (x : Obj) : MM := { M with imm := fun b => if b = B then some x else M.imm b }
theorem frz_sat (hs : Sat P M H 0 w) {id B b c clock : Nat} {es : List (V × V)} {fz : Bool} {xs : Array MapEntry} {ys : List MapEntry} (hl : M.loc id = some (some (B, b, c))) (hi : (fz = false ∧ M.imm B = none) ∨ (fz = true ∧ M.imm B = some (.map xs clock))) (hg : M.gen id = 0) (ho : ob? H id = some (.map es fz)) (hB : w.heap[B]? = some (.map xs clock))
    (h1 : MapKept.Stamped xs clock) (h2 : ys.Perm xs.toList) (h3 : RelM M es ys) :
    Sat P (M.frz B (.map xs clock)) (setOb H id (.map es true)) 0 w ∧ Fr M (M.frz B (.map xs clock)) w w := by
  have hext : Ext M (M.frz B (.map xs clock)) := ⟨fun B' o h => by
    simp only [MM.frz]
    split
    · rename_i e
      subst e
      have := hs.imm _ _ h
      rw [hB] at this
      exact this
    · exact h, Nat.le_refl _, fun _ _ => Nat.le_refl _, fun id l _ _ h => h, fun _ _ h => h⟩
  refine ⟨⟨by rw [setOb_length]; exact hs.n, hs.out, ?_, ?_, ?_, hs.inj, hs.ty, hs.bty⟩, ⟨hext, rfl, rfl, rfl, Nat.le_refl _, fun _ _ _ => rfl, fun B h => .inl h, fun B' o h => ?_⟩⟩
  · intro B' o h
    simp only [MM.frz] at h
    split at h
    · rename_i e
      subst e
      cases h
      exact hB
    · exact hs.imm B' o h
  · intro j l hj
    by_cases e : j = id
    · subst e
      have hj' : M.loc j = some l := hj
      rw [hl, Option.some.injEq] at hj'
      subst hj'
      refine ⟨_, ob?_setOb_same ho, ?_⟩
      simp only [ObSat]
      exact ⟨hg, xs, clock, ys, hB, Nat.zero_le _, .inr ⟨rfl, by simp [MM.frz]⟩, h1, h2, RelM.mono hext h3⟩
    · obtain ⟨o', ho', hos⟩ := hs.obj j l hj
      refine ⟨o', by rw [ob?_setOb_ne e]; exact ho', hos.keep hext rfl (fun B' b' c' hlb => ⟨rfl, fun hn => ?_⟩) (fun B' hB' => hB')⟩
      subst hlb
      have hne : B' ≠ B := fun e' => e (hs.inj j id B b' c' b c (by rw [← e']; exact hj) hl)
      simp only [MM.frz]
      rw [if_neg hne]
      exact hn
  · intro j q' hq' hlj
    by_cases e : j = id
    · subst e
      have hlj' : M.loc j = none := hlj
      rw [hl] at hlj'
      cases hlj'
    · rw [ob?_setOb_ne e] at hq'
      exact hs.idle j q' hq' hlj
  · simp only [MM.frz] at h
    split at h
    · rename_i e
      subst e
      exact .inr (.inl ⟨id, b, c, hl⟩)
    · exact .inl h

theorem leftOf_none (xs : Array MapEntry) : (leftOf xs #[]).toList = xs.toList := by
  simp [leftOf]

theorem e_rgm {a : A} {v : V} (hs : Sat P M H 0 w) (hA : ∀ x a, okA k x a = true → RelV M (lk a) (ρ x)) (hok : okOp P k o (.rgm a) = true) (h : stepE E lk H (.rgm a) = some (v, H')) : Eff P M H' w (execOp ρ o) v := by
  cases hop : o.op <;> simp only [okOp, hop] at hok <;> try (cases hok; done)
  rename_i t x
  simp only [Bool.and_eq_true] at hok
  obtain ⟨h1, h2⟩ := hok
  have hu : ∃ a b, P.underlying t = some (.map a b) := by split at h1 <;> first | exact ⟨_, _, by assumption⟩ | cases h1
  obtain ⟨kt, et, hu⟩ := hu
  have r1 := hA _ _ h2
  simp only [stepE] at h
  split at h <;> try (cases h; done)
  · rename_i id hx
    split at h <;> try (cases h; done)
    rename_i es fz ho
    simp only [Option.some.injEq, Prod.mk.injEq] at h
    obtain ⟨rfl, rfl⟩ := h
    rw [hx] at r1
    obtain ⟨B, b0, c0, xs, clock, ys, hv, hl, hg, hB, hi, hst, hp, hr⟩ := live_map hs ho r1
    obtain ⟨f1, f2⟩ := frz_sat hs hl hi hg ho hB hst hp hr
    have hout := f1.out H.length (by rw [f1.n, setOb_length]; exact Nat.le_refl _)
    have hlen : (setOb H id (.map es true)).length = H.length := setOb_length _ _ _
    obtain ⟨s1, s2⟩ := lay2_sat (x := .mapIter (some B) clock #[] clock) (ob := .mit es none) f1 fun w' hw => by
      simp only [ObSat]
      refine ⟨by rw [hlen]; exact hout.2, trivial, some B, clock, #[], clock, hw, Nat.zero_le _, f1.imm_lt (Nat.le_refl _), .inr ⟨B, xs, clock, ys, rfl, by simp [MM.lay2, MM.frz], hst, rfl, Nat.le_refl _, by rw [leftOf_none]; exact hp, RelM.mono (f2.ext.trans ?_) hr, fun _ _ h => by cases h⟩⟩
      exact ⟨fun _ _ h => h, by simp only [MM.lay2]; rw [f1.n]; omega, fun _ _ => Nat.le_refl _, fun id l hid _ hl => by simp only [MM.lay2]; rw [if_neg (by rw [f1.n] at hid; omega)]; exact hl, fun _ _ h => h⟩
    rw [hlen] at s1 s2
    refine ⟨.value (.pointer (some ⟨w.heap.size, 0, none⟩)), w.alloc (.mapIter (some B) clock #[] clock), _, ?_, .inl ⟨_, rfl, ?_⟩, s1, f2.trans s2⟩
    · simp [execOp, hop, hv, Instr.range, run_underlying hu, MapKept.run_getObj_map hB, Result.andThen]
    · rw [relV_c]
      simp only [RelC]
      exact ⟨Nat.lt_succ_self _, Nat.zero_le _, ⟨_, _, rfl⟩, fun _ => by simp [MM.lay2, PtrAt]⟩
  · rename_i hx
    simp only [Option.some.injEq, Prod.mk.injEq] at h
    obtain ⟨rfl, rfl⟩ := h
    rw [hx, relV_d] at r1
    simp only [RelD] at r1
    have hout := hs.out H.length (by rw [hs.n]; exact Nat.le_refl _)
    obtain ⟨s1, s2⟩ := lay2_sat (x := .mapIter none 0 #[] 0) (ob := .mit [] none) hs fun w' hw => by
      simp only [ObSat]
      exact ⟨hout.2, trivial, none, 0, #[], 0, hw, Nat.zero_le _, hs.imm_lt (Nat.le_refl _), .inl ⟨rfl, rfl, rfl⟩⟩
    refine ⟨.value (.pointer (some ⟨w.heap.size, 0, none⟩)), w.alloc (.mapIter none 0 #[] 0), M.lay2 H.length w.heap.size, ?_, .inl ⟨_, rfl, ?_⟩, s1, s2⟩
    · simp [execOp, hop, r1, Instr.range, run_underlying hu, Result.andThen]
    · rw [relV_c]
      simp only [RelC]
      exact ⟨Nat.lt_succ_self _, Nat.zero_le _, ⟨_, _, rfl⟩, fun _ => by simp [MM.lay2, PtrAt]⟩

/-- An iterator: where it lies. -/
theorem live_mit (hs : Sat P M H 0 w) {id : Nat} {left : List (V × V)} {cur : Option (V × V)} (ho : ob? H id = some (.mit left cur)) {v : Value} (hr : RelV M (.c (.ptr id 0 0)) v) :
    ∃ B c, v = .pointer (some ⟨B, 0, none⟩) ∧ M.loc id = some (some (B, 0, c)) ∧ M.gen id = 0 ∧ MitSat M w 0 left cur B := by
  rw [relV_c] at hr
  simp only [RelC] at hr
  obtain ⟨hlt, hg0, ⟨B', x', hv⟩, hpt⟩ := hr
  have hg : M.gen id = 0 := by
    cases hl : M.loc id with
    | none => exact (hs.idle id _ ho hl).resolve_left (by intro h; cases h)
    | some l =>
      obtain ⟨o', ho', hos⟩ := hs.obj id l hl
      rw [ho] at ho'
      cases ho'
      cases l with
      | none => simp [ObSat] at hos
      | some l => obtain ⟨B', b, c⟩ := l; simp only [ObSat] at hos; exact hos.1
  have hpt := hpt hg
  cases hl : M.loc id with
  | none => rw [hl] at hpt; exact hpt.elim
  | some l =>
  cases l with
  | none => rw [hl] at hpt; exact hpt.elim
  | some l =>
  obtain ⟨B, b, c⟩ := l
  rw [hl] at hpt
  simp only [PtrAt] at hpt
  obtain ⟨o', ho', hos⟩ := hs.obj id _ hl
  rw [ho] at ho'
  cases ho'
  simp only [ObSat] at hos
  obtain ⟨_, rfl, hos⟩ := hos
  exact ⟨B, c, by simpa using hpt, rfl, hg, hos⟩

theorem e_ent {a : A} {v : V} (hs : Sat P M H 0 w) (hA : ∀ x a, okA k x a = true → RelV M (lk a) (ρ x)) (hok : okOp P k o (.ent a) = true) (h : stepE E lk H (.ent a) = some (v, H')) : Eff P M H' w (execOp ρ o) v := by
  cases hop : o.op <;> simp only [okOp, hop] at hok <;> try (cases hok; done)
  rename_i x
  have r1 := hA _ _ hok
  simp only [stepE] at h
  split at h <;> try (cases h; done)
  rename_i id hx
  split at h <;> try (cases h; done)
  rename_i left kk vv ho
  simp only [Option.some.injEq, Prod.mk.injEq] at h
  obtain ⟨rfl, rfl⟩ := h
  rw [hx] at r1
  obtain ⟨B, c, hv, hl, hg, m, since, seen, stp, k1, k2, k3, k4⟩ := live_mit hs ho r1
  rcases k4 with ⟨_, _, k4⟩ | ⟨bm, xs, clock, ys, q1, q2, q3, q4, q5, q6, q7, q8⟩
  · cases k4
  · obtain ⟨e, z1, z2, z3, z4, z5⟩ := q8 kk vv rfl
    subst q1 z3
    have hmap := hs.imm _ _ q2
    have hseen : seen = seen.pop.push e.born := by
      apply Array.ext'
      rw [Array.toList_push, Array.toList_pop]
      have z2' : seen.toList.getLast? = some e.born := by rw [Array.getLast?_toList]; exact z2
      generalize seen.toList = l at z2'
      obtain ⟨l', rfl⟩ := List.getLast?_eq_some_iff.1 z2'
      simp
    rw [hseen] at k1
    have hrun := run_entry_at (P := P) w B bm since seen.pop xs stp e k1 hmap z1 q3.2.1
    refine ⟨.value (.tuple #[e.key, e.val]), w, M, ?_, .inl ⟨_, rfl, ?_⟩, hs, Fr.refl M w⟩
    · simp [execOp, hop, hv, hrun, Result.andThen]
    · rw [relV_tup]
      refine ⟨_, rfl, rfl, ?_⟩
      simp only [RelVs, and_true]
      exact ⟨z4, z5⟩

/-- The elements of a slice set to zero. -/
theorem e_clr {sz : Nat} {zero : List D} {a : A} {v : V} (hs : Sat P M H 0 w) (hA : ∀ x a, okA k x a = true → RelV M (lk a) (ρ x)) (hok : okOp P k o (.clr sz zero a) = true) (h : stepE E lk H (.clr sz zero a) = some (v, H')) : Eff P M H' w (execOp ρ o) v := by
  cases hop : o.op <;> simp only [okOp, hop] at hok <;> try (cases hok; done)
  rename_i c
  simp only [Bool.and_eq_true, decide_eq_true_eq] at hok
  obtain ⟨⟨h1, h2⟩, h3⟩ := hok
  obtain ⟨x, hargs, r1⟩ := call1 hA h2
  split at h1 <;> try (cases h1; done)
  rename_i t hc ht
  split at h1 <;> try (cases h1; done)
  rename_i e hu
  simp only [Bool.and_eq_true, beq_iff_eq] at h1
  obtain ⟨h5, h7⟩ := h1
  split at h7 <;> try (cases h7; done)
  rename_i vs hz
  simp only [Bool.and_eq_true, beq_iff_eq] at h7
  obtain ⟨h7, h8⟩ := h7
  obtain ⟨it, z, e1, e2, e3⟩ := zero?_spec hz
  obtain ⟨it', e1', rfl⟩ := size?_spec h5
  rw [e1] at e1'
  cases e1'
  obtain ⟨z1, z2⟩ := okDs_rel (I := M.imm) h7
  have hzero : (zeroValue e).run P w = .ok z w := by simp [zeroValue, typeInfo, e1, e2]
  have hexec : ∀ w', (Builtin.clear_ c.argTypes o.type #[x]).run P w = .ok (.tuple #[]) w' → (execOp ρ o).run P w = .ok (.value (.tuple #[])) w' := by
    intro w' hrun
    exact exec_builtin hop hc (fun cs => rfl) (by rw [hargs]; exact hrun)
  simp only [stepE] at h
  split at h <;> try (cases h; done)
  · rename_i hx
    simp only [Option.some.injEq, Prod.mk.injEq] at h
    obtain ⟨rfl, rfl⟩ := h
    rw [hx, relV_nils] at r1
    subst r1
    exact ⟨_, w, M, hexec w (by simp [Builtin.clear_, ht, run_underlying hu]), .inl ⟨_, rfl, by rw [relV_tup]; exact ⟨_, rfl, rfl, RelVs.nil _ _⟩⟩, hs, Fr.refl M w⟩
  · rename_i id g off len sz' cap hx
    split at h <;> try (cases h; done)
    rename_i cs g' ho
    split at h <;> try (cases h; done)
    rename_i hcond
    obtain ⟨rfl, rfl, hcond⟩ := hcond
    simp only [Option.some.injEq, Prod.mk.injEq] at h
    obtain ⟨rfl, rfl⟩ := h
    rw [hx, relV_c] at r1
    obtain ⟨ad, cp, rfl, hlc, _, hcase⟩ := live_os hs (Sub.refl H) ho r1
    by_cases hz0 : len = 0
    · subst hz0
      have : splice cs off (rep (zero.map .d) 0) = cs := by simp [splice, rep]
      rw [this, setOb_self ho]
      exact ⟨_, w, M, hexec w (by cases ad <;> simp [Builtin.clear_, ht, run_underlying hu]), .inl ⟨_, rfl, by rw [relV_tup]; exact ⟨_, rfl, rfl, RelVs.nil _ _⟩⟩, hs, Fr.refl M w⟩
    · rcases hcase with ⟨_, _, rfl, _⟩ | ⟨B, b0, bs, fz', hl, ha, hbs, _⟩
      · omega
      · have hcp : cp ≠ 0 := by omega
        rcases ha with ha | rfl
        · exact absurd ha hcp
        · have hrz : RelCs M (zero.map .d) z.cells.toList := by rw [e3]; exact RelCs.of_d.2 z1
          have hzl : z.cells.size = (zero.map C.d).length := by rw [← Array.length_toList, e3, z2]; simp
          have hzs : z.cells.size = it.size := by rw [← Array.length_toList, e3]; exact h8
          have hlm : len * it.size ≤ cp * it.size := Nat.mul_le_mul_right _ hlc
          have hrep := rep_rel (l := len) (n := len * it.size) hrz hzl (by rw [← hzl, hzs]; exact Nat.le_refl _)
          have hrl : (rep (zero.map C.d) len).length = len * it.size := by rw [rep_length, ← hzl, hzs]
          have hzc : Builtin.zeroCells z.cells len = (Array.range (len * it.size)).map (z.cells[· % z.cells.size]!) := by unfold Builtin.zeroCells; rw [hzs]
          obtain ⟨w', M', s1, s2, s3, s4, s5⟩ := store_row (P := P) hs ho hl (off := off) hrep (by rw [hrl]; simp) (by omega) (by simp; omega)
            (fun u hu => made_one (relCs_one hrz (by rw [Array.length_toList]; exact hzl)) (by omega) u hu)
          rw [← hzc] at s1
          refine ⟨_, w', M', hexec w' ?_, .inl ⟨_, rfl, by rw [relV_tup]; exact ⟨_, rfl, rfl, RelVs.nil _ _⟩⟩, s2, s3⟩
          obtain ⟨len, rfl⟩ : ∃ m, len = m + 1 := ⟨len - 1, by omega⟩
          simp [Builtin.clear_, ht, run_underlying hu, hzero, s1, Result.andThen]
end
end Mini
end Go.Proofs.YtmcgaakbkgdljaaGreatDoor
