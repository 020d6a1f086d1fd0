/-
  The operations that write.
-/
import Derived.Test.YtmcgaakbkgdljaaGreatDoorMiniE7
namespace Go.Proofs.YtmcgaakbkgdljaaGreatDoor
namespace Mini
open Go

theorem setOb_length : ∀ (H : Heap) (id : Nat) (o : Ob), (setOb H id o).length = H.length
  | [], _, _ => rfl
  | _ :: _, 0, _ => rfl
  | _ :: H, id + 1, o => by simp only [setOb, List.length_cons, setOb_length H id o]
theorem ob?_setOb_same : ∀ {H : Heap} {id : Nat} {o o' : Ob}, ob? H id = some o' → ob? (setOb H id o) id = some o
  | [], _, _, _, h => by simp [ob?] at h
  | _ :: _, 0, _, _, _ => rfl
  | _ :: H, id + 1, o, o', h => by simp only [setOb, ob?] at *; exact ob?_setOb_same h
theorem ob?_setOb_ne : ∀ {H : Heap} {id j : Nat} {o : Ob}, j ≠ id → ob? (setOb H id o) j = ob? H j
  | [], _, _, _, _ => rfl
  | _ :: _, 0, 0, _, h => absurd rfl h
  | _ :: _, 0, _ + 1, _, _ => rfl
  | _ :: _, _ + 1, 0, _, _ => rfl
  | _ :: H, id + 1, j + 1, o, h => by simp only [setOb, ob?]; exact ob?_setOb_ne (by omega)

theorem setOb_self : ∀ {H : Heap} {id : Nat} {o : Ob}, ob? H id = some o → setOb H id o = H
  | [], _, _, _ => rfl
  | _ :: _, 0, _, h => by simp only [ob?, Option.some.injEq] at h; simp [setOb, h]
  | _ :: H, id + 1, o, h => by simp only [ob?] at h; simp only [setOb]; rw [setOb_self h]

/-- Alike, or marked as written no more. -/
def Frz : Ob → Ob → Prop
  | .cells cs g fz, .cells cs' g' fz' => cs = cs' ∧ g = g' ∧ (fz = true → fz' = true)
  | a, b => a = b
theorem Frz.refl (o : Ob) : Frz o o := by cases o <;> simp [Frz]
theorem Frz.trans {a b c : Ob} (h : Frz a b) (k : Frz b c) : Frz a c := by cases a <;> cases b <;> cases c <;> simp_all [Frz]
theorem Frz.same {a b : Ob} (h : Frz a b) : Same a b := by cases a <;> cases b <;> simp_all [Frz, Same]
/-- More objects; some marked. -/
structure Wide (H H' : Heap) : Prop where
  len : H.length ≤ H'.length
  ob : ∀ id o, ob? H id = some o → ∃ o', ob? H' id = some o' ∧ Frz o o'
theorem Wide.refl (H : Heap) : Wide H H := ⟨Nat.le_refl _, fun _ o h => ⟨o, h, Frz.refl o⟩⟩
theorem Wide.trans {A B D : Heap} (h : Wide A B) (k : Wide B D) : Wide A D := ⟨Nat.le_trans h.len k.len, fun id o ho => by
  obtain ⟨o', h1, h2⟩ := h.ob id o ho
  obtain ⟨o'', h3, h4⟩ := k.ob id o' h1
  exact ⟨o'', h3, h2.trans h4⟩⟩
theorem Wide.sub {H H' : Heap} (h : Wide H H') : Sub H H' := fun id o ho => by
  obtain ⟨o', h1, h2⟩ := h.ob id o ho
  exact ⟨o', h1, h2.same⟩

section
variable {P : Program} {M : MM} {w w' : World} {k : K} {o : Oper} {lk : A → V} {ρ : Operand → Value} {Hi H H' : Heap}

theorem Sat.heap (hs : Sat P M H 0 w) (h : w'.heap = w.heap) : Sat P M H 0 w' where
  n := hs.n
  out := hs.out
  imm := fun B o hB => by rw [h]; exact hs.imm B o hB
  obj := fun id l hl => by
    obtain ⟨o, h1, h2⟩ := hs.obj id l hl
    exact ⟨o, h1, h2.keep (Ext.refl M) rfl (fun B _ _ _ => ⟨by rw [h], fun x => x⟩) (fun B hB => by rw [h]; exact hB)⟩
  idle := hs.idle
  inj := hs.inj
  ty := fun B t hb => by rw [h]; exact hs.ty B t hb
  bty := hs.bty

theorem ObSat.frz {id : Nat} {a b : Ob} {l : Option (Nat × Nat × Nat)} (h : Frz a b) (hs : ObSat P M w 0 id a l) : ObSat P M w 0 id b l := by
  cases a <;> cases b <;> simp only [Frz] at h <;> first | (cases h; done) | skip
  · obtain ⟨rfl, rfl, h⟩ := h
    cases l with
    | none => simpa only [ObSat] using hs
    | some l =>
      obtain ⟨B, b0, bs⟩ := l
      simp only [ObSat] at hs ⊢
      obtain ⟨h1, arr, T, fr, h2, h3, h4, h5, h6⟩ := hs
      refine ⟨h1, arr, T, fr, h2, h3, h4, h5, ?_⟩
      rcases h6 with h6 | ⟨h6, h7⟩
      · exact .inl h6
      · exact .inr ⟨h h6, h7⟩
  · cases h; exact hs
  · cases h; exact hs
  · exact hs
  · cases h; exact hs
  · cases h; exact hs
  · cases h; exact hs
  · cases h; exact hs

/-- More objects to come. -/
def MM.more (M : MM) (n : Nat) : MM := { M with n := n }

theorem MM.more_ext {n : Nat} (h : M.n ≤ n) : Ext M (M.more n) := ⟨fun _ _ h => h, h, fun _ _ => Nat.le_refl _, fun _ _ _ _ h => h, fun _ _ h => h⟩

theorem Sat.wide (hs : Sat P M H 0 w) (hw : Wide H H') : Sat P (M.more H'.length) H' 0 w ∧ Fr M (M.more H'.length) w w := by
  have hext : Ext M (M.more H'.length) := MM.more_ext (by rw [hs.n]; exact hw.len)
  refine ⟨⟨rfl, fun id hid => hs.out id (by have := hs.n; have := hw.len; simp only [MM.more] at hid; omega), hs.imm, ?_, ?_, hs.inj, hs.ty, hs.bty⟩,
    ⟨hext, rfl, rfl, rfl, Nat.le_refl _, fun _ _ _ => rfl, fun B h => .inl h, fun B o h => .inl h⟩⟩
  · intro id l hl
    obtain ⟨o, h1, h2⟩ := hs.obj id l hl
    obtain ⟨o', h3, h4⟩ := hw.ob id o h1
    exact ⟨o', h3, (h2.frz h4).keep hext rfl (fun B _ _ _ => ⟨rfl, fun x => x⟩) (fun B hB => hB)⟩
  · intro id o ho hl
    rcases Nat.lt_or_ge id H.length with h | h
    · cases hob : ob? H id with
      | none => rw [ob?_eq, List.getElem?_eq_none_iff] at hob; omega
      | some o1 =>
        obtain ⟨o', h3, h4⟩ := hw.ob id o1 hob
        rw [ho] at h3
        cases h3
        rcases hs.idle id o1 hob hl with rfl | h5
        · left
          cases o <;> simp [Frz] at h4 ⊢
        · exact .inr h5
    · exact .inr (hs.out id (by rw [hs.n]; exact h)).2

/-! ### Cells, stored -/
theorem run_storeCells_spl {B : Nat} {T : TypeId} {fr : Nat × Nat} : ∀ (vs : List Value) (off i : Nat) (arr : Array Value) (w : World), w.heap[B]? = some (.cells arr T fr) → off + i + vs.length ≤ arr.size → Thawed fr arr.size →
    (∀ u ∈ vs, u.oneCell' = true) → ∃ w' arr', (storeCells ⟨B, off, none⟩ vs i).run P w = .ok () w' ∧ w'.heap[B]? = some (.cells arr' T fr) ∧ arr'.toList = spl arr.toList (off + i) vs ∧ arr'.size = arr.size ∧
      (∀ b, b ≠ B → w'.heap[b]? = w.heap[b]?) ∧ w'.heap.size = w.heap.size ∧ w'.os = w.os ∧ w'.tape = w.tape ∧ w'.output = w.output
  | [], off, i, arr, w, h, _, _, _ => ⟨w, arr, rfl, h, by simp [spl], rfl, fun _ _ => rfl, rfl, rfl, rfl, rfl⟩
  | v :: vs, off, i, arr, w, h, hb, hth, h1 => by
    simp only [List.length_cons] at hb
    have hlt : off + i < arr.size := by omega
    have hcell : w.cell? ⟨B, off + i, none⟩ = some arr[off + i] := by simp [World.cell?, h, hlt]
    have hfz : w.frozen? ⟨B, off + i, none⟩ = false := by
      have := hth (off + i) hlt
      simp only [World.frozen?, h]
      rw [Bool.and_eq_false_iff]
      simp only [decide_eq_false_iff_not]
      omega
    have hset : (w.setCell ⟨B, off + i, none⟩ v).heap[B]? = some (.cells (arr.setIfInBounds (off + i) v) T fr) := by
      simp [World.setCell, Array.getElem?_modify, h]
    obtain ⟨w', arr', r1, r2, r3, r4, r5, r6, r7, r8, r9⟩ := run_storeCells_spl vs off (i + 1) _ (w.setCell ⟨B, off + i, none⟩ v) hset (by simp only [Array.size_setIfInBounds]; omega)
      (by simpa using hth) (fun u hu => h1 u (by simp [hu]))
    refine ⟨w', arr', ?_, r2, ?_, by rw [r4]; simp, fun b hb' => ?_, by rw [r6]; simp [World.setCell], by rw [r7]; rfl, by rw [r8]; rfl, by rw [r9]; rfl⟩
    · simp only [storeCells, Sem.run_bind, add_at]
      rw [run_store P w _ v _ (h1 v (by simp)), hcell, hfz]
      simpa using r1
    · rw [r3]
      apply List.ext_getElem?
      intro m
      rw [spl_get (by simp only [Array.length_toList, Array.size_setIfInBounds]; omega), spl_get (by simp only [Array.length_toList, List.length_cons]; omega)]
      simp only [Array.getElem?_toList, Array.getElem?_setIfInBounds, List.length_cons]
      by_cases h1 : m = off + i
      · subst h1
        rw [if_neg (by omega), if_pos rfl, if_pos (by omega), if_pos (by omega)]
        simp
      · by_cases h2 : off + i ≤ m ∧ m < off + i + (vs.length + 1)
        · rw [if_pos (by omega), if_pos h2]
          obtain ⟨d, rfl⟩ : ∃ d, m = off + i + 1 + d := ⟨m - (off + i + 1), by omega⟩
          rw [show off + i + 1 + d - (off + (i + 1)) = d by omega, show off + i + 1 + d - (off + i) = d + 1 by omega]
          simp
        · rw [if_neg (by omega), if_neg (by omega), if_neg h2]
    · rw [r5 b hb']
      simp [World.setCell, Array.getElem?_modify, Ne.symm hb']

/-- What an operation that writes leaves. -/
def Eff (P : Program) (M : MM) (H' : Heap) (w : World) (x : Sem Next) (v : V) : Prop :=
  ∃ nx w' M', x.run P w = .ok nx w' ∧ ((∃ v', nx = .value v' ∧ RelV M' v v') ∨ (nx = .skip ∧ v = .any)) ∧ Sat P M' H' 0 w' ∧ Fr M M' w w'

/-- What the blocks hold keeps its type. -/
theorem tyKeep {B : Nat} {arr arr' : Array Value} {T : TypeId} {fr fr' : Nat × Nat} (h : w.heap[B]? = some (.cells arr T fr)) (h' : w'.heap[B]? = some (.cells arr' T fr')) (hk : ∀ b : Nat, b ≠ B → w'.heap[b]? = w.heap[b]?) :
    ∀ (b : Nat) a t f, w.heap[b]? = some (.cells a t f) → ∃ a' f', w'.heap[b]? = some (.cells a' t f') := by
  intro b a t f hb
  by_cases e : b = B
  · subst e
    rw [h] at hb
    cases hb
    exact ⟨_, _, h'⟩
  · exact ⟨a, f, by rw [hk b e]; exact hb⟩
theorem tyGrow (hk : ∀ b : Nat, b < w.heap.size → w'.heap[b]? = w.heap[b]?) :
    ∀ (b : Nat) a t f, w.heap[b]? = some (.cells a t f) → ∃ a' f', w'.heap[b]? = some (.cells a' t f') := fun b a t f hb => ⟨a, f, by rw [hk b (Array.getElem?_eq_some_iff.1 hb).1]; exact hb⟩

/-- An object's place and generation. -/
def MM.put (M : MM) (id B b bs g : Nat) : MM := { M with loc := fun j => if j = id then some (some (B, b, bs)) else M.loc j, gen := fun j => if j = id then g else M.gen j, ty := fun b => if b = B ∧ genK ≤ g then some u8T else M.ty b }

/-- An object's cells turn, and with them its place, where its generation does. -/
theorem Sat.write0 {id b1 bs1 g1 g B1 : Nat} {l : Option (Nat × Nat × Nat)} {cs cs' : List C} {arr' : Array Value} {T' : TypeId} {fr' : Nat × Nat} (hs : Sat P M H 0 w) (ho : ob? H id = some (.cells cs g false)) (hl : M.loc id = some l)
    (hg : M.gen id = g) (hg1 : (g1 = g ∧ l = some (B1, b1, bs1)) ∨ g < g1)
    (hB : w'.heap[B1]? = some (.cells arr' T' fr')) (hB1 : (∃ b c, l = some (B1, b, c)) ∨ w.heap.size ≤ B1) (hkeep : ∀ b : Nat, b < w.heap.size → (∀ c d, l ≠ some (b, c, d)) → w'.heap[b]? = w.heap[b]?) (hsz : w.heap.size ≤ w'.heap.size)
    (h1 : w'.os = w.os) (h2 : w'.tape = w.tape) (h3 : w'.output = w.output) (harr : arr'.size = bs1) (hbs : b1 + cs'.length ≤ bs1)
    (hr : RelCs M cs' (arr'.toList.drop b1)) (hth : Thawed fr' bs1) (hone : ∀ u ∈ arr'.toList, u.oneCell' = true) (hty : ∀ (b : Nat) a t f, w.heap[b]? = some (.cells a t f) → ∃ a' f', w'.heap[b]? = some (.cells a' t f')) (hK : genK ≤ g1 → T' = u8T ∧ b1 = 0) :
    Sat P (M.put id B1 b1 bs1 g1) (setOb H id (.cells cs' g1 false)) 0 w' ∧
    Fr M (M.put id B1 b1 bs1 g1) w w' := by
  have hid : id < M.n := hs.id_lt hl
  have himm : ∀ b c d, l = some (b, c, d) → M.imm b = none := by
    intro b c d e
    subst e
    obtain ⟨o', e1, e2⟩ := hs.obj id _ hl
    rw [ho] at e1
    cases e1
    simp only [ObSat] at e2
    obtain ⟨_, arr, T, fr, _, _, _, _, h6⟩ := e2
    rcases h6 with h6 | ⟨h6, _⟩
    · exact h6.2.1
    · cases h6
  have himm1 : M.imm B1 = none := by
    rcases hB1 with ⟨b, c, h⟩ | h
    · exact himm _ _ _ h
    · exact hs.imm_lt h
  have hext : Ext M (M.put id B1 b1 bs1 g1) := by
    refine ⟨fun _ _ h => h, Nat.le_refl _, fun j _ => ?_, fun j l' _ hgj hj => ?_, fun b t hb => ?_⟩
    rotate_left 2
    · simp only [MM.put]
      split
      · rename_i e
        obtain ⟨rfl, e⟩ := e
        obtain ⟨a, f, hh⟩ := hs.ty b t hb
        obtain ⟨a', f', hh'⟩ := hty b a t f hh
        rw [hB] at hh'
        cases hh'
        rw [(hK e).1]
      · exact hb
    · simp only [MM.put]
      split
      · rename_i e; subst e; omega
      · exact Nat.le_refl _
    · simp only [MM.put] at hgj ⊢
      split
      · rename_i e
        subst e
        rw [if_pos rfl] at hgj
        rw [hl] at hj
        cases hj
        rcases hg1 with ⟨rfl, rfl⟩ | h
        · rfl
        · omega
      · exact hj
  refine ⟨⟨by rw [setOb_length]; exact hs.n, ?_, ?_, ?_, ?_, ?_, ?_, ?_⟩, ⟨hext, h1, h2, h3, hsz, fun b hb hn => hkeep b hb (fun c d e => hn ⟨id, c, d, by rw [hl, e]⟩), ?_, fun b o h => .inl h⟩⟩
  · intro j hj
    simp only [MM.put] at hj ⊢
    rw [if_neg (by omega), if_neg (by omega)]
    exact hs.out j hj
  · intro b o hb
    have hb' := hs.imm b o hb
    rw [hkeep b (Array.getElem?_eq_some_iff.1 hb').1 (fun c d e => by have := himm _ _ _ e; simp only [MM.put] at hb; rw [this] at hb; cases hb)]
    exact hb'
  · intro j l' hj
    simp only [MM.put] at hj
    split at hj
    · rename_i e
      subst e
      simp only [Option.some.injEq] at hj
      subst hj
      refine ⟨_, ob?_setOb_same ho, ?_⟩
      simp only [ObSat, MM.put, if_true]
      exact ⟨trivial, arr', T', fr', hB, harr, hbs, RelCs.mono hext hr, .inl ⟨Nat.zero_le _, himm1, hth, hone⟩⟩
    · rename_i hne
      obtain ⟨o', ho', hos⟩ := hs.obj j l' hj
      refine ⟨o', by rw [ob?_setOb_ne hne]; exact ho', hos.keep hext (by simp only [MM.put]; rw [if_neg hne]) ?_ ?_⟩
      · intro b c d hlb
        subst hlb
        have hob : M.Owns b := ⟨j, c, d, hj⟩
        exact ⟨hkeep b (hs.block_lt hob) (fun c' d' e => hne (hs.inj j id b c d c' d' hj (by rw [hl, e]))), fun h => h⟩
      · intro b hb
        rw [hkeep b (Array.getElem?_eq_some_iff.1 hb).1 (fun c d e => by
          subst e
          obtain ⟨o', e1, e2⟩ := hs.obj id _ hl
          rw [ho] at e1
          cases e1
          simp only [ObSat] at e2
          obtain ⟨_, arr, T, fr, h4, _⟩ := e2
          rw [h4] at hb
          cases hb)]
        exact hb
  · intro j o' ho' hj
    simp only [MM.put] at hj ⊢
    split at hj
    · cases hj
    · rename_i hne
      rw [if_neg hne]
      rw [ob?_setOb_ne hne] at ho'
      exact hs.idle j o' ho' hj
  · intro j j' b c d c' d' e1 e2
    simp only [MM.put] at e1 e2
    have far : ∀ j c d, j ≠ id → M.loc j = some (some (B1, c, d)) → False := by
      intro j c d hne hj
      rcases hB1 with ⟨b, c', h⟩ | h
      · exact hne (hs.inj j id B1 c d b c' hj (by rw [hl, h]))
      · exact Nat.lt_irrefl _ (Nat.lt_of_lt_of_le (hs.block_lt ⟨j, c, d, hj⟩) h)
    split at e1 <;> split at e2
    · omega
    · rename_i hne
      simp only [Option.some.injEq, Prod.mk.injEq] at e1
      obtain ⟨rfl, _⟩ := e1
      exact (far j' c' d' hne e2).elim
    · rename_i hne _
      simp only [Option.some.injEq, Prod.mk.injEq] at e2
      obtain ⟨rfl, _⟩ := e2
      exact (far j c d hne e1).elim
    · exact hs.inj j j' b c d c' d' e1 e2
  · intro b t hb
    simp only [MM.put] at hb
    split at hb
    · rename_i e
      obtain ⟨rfl, e⟩ := e
      cases hb
      rw [← (hK e).1]
      exact ⟨_, _, hB⟩
    · obtain ⟨a, f, hh⟩ := hs.ty b t hb
      exact hty b a t f hh
  · intro j b c d hj hg
    simp only [MM.put] at hj hg
    split at hj
    · rename_i e
      subst e
      rw [if_pos rfl] at hg
      simp only [Option.some.injEq, Prod.mk.injEq] at hj
      obtain ⟨rfl, rfl, _⟩ := hj
      refine ⟨?_, (hK hg).2⟩
      simp only [MM.put]
      rw [if_pos ⟨trivial, hg⟩]
    · rename_i e
      rw [if_neg e] at hg
      exact ⟨hext.ty _ _ (hs.bty j b c d hj hg).1, (hs.bty j b c d hj hg).2⟩
  · rintro b ⟨j, c, d, hj⟩
    simp only [MM.put] at hj
    split at hj
    · simp only [Option.some.injEq, Prod.mk.injEq] at hj
      obtain ⟨rfl, _⟩ := hj
      rcases hB1 with ⟨b, c, h⟩ | h
      · exact .inl ⟨id, b, c, by rw [hl, h]⟩
      · exact .inr h
    · exact .inl ⟨j, c, d, hj⟩

theorem Sat.write {id B b0 bs g b1 bs1 g1 B1 : Nat} {cs cs' : List C} {arr' : Array Value} {T' : TypeId} {fr' : Nat × Nat} (hs : Sat P M H 0 w) (ho : ob? H id = some (.cells cs g false)) (hl : M.loc id = some (some (B, b0, bs)))
    (hg : M.gen id = g) (hg1 : (g1 = g ∧ B1 = B ∧ b1 = b0 ∧ bs1 = bs) ∨ g < g1)
    (hB : w'.heap[B1]? = some (.cells arr' T' fr')) (hB1 : B1 = B ∨ w.heap.size ≤ B1) (hkeep : ∀ b, b < w.heap.size → b ≠ B → w'.heap[b]? = w.heap[b]?) (hsz : w.heap.size ≤ w'.heap.size)
    (h1 : w'.os = w.os) (h2 : w'.tape = w.tape) (h3 : w'.output = w.output) (harr : arr'.size = bs1) (hbs : b1 + cs'.length ≤ bs1)
    (hr : RelCs M cs' (arr'.toList.drop b1)) (hth : Thawed fr' bs1) (hone : ∀ u ∈ arr'.toList, u.oneCell' = true) (hty : ∀ (b : Nat) a t f, w.heap[b]? = some (.cells a t f) → ∃ a' f', w'.heap[b]? = some (.cells a' t f')) (hK : genK ≤ g1 → T' = u8T ∧ b1 = 0) :
    Sat P (M.put id B1 b1 bs1 g1) (setOb H id (.cells cs' g1 false)) 0 w' ∧
    Fr M (M.put id B1 b1 bs1 g1) w w' :=
  Sat.write0 hs ho hl hg (hg1.imp (fun ⟨a, b, c, d⟩ => ⟨a, by rw [b, c, d]⟩) (fun h => h)) hB (hB1.imp (fun h => ⟨b0, bs, by rw [h]⟩) (fun h => h)) (fun b hb hn => hkeep b hb (fun e => hn b0 bs (by rw [e]))) hsz h1 h2 h3 harr hbs hr hth hone hty hK

/-- The row of an object that may be written. -/
theorem Sat.open (hs : Sat P M H 0 w) {id B b0 bs g : Nat} {cs : List C} (ho : ob? H id = some (.cells cs g false)) (hl : M.loc id = some (some (B, b0, bs))) :
    M.gen id = g ∧ ∃ arr T fr, w.heap[B]? = some (.cells arr T fr) ∧ arr.size = bs ∧ b0 + cs.length ≤ bs ∧ RelCs M cs (arr.toList.drop b0) ∧ Thawed fr bs ∧ ∀ u ∈ arr.toList, u.oneCell' = true := by
  obtain ⟨o', e1, e2⟩ := hs.obj id _ hl
  rw [ho] at e1
  cases e1
  simp only [ObSat] at e2
  obtain ⟨h0, arr, T, fr, h1, h2, h3, h4, h5⟩ := e2
  rcases h5 with h5 | ⟨h5, _⟩
  · exact ⟨h0, arr, T, fr, h1, h2, h3, h4, h5.2.2.1, h5.2.2.2⟩
  · cases h5

theorem spl_drop {vs us : List Value} {a b : Nat} (h : a + b + us.length ≤ vs.length) : (spl vs (a + b) us).drop a = spl (vs.drop a) b us := by
  unfold spl
  have hl : (vs.take (a + b)).length = a + b := by rw [List.length_take]; omega
  rw [List.append_assoc, List.drop_append_of_le_length (by omega), List.append_assoc, List.drop_drop, List.drop_take]
  congr 2
  · congr 1; omega
  · congr 1; omega

theorem RelCs.splice2 {cs new : List C} {vs us : List Value} {off : Nat} (h : RelCs M cs vs) (k : RelCs M new us) (hl : new.length = us.length) (ho : off ≤ cs.length) :
    RelCs M (Mini.splice cs off new) (spl vs off us) := by
  have hlen := h.length
  unfold Mini.splice spl
  rw [← hl]
  refine RelCs.append (RelCs.append (h.take' off) (by simp only [List.length_take]; omega) k) ?_ (h.drop _)
  simp only [List.length_append, List.length_take]; omega

theorem spl_one {vs us : List Value} {off : Nat} (h1 : ∀ u ∈ vs, u.oneCell' = true) (h2 : ∀ u ∈ us, u.oneCell' = true) : ∀ u ∈ spl vs off us, u.oneCell' = true := by
  intro u hu
  simp only [spl, List.mem_append] at hu
  rcases hu with (hu | hu) | hu
  · exact h1 u (List.mem_of_mem_take hu)
  · exact h2 u hu
  · exact h1 u (List.mem_of_mem_drop hu)

theorem splice_len2 {cs new : List C} {off : Nat} (h : off ≤ cs.length) : (splice cs off new).length = max cs.length (off + new.length) := by
  simp only [splice, List.length_append, List.length_take, List.length_drop]; omega

/-- Cells stored into an object that may be written. -/
theorem store_row (hs : Sat P M H 0 w) {id B b0 bs g off : Nat} {cs new : List C} {us : List Value} (ho : ob? H id = some (.cells cs g false)) (hl : M.loc id = some (some (B, b0, bs)))
    (hr : RelCs M new us) (hn : new.length = us.length) (hoff : off ≤ cs.length) (hfit : b0 + off + us.length ≤ bs) (h1 : ∀ u ∈ us, u.oneCell' = true) :
    ∃ w' M', (storeCells ⟨B, b0 + off, none⟩ us).run P w = .ok () w' ∧ Sat P M' (setOb H id (.cells (splice cs off new) g false)) 0 w' ∧ Fr M M' w w' ∧ M'.loc id = M.loc id ∧ M'.gen id = M.gen id := by
  obtain ⟨hg, arr, T, fr, e1, e2, e3, e4, e5, e6⟩ := hs.open ho hl
  obtain ⟨w', arr', r1, r2, r3, r4, r5, r6, r7, r8, r9⟩ := run_storeCells_spl (P := P) us (b0 + off) 0 arr w e1 (by omega) (by rw [e2]; exact e5) h1
  obtain ⟨s1, s2⟩ := Sat.write (w' := w') (B1 := B) (b1 := b0) (bs1 := bs) (g1 := g) (cs' := splice cs off new) hs ho hl hg (.inl ⟨rfl, rfl, rfl, rfl⟩) r2 (.inl rfl) (fun b _ hb => r5 b hb) (by omega) r7 r8 r9 (by omega)
    (by rw [splice_len2 hoff]; omega) (by rw [r3, Nat.add_zero, spl_drop (by simp only [Array.length_toList]; omega)]; exact RelCs.splice2 e4 hr hn hoff) e5 (by rw [r3]; exact spl_one e6 h1) (tyKeep e1 r2 (fun b hb => r5 b hb)) (fun hK => by
      obtain ⟨q1, q2⟩ := hs.bty id B b0 bs hl (by rw [hg]; exact hK)
      obtain ⟨a, f, hh⟩ := hs.ty _ _ q1
      rw [e1] at hh
      cases hh
      exact ⟨rfl, q2⟩)
  exact ⟨w', _, r1, s1, s2, by simp [MM.put, hl], by simp [MM.put, hg]⟩

theorem e_st {m : Nat} {a b : A} {E : Env} {v : V} (hs : Sat P M H 0 w) (hA : ∀ x a, okA k x a = true → RelV M (lk a) (ρ x)) (hok : okOp P k o (.st m a b) = true) (h : stepE E lk H (.st m a b) = some (v, H')) : Eff P M H' w (execOp ρ o) v := by
  cases hop : o.op <;> simp only [okOp, hop] at hok <;> try (cases hok; done)
  rename_i t x y
  simp only [Bool.and_eq_true, beq_iff_eq, decide_eq_true_eq] at hok
  obtain ⟨⟨⟨h1, h2⟩, h3⟩, h4⟩ := hok
  have r1 := hA _ _ h2
  have r2 := hA _ _ h3
  simp only [stepE] at h
  split at h <;> try (cases h; done)
  rename_i id g off new hx hnew
  split at h <;> try (cases h; done)
  rename_i cs g' ho
  split at h <;> try (cases h; done)
  rename_i hc
  obtain ⟨rfl, hc1, hc2⟩ := hc
  simp only [Option.some.injEq, Prod.mk.injEq] at h
  obtain ⟨rfl, rfl⟩ := h
  rw [hx, relV_c] at r1
  obtain ⟨B, b0, bs, fz', hl, hv, _⟩ := live_ptr hs (Sub.refl H) ho r1
  obtain ⟨c1, c2, c3⟩ := relV_cells hnew r2
  obtain ⟨hg, arr, T, fr, e1, e2, e3, e4, e5, e6⟩ := hs.open ho hl
  obtain ⟨w', M', s1, s2, s3, s4, s5⟩ := store_row (P := P) hs ho hl (off := off) c1 (by simpa using c2.symm) (by omega) (by simp only [Array.length_toList]; omega) (fun u hu => c3 u (by simpa using hu))
  refine ⟨.skip, w', M', ?_, .inr ⟨rfl, rfl⟩, s2, s3⟩
  have hsz : (ρ y).cells.size = m := by omega
  simp [execOp, hop, hv, Instr.storeAt, Instr.sureAddr, storeVar, run_sizeOf h1, hsz, s1]

theorem e_cpy {sz : Nat} {a b : A} {E : Env} {v : V} (hs : Sat P M H 0 w) (hA : ∀ x a, okA k x a = true → RelV M (lk a) (ρ x)) (hok : okOp P k o (.cpy sz a b) = true) (h : stepE E lk H (.cpy sz a b) = some (v, H')) : Eff P M H' w (execOp ρ o) v := by
  cases hop : o.op <;> simp only [okOp, hop] at hok <;> try (cases hok; done)
  rename_i c
  simp only [Bool.and_eq_true, decide_eq_true_eq] at hok
  obtain ⟨⟨h1, h2⟩, h3⟩ := hok
  obtain ⟨x, y, hargs, r1, r2⟩ := call2 hA h2
  split at h1 <;> try (cases h1; done)
  rename_i t hc ht
  split at h1 <;> try (cases h1; done)
  rename_i e hu
  simp only [beq_iff_eq] at h1
  simp only [stepE] at h
  split at h <;> try (cases h; done)
  rename_i m new he
  obtain ⟨cells, e1, e2, e3, e4, e5, e6⟩ := elems_rel hs (Sub.refl H) h3 he r2
  have hexec : ∀ v' w', (Builtin.copy_ c.argTypes o.type #[x, y]).run P w = .ok v' w' → (execOp ρ o).run P w = .ok (.value v') w' := by
    intro v' w' hrun
    exact exec_builtin hop hc (fun cs => rfl) (by rw [hargs]; exact hrun)
  split at h <;> try (cases h; done)
  · rename_i hx
    simp only [Option.some.injEq, Prod.mk.injEq] at h
    obtain ⟨rfl, rfl⟩ := h
    rw [hx, relV_nils] at r1
    subst r1
    refine ⟨_, w, M, hexec (.int .i64 0) w ?_, .inl ⟨_, rfl, by rw [relV_int]⟩, hs, Fr.refl M w⟩
    have := e6 0 (Nat.zero_le _)
    simp [Builtin.copy_, ht, run_underlying hu, e5, run_sizeOf h1, this, goInt]
  · rename_i id g off len sz' cap hx
    split at h <;> try (cases h; done)
    rename_i cs g' ho
    split at h <;> try (cases h; done)
    rename_i hcond
    obtain ⟨rfl, rfl, hcond⟩ := hcond
    simp only [Option.some.injEq, Prod.mk.injEq] at h
    obtain ⟨rfl, rfl⟩ := h
    rw [hx, relV_c] at r1
    obtain ⟨ad, cp, rfl, hlc, _, hcase⟩ := live_os hs (Sub.refl H) ho r1
    have hmin : Nat.min m len = min m len := rfl
    have hle : min m len ≤ m := Nat.min_le_left _ _
    have hf := e6 (min m len) hle
    have hmul : min m len * sz' ≤ m * sz' := Nat.mul_le_mul_right _ hle
    have hmul2 : min m len * sz' ≤ len * sz' := Nat.mul_le_mul_right _ (Nat.min_le_right _ _)
    -- nothing to copy
    have nothing : len = 0 → (∃ nx w' M', (execOp ρ o).run P w = .ok nx w' ∧ ((∃ v', nx = .value v' ∧ RelV M' (.c (.d (.int .i64 (Int.ofNat (min m len))))) v') ∨ (nx = .skip ∧ (V.c (.d (.int .i64 (Int.ofNat (min m len))))) = .any)) ∧ w' = w ∧ M' = M) := by
      intro hz
      subst hz
      rw [Nat.min_zero] at hf ⊢
      refine ⟨_, w, M, hexec (.int .i64 0) w ?_, .inl ⟨_, rfl, by rw [relV_int]; rfl⟩, rfl, rfl⟩
      have h0 : Nat.min m 0 = 0 := Nat.min_zero m
      cases ad <;> simp [Builtin.copy_, ht, run_underlying hu, e5, run_sizeOf h1, hf, goInt, storeCells]
    have same : cs.length = 0 ∨ len = 0 → splice cs off (new.take (min m len * sz')) = cs ∨ len ≠ 0 := by
      intro _
      by_cases hz : len = 0
      · left; subst hz; simp [splice]
      · exact .inr hz
    have setSelf : ∀ cs g, ob? H id = some (.cells cs g false) → Sat P M (setOb H id (.cells cs g false)) 0 w := by
      intro cs g ho
      rw [setOb_self ho]; exact hs
    by_cases hz : len = 0
    · obtain ⟨nx, w', M', p1, p2, rfl, rfl⟩ := nothing hz
      refine ⟨nx, w', M', p1, p2, ?_, Fr.refl _ _⟩
      have : splice cs off (new.take (min m len * sz')) = cs := by subst hz; simp [splice]
      rw [this]
      exact setSelf _ _ ho
    · rcases hcase with ⟨_, _, rfl, _⟩ | ⟨B, b0, bs, fz', hl, ha, hbs, _⟩
      · omega
      · have hcp : cp ≠ 0 := by omega
        rcases ha with ha | rfl
        · exact absurd ha hcp
        · have hlm : len * sz' ≤ cp * sz' := Nat.mul_le_mul_right _ hlc
          have htl : (cells.take (min m len * sz')).length = min m len * sz' := by rw [List.length_take]; omega
          have hnl : (new.take (min m len * sz')).length = min m len * sz' := by rw [List.length_take]; omega
          obtain ⟨w', M', s1, s2, s3, s4, s5⟩ := store_row (P := P) hs ho hl (off := off) (e3.take' (min m len * sz')) (by rw [htl, hnl]) (by omega) (by rw [htl]; omega)
            (fun u hu => e4 u (List.mem_of_mem_take hu))
          refine ⟨_, w', M', hexec (.int .i64 (Int.ofNat (min m len))) w' ?_, .inl ⟨_, rfl, by rw [relV_int]⟩, s2, s3⟩
          simp [Builtin.copy_, ht, run_underlying hu, e5, run_sizeOf h1, hmin, hf, goInt, s1]
end
end Mini
end Go.Proofs.YtmcgaakbkgdljaaGreatDoor
