/-
  JournalsCheck: texts of the proof, part 23.
-/
import Derived.Test.YtgjlofpfbhioaaaGreatDoorNX21
import Derived.ProofKit
import Derived.OpenShut
import Derived.Deep.Slices
import Derived.Carry
namespace Go.Proofs.YtgjlofpfbhioaaaGreatDoor
namespace Mini
open Go Go.ChangeShapes Go.WideShapes Go.ChangeAt Go.RowKit Go.Deep
def imW (W : World) : Imm := fun B => W.heap[B]?
theorem relDs_append {I : Imm} : ∀ {xs ys : List D} {vs : List Value}, RelDs I xs vs → RelDs I ys (vs.drop xs.length) → RelDs I (xs ++ ys) vs
  | [], _, _, _, h => by simpa using h
  | x :: xs, ys, [], h, _ => by simp only [RelDs] at h
  | x :: xs, ys, v :: vs, h, k => by
    simp only [RelDs, List.cons_append] at h ⊢
    exact ⟨h.1, relDs_append h.2 (by simpa using k)⟩
theorem relDs_flat {I : Imm} {α : Type} {Q : α → List D} {sz : Nat} {vs : List Value} : ∀ {l : List α} {o : Nat}, (∀ a ∈ l, (Q a).length = sz) → (∀ i a, l[i]? = some a → RelDs I (Q a) (vs.drop (o + i * sz))) → RelDs I (l.flatMap Q) (vs.drop o)
  | [], _, _, _ => RelDs.nil _ _
  | a :: l, o, hl, h => by
    rw [List.flatMap_cons]
    have h0 := h 0 a rfl
    simp only [Nat.zero_mul, Nat.add_zero] at h0
    refine relDs_append h0 ?_
    rw [hl a List.mem_cons_self, List.drop_drop]
    refine relDs_flat (fun x hx => hl x (List.mem_cons_of_mem _ hx)) fun i x hx => ?_
    have := h (i + 1) x (by simpa using hx)
    rwa [Nat.succ_mul, ← Nat.add_assoc, Nat.add_right_comm] at this
section
variable {H : Type} {enc : TypeId × Value → H} {P : Program} {W : World} {base : Nat} {sp : Nat → Bool} {held : Bool}
theorem cells_rel {a : Addr} {n : Nat} {cs : List Value} (h : W.cells? base a n = some cs) (hn : 0 < n) : ∃ arr T fr, a = ⟨a.block, a.off, none⟩ ∧ W.heap[a.block]? = some (.cells arr T fr) ∧ ∀ i, i < n → arr.toList[a.off + i]? = cs[i]? := by
  obtain ⟨hb, hl, hc⟩ := World.cells?_some h
  obtain ⟨b, o, spot⟩ := a
  have h0 := hc 0 hn
  rw [List.getElem?_eq_getElem (by omega)] at h0
  have hspot : spot = none := by simpa [Addr.add] using World.cell?_spot h0
  subst hspot
  have hadd : ∀ i, (⟨b, o, none⟩ : Addr).add i = ⟨b, o + i, none⟩ := fun i => by
    unfold Addr.add
    split
    · rename_i h; subst h; rfl
    · rfl
  cases ho : W.heap[b]? with
  | none => rw [hadd] at h0; simp [World.cell?, ho] at h0
  | some ob =>
    cases ob with
    | cells arr T fr =>
      refine ⟨arr, T, fr, rfl, rfl, fun i hi => ?_⟩
      have := hc i hi
      rw [hadd] at this
      simp [World.cell?, ho] at this
      simpa using this
    | _ => rw [hadd] at h0; simp [World.cell?, ho] at h0
theorem open_sl {t e : TypeId} {sz fuel : Nat} {cs : List Value} {x : DataW H × List MemPlace} {α : Type} {Q : α → List D} {R : α → Prop} (ht : P.underlying t = some (.slice e)) (hsz : P.cellsOf e = sz) (hpos : 0 < sz)
    (h : DataW.trod enc P W base sp held fuel t cs = some x)
    (he : ∀ n cs' y, DataW.trod enc P W base sp held n e cs' = some y → ∃ a, RelDs (imW W) (Q a) cs' ∧ (Q a).length = sz ∧ R a) :
    cs = [.slice none 0 0] ∨ ∃ (v : Value) (l : List α), cs = [v] ∧ (∀ a ∈ l, (Q a).length = sz ∧ R a) ∧ RelD (imW W) (.sl (l.flatMap Q) l.length) v := by
  rcases open_slice ht h with ⟨h0, _⟩ | ⟨a, len, cap, m, n, _, _, rfl, hb, hlc, hm, hmm, _, hx⟩
  · exact .inl h0
  right
  have hlm : len ≤ m := by rw [hmm]; split <;> omega
  rw [hsz] at hx
  have hel : ∀ i, i < len → ∃ (a' : α) (cs' : List Value), W.cells? base (a.add (i * sz)) sz = some cs' ∧ RelDs (imW W) (Q a') cs' ∧ (Q a').length = sz ∧ R a' := fun i hi => by
    obtain ⟨cs', h1, h2⟩ := hx i (by omega)
    obtain ⟨a', h3, h4, h5⟩ := he _ _ _ h2
    exact ⟨a', cs', h1, h3, h4, h5⟩
  rcases Nat.eq_zero_or_pos len with rfl | hlen
  · exact ⟨_, [], rfl, (fun _ h => by cases h), (by simp only [RelD]; exact ⟨_, _, rfl, Nat.zero_le _, .inl rfl⟩)⟩
  have hx0 := hel 0 hlen
  obtain ⟨a0, cs0, h1, _⟩ := hx0
  rw [Nat.zero_mul] at h1
  have ha0 : a.add 0 = a := rfl
  rw [ha0] at h1
  obtain ⟨arr, T, fr, hpl, hblk, _⟩ := cells_rel h1 hpos
  have hch : ∃ l : List α, l.length = len ∧ ∀ i a', l[i]? = some a' → ∃ cs', W.cells? base (a.add (i * sz)) sz = some cs' ∧ RelDs (imW W) (Q a') cs' ∧ (Q a').length = sz ∧ R a' := by
    have : ∀ k, k ≤ len → ∃ l : List α, l.length = k ∧ ∀ i a', l[i]? = some a' → ∃ cs', W.cells? base (a.add (i * sz)) sz = some cs' ∧ RelDs (imW W) (Q a') cs' ∧ (Q a').length = sz ∧ R a' := by
      intro k
      induction k with
      | zero => exact fun _ => ⟨[], rfl, fun i a' h => by simp at h⟩
      | succ k ih =>
        intro hk
        obtain ⟨l, hl, hi⟩ := ih (by omega)
        obtain ⟨a', ha'⟩ := hel k (by omega)
        refine ⟨l ++ [a'], by simp [hl], fun i x hx => ?_⟩
        rcases Nat.lt_or_ge i l.length with hlt | hge
        · rw [List.getElem?_append_left hlt] at hx
          exact hi i x hx
        · rw [List.getElem?_append_right hge] at hx
          have : i = k := by
            rcases Nat.eq_zero_or_pos (i - l.length) with h0 | h0
            · omega
            · rw [List.getElem?_eq_none (by simp; omega)] at hx; cases hx
          subst this
          rw [hl, Nat.sub_self] at hx
          simp at hx
          subst hx
          exact ha'
    exact this len (Nat.le_refl _)
  obtain ⟨l, hl, hi⟩ := hch
  have hmem : ∀ x ∈ l, (Q x).length = sz ∧ R x := fun x hx => by
    obtain ⟨i, hlt, rfl⟩ := List.getElem_of_mem hx
    obtain ⟨_, _, _, h4, h5⟩ := hi i _ (List.getElem?_eq_getElem hlt)
    exact ⟨h4, h5⟩
  refine ⟨_, l, rfl, hmem, ?_⟩
  simp only [RelD]
  refine ⟨_, _, by rw [hl], by rw [hl]; exact hlc, .inr ⟨a.block, a.off, arr, T, fr, by rw [← hpl], hblk, ?_⟩⟩
  refine relDs_flat (fun x hx => (hmem x hx).1) fun i x hx => ?_
  obtain ⟨cs', h1, h2, h3, _⟩ := hi i x hx
  obtain ⟨arr', T', fr', hpl', hblk', hc'⟩ := cells_rel h1 hpos
  have hb' : (a.add (i * sz)).block = a.block := by unfold Addr.add; split <;> rfl
  have ho' : (a.add (i * sz)).off = a.off + i * sz := by
    unfold Addr.add
    split
    · omega
    · rfl
  rw [hb', hblk] at hblk'
  cases hblk'
  rw [ho'] at hc'
  rw [RelDs.iff] at h2 ⊢
  intro j d hd
  obtain ⟨v, hv, hr⟩ := h2 j d hd
  refine ⟨v, ?_, hr⟩
  have hj : j < sz := by
    rw [← h3]; exact (List.getElem?_eq_some_iff.1 hd).1
  rw [List.getElem?_drop, hc' j hj]
  exact hv
end
end Mini
end Go.Proofs.YtgjlofpfbhioaaaGreatDoor
