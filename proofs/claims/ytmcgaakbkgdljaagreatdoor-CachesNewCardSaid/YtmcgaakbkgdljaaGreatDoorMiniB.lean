/-
  How the abstract machine's values and heap stand to the machine's: relations, and how they are kept.
-/
import Derived.Test.YtmcgaakbkgdljaaGreatDoorMiniA
import Derived.Laws.Sem
import Derived.Laws.World
import Derived.Laws.Entries
import Derived.RangeFuncLeaves
import Derived.RangeFuncRecord
import Derived.OrdersIn
namespace Go.Proofs.YtmcgaakbkgdljaaGreatDoor
namespace Mini
open Go

abbrev Imm := Nat → Option Obj

mutual
def RelD (I : Imm) : D → Value → Prop
  | .bool b, v => v = .bool b
  | .int k n, v => v = .int k n
  | .str s, v => ∃ bs, v = .string bs ∧ bs.data.toList.map UInt8.toNat = s
  | .nilp, v => v = .pointer none
  | .ip cs, v => ∃ B o arr T fr, v = .pointer (some ⟨B, o, none⟩) ∧ I B = some (.cells arr T fr) ∧ RelDs I cs (arr.toList.drop o)
  | .nils, v => v = .slice none 0 0
  | .sl cs len, v => ∃ a cap, v = .slice a len cap ∧ len ≤ cap ∧ (cs = [] ∨ ∃ B o arr T fr, a = some ⟨B, o, none⟩ ∧ I B = some (.cells arr T fr) ∧ RelDs I cs (arr.toList.drop o))
  | .fn f first caps, v => ∃ a b, v = .func (.func f) a b ∧ RelDs I first a.toList ∧ a.size = first.length ∧ RelDs I caps b.toList ∧ b.size = caps.length
  | .nilf, v => v = .nilFunc
  | .nili, v => v = .nilIface
  | .ifc, v => ∃ t x, v = .iface t x
  | .ifv t true cs, v => ∃ arr, v = .iface t (.agg arr) ∧ arr.size = cs.length ∧ RelDs I cs arr.toList
  | .ifv t false cs, v => ∃ x, v = .iface t x ∧ cs.length = 1 ∧ RelDs I cs [x]
  | .nilm, v => v = .map none
  | .nilch, v => v = .chan none
def RelDs (I : Imm) : List D → List Value → Prop
  | [], _ => True
  | d :: ds, v :: vs => RelD I d v ∧ RelDs I ds vs
  | _ :: _, [] => False
end

/-- Where the local heap's objects lie: block, first cell, cells of the block (none: a nil slice). -/
structure MM where
  imm : Imm
  loc : Nat → Option (Option (Nat × Nat × Nat))
  gen : Nat → Nat
  n : Nat
  ty : Nat → Option TypeId

def OsAt : Option (Option (Nat × Nat × Nat)) → Option Addr → (off cap sz : Nat) → Prop
  | none, _, _, _, _ => False
  | some none, a, _, cap, _ => a = none ∧ cap = 0
  | some (some (B, b0, bs)), a, off, cap, sz => (cap = 0 ∨ a = some ⟨B, b0 + off, none⟩) ∧ b0 + off + cap * sz ≤ bs

def PtrAt : Option (Option (Nat × Nat × Nat)) → Value → (off : Nat) → Prop
  | some (some (B, b0, _)), v, off => v = .pointer (some ⟨B, b0 + off, none⟩)
  | _, _, _ => False

mutual
def RelC (M : MM) : C → Value → Prop
  | .d x, v => RelD M.imm x v
  | .ptr id g off, v => id < M.n ∧ g ≤ M.gen id ∧ (∃ B x, v = .pointer (some ⟨B, x, none⟩)) ∧ (M.gen id = g → PtrAt (M.loc id) v off)
  | .os id g off len sz cap, v => id < M.n ∧ g ≤ M.gen id ∧ ∃ a c, v = .slice a len c ∧ len ≤ c ∧ (c = 0 ∨ ∃ B x, a = some ⟨B, x, none⟩) ∧ (∀ k, cap = some k → c = k) ∧ (M.gen id = g → OsAt (M.loc id) a off c sz)
  | .fn f first caps, v => ∃ a b, v = .func (.func f) a b ∧ RelCs M first a.toList ∧ a.size = first.length ∧ RelCs M caps b.toList ∧ b.size = caps.length
  | .yld id, v => id < M.n ∧ ∃ l, v = .func (.yield l) #[] #[] ∧ (M.gen id = 0 → ∃ b c, M.loc id = some (some (l, b, c)))
  | .bt id t, v => id < M.n ∧ (v = .pointer none ∨ ∃ B, v = .pointer (some ⟨B, 0, none⟩)) ∧ (M.gen id = 0 → ∃ B, M.loc id = some (some (B, 0, 2)) ∧ M.ty B = some t ∧ (v = .pointer none ∨ v = .pointer (some ⟨B, 0, none⟩)))
  | .mp id, v => id < M.n ∧ ∃ B, v = .map (some B) ∧ (M.gen id = 0 → ∃ b c, M.loc id = some (some (B, b, c)))
  | .ch id, v => id < M.n ∧ ∃ B, v = .chan (some B) ∧ (M.gen id = 0 → ∃ b c, M.loc id = some (some (B, b, c)))
def RelCs (M : MM) : List C → List Value → Prop
  | [], _ => True
  | c :: cs, v :: vs => RelC M c v ∧ RelCs M cs vs
  | _ :: _, [] => False
end

mutual
def RelV (M : MM) : V → Value → Prop
  | .c x, v => RelC M x v
  | .agg cs, v => ∃ arr, v = .agg arr ∧ arr.size = cs.length ∧ RelCs M cs arr.toList
  | .tup vs, v => ∃ arr, v = .tuple arr ∧ arr.size = vs.length ∧ RelVs M vs arr.toList
  | .any, _ => True
def RelVs (M : MM) : List V → List Value → Prop
  | [], _ => True
  | x :: xs, v :: vs => RelV M x v ∧ RelVs M xs vs
  | _ :: _, [] => False
end

/-! ### Lists of related cells -/
theorem RelDs.nil (I : Imm) (vs : List Value) : RelDs I [] vs := by cases vs <;> simp [RelDs]
theorem RelCs.nil (M : MM) (vs : List Value) : RelCs M [] vs := by cases vs <;> simp [RelCs]
theorem RelVs.nil (M : MM) (vs : List Value) : RelVs M [] vs := by cases vs <;> simp [RelVs]

theorem RelDs.iff {I : Imm} : ∀ {ds : List D} {vs : List Value}, RelDs I ds vs ↔ ∀ (j : Nat) (d : D), ds[j]? = some d → ∃ v, vs[j]? = some v ∧ RelD I d v
  | [], vs => by simp [RelDs.nil]
  | d :: ds, [] => by
    simp only [RelDs, false_iff]
    intro h
    obtain ⟨v, hv, _⟩ := h 0 d (by simp)
    simp at hv
  | d :: ds, v :: vs => by
    simp only [RelDs]
    constructor
    · rintro ⟨h1, h2⟩ j x hx
      cases j with
      | zero => simp at hx; subst hx; exact ⟨v, by simp, h1⟩
      | succ j => exact RelDs.iff.1 h2 j x (by simpa using hx)
    · intro h
      refine ⟨?_, RelDs.iff.2 fun j x hx => h (j + 1) x (by simpa using hx)⟩
      obtain ⟨u, hu, hr⟩ := h 0 d (by simp)
      simp at hu; subst hu; exact hr

theorem RelCs.iff {M : MM} : ∀ {ds : List C} {vs : List Value}, RelCs M ds vs ↔ ∀ (j : Nat) (d : C), ds[j]? = some d → ∃ v, vs[j]? = some v ∧ RelC M d v
  | [], vs => by simp [RelCs.nil]
  | d :: ds, [] => by
    simp only [RelCs, false_iff]
    intro h
    obtain ⟨v, hv, _⟩ := h 0 d (by simp)
    simp at hv
  | d :: ds, v :: vs => by
    simp only [RelCs]
    constructor
    · rintro ⟨h1, h2⟩ j x hx
      cases j with
      | zero => simp at hx; subst hx; exact ⟨v, by simp, h1⟩
      | succ j => exact RelCs.iff.1 h2 j x (by simpa using hx)
    · intro h
      refine ⟨?_, RelCs.iff.2 fun j x hx => h (j + 1) x (by simpa using hx)⟩
      obtain ⟨u, hu, hr⟩ := h 0 d (by simp)
      simp at hu; subst hu; exact hr

theorem RelVs.iff {M : MM} : ∀ {ds : List V} {vs : List Value}, RelVs M ds vs ↔ ∀ (j : Nat) (d : V), ds[j]? = some d → ∃ v, vs[j]? = some v ∧ RelV M d v
  | [], vs => by simp [RelVs.nil]
  | d :: ds, [] => by
    simp only [RelVs, false_iff]
    intro h
    obtain ⟨v, hv, _⟩ := h 0 d (by simp)
    simp at hv
  | d :: ds, v :: vs => by
    simp only [RelVs]
    constructor
    · rintro ⟨h1, h2⟩ j x hx
      cases j with
      | zero => simp at hx; subst hx; exact ⟨v, by simp, h1⟩
      | succ j => exact RelVs.iff.1 h2 j x (by simpa using hx)
    · intro h
      refine ⟨?_, RelVs.iff.2 fun j x hx => h (j + 1) x (by simpa using hx)⟩
      obtain ⟨u, hu, hr⟩ := h 0 d (by simp)
      simp at hu; subst hu; exact hr

theorem RelDs.drop {I : Imm} {ds : List D} {vs : List Value} (h : RelDs I ds vs) (k : Nat) : RelDs I (ds.drop k) (vs.drop k) := by
  rw [RelDs.iff] at *
  intro j d hd
  rw [List.getElem?_drop] at *
  exact h _ d hd
theorem RelDs.take {I : Imm} {ds : List D} {vs : List Value} (h : RelDs I ds vs) (k : Nat) : RelDs I (ds.take k) vs := by
  rw [RelDs.iff] at *
  intro j d hd
  rw [List.getElem?_take] at hd
  split at hd
  · exact h _ d hd
  · cases hd
theorem RelDs.take' {I : Imm} {ds : List D} {vs : List Value} (h : RelDs I ds vs) (k : Nat) : RelDs I (ds.take k) (vs.take k) := by
  rw [RelDs.iff] at *
  intro j d hd
  rw [List.getElem?_take] at hd
  split at hd
  · rename_i hj
    obtain ⟨v, hv, hr⟩ := h _ d hd
    exact ⟨v, by rw [List.getElem?_take, if_pos hj]; exact hv, hr⟩
  · cases hd
theorem RelDs.length {I : Imm} {ds : List D} {vs : List Value} (h : RelDs I ds vs) : ds.length ≤ vs.length := by
  rw [RelDs.iff] at h
  rcases Nat.lt_or_ge vs.length ds.length with hlt | hge
  · obtain ⟨v, hv, _⟩ := h vs.length ds[vs.length] (by simp [hlt])
    simp at hv
  · exact hge
theorem RelCs.drop {M : MM} {ds : List C} {vs : List Value} (h : RelCs M ds vs) (k : Nat) : RelCs M (ds.drop k) (vs.drop k) := by
  rw [RelCs.iff] at *
  intro j d hd
  rw [List.getElem?_drop] at *
  exact h _ d hd
theorem RelCs.take {M : MM} {ds : List C} {vs : List Value} (h : RelCs M ds vs) (k : Nat) : RelCs M (ds.take k) vs := by
  rw [RelCs.iff] at *
  intro j d hd
  rw [List.getElem?_take] at hd
  split at hd
  · exact h _ d hd
  · cases hd
theorem RelCs.take' {M : MM} {ds : List C} {vs : List Value} (h : RelCs M ds vs) (k : Nat) : RelCs M (ds.take k) (vs.take k) := by
  rw [RelCs.iff] at *
  intro j d hd
  rw [List.getElem?_take] at hd
  split at hd
  · rename_i hj
    obtain ⟨v, hv, hr⟩ := h _ d hd
    exact ⟨v, by rw [List.getElem?_take, if_pos hj]; exact hv, hr⟩
  · cases hd
theorem RelCs.length {M : MM} {ds : List C} {vs : List Value} (h : RelCs M ds vs) : ds.length ≤ vs.length := by
  rw [RelCs.iff] at h
  rcases Nat.lt_or_ge vs.length ds.length with hlt | hge
  · obtain ⟨v, hv, _⟩ := h vs.length ds[vs.length] (by simp [hlt])
    simp at hv
  · exact hge
theorem RelVs.length {M : MM} {ds : List V} {vs : List Value} (h : RelVs M ds vs) : ds.length ≤ vs.length := by
  rw [RelVs.iff] at h
  rcases Nat.lt_or_ge vs.length ds.length with hlt | hge
  · obtain ⟨v, hv, _⟩ := h vs.length ds[vs.length] (by simp [hlt])
    simp at hv
  · exact hge
/-- Cells one behind the other. -/
theorem RelCs.append {M : MM} {xs ys : List C} {us vs : List Value} (h : RelCs M xs us) (hl : xs.length = us.length) (k : RelCs M ys vs) : RelCs M (xs ++ ys) (us ++ vs) := by
  rw [RelCs.iff] at *
  intro j d hd
  rw [List.getElem?_append] at hd
  split at hd
  · rename_i hj
    obtain ⟨v, hv, hr⟩ := h j d hd
    exact ⟨v, by rw [List.getElem?_append_left (by omega)]; exact hv, hr⟩
  · rename_i hj
    obtain ⟨v, hv, hr⟩ := k _ d hd
    exact ⟨v, by rw [List.getElem?_append_right (by omega), ← hl]; exact hv, hr⟩
theorem RelCs.left {M : MM} {xs : List C} {us vs : List Value} (h : RelCs M xs us) : RelCs M xs (us ++ vs) := by
  rw [RelCs.iff] at *
  intro j d hd
  obtain ⟨v, hv, hr⟩ := h j d hd
  exact ⟨v, by rw [List.getElem?_append_left (by rcases Nat.lt_or_ge j us.length with h' | h'; exact h'; simp [List.getElem?_eq_none h'] at hv)]; exact hv, hr⟩
theorem RelCs.of_d {M : MM} {ds : List D} {vs : List Value} : RelCs M (ds.map .d) vs ↔ RelDs M.imm ds vs := by
  rw [RelCs.iff, RelDs.iff]
  constructor
  · intro h j d hd
    obtain ⟨v, hv, hr⟩ := h j (.d d) (by simp [hd])
    exact ⟨v, hv, by simpa [RelC] using hr⟩
  · intro h j c hc
    rw [List.getElem?_map] at hc
    cases hd : ds[j]? with
    | none => rw [hd] at hc; cases hc
    | some d =>
      rw [hd] at hc; cases hc
      obtain ⟨v, hv, hr⟩ := h j d hd
      exact ⟨v, hv, by simpa [RelC] using hr⟩
theorem RelCs.getElem {M : MM} {xs : List C} {us : List Value} (h : RelCs M xs us) {j : Nat} {c : C} (hj : xs[j]? = some c) : ∃ v, us[j]? = some v ∧ RelC M c v := RelCs.iff.1 h j c hj

/-! ### One cell -/
theorem RelD.oneCell {I : Imm} {d : D} {v : Value} (h : RelD I d v) : v.oneCell' = true := by
  cases d
  case ifv t g cs =>
    cases g <;> simp only [RelD] at h
    · obtain ⟨x, rfl, _⟩ := h; rfl
    · obtain ⟨arr, rfl, _⟩ := h; rfl
  all_goals simp only [RelD] at h
  case str => obtain ⟨bs, rfl, _⟩ := h; rfl
  case ip => obtain ⟨B, o, arr, T, fr, rfl, _⟩ := h; rfl
  case sl => obtain ⟨a, cap, rfl, _⟩ := h; rfl
  case fn => obtain ⟨a, b, rfl, _⟩ := h; rfl
  case ifc => obtain ⟨t, x, rfl⟩ := h; rfl
  all_goals (subst h; rfl)
theorem RelC.oneCell {M : MM} {c : C} {v : Value} (h : RelC M c v) : v.oneCell' = true := by
  cases c <;> simp only [RelC] at h
  case d => exact RelD.oneCell h
  case ptr => obtain ⟨_, _, ⟨B, x, rfl⟩, _⟩ := h; rfl
  case os => obtain ⟨_, _, a, c, rfl, _⟩ := h; rfl
  case fn => obtain ⟨a, b, rfl, _⟩ := h; rfl
  case yld => obtain ⟨_, l, rfl, _⟩ := h; rfl
  case bt => obtain ⟨_, rfl | ⟨B, rfl⟩, _⟩ := h <;> rfl
  case mp => obtain ⟨_, B, rfl, _⟩ := h; rfl
  case ch => obtain ⟨_, B, rfl, _⟩ := h; rfl
theorem RelC.cells {M : MM} {c : C} {v : Value} (h : RelC M c v) : v.cells = #[v] := by
  have := h.oneCell
  cases v <;> simp [Value.oneCell', Value.cells] at *

/-! ### Later states -/
/-- What was known stays known. -/
structure Ext (M M' : MM) : Prop where
  imm : ∀ B o, M.imm B = some o → M'.imm B = some o
  n : M.n ≤ M'.n
  gen : ∀ id, id < M.n → M.gen id ≤ M'.gen id
  loc : ∀ id l, id < M.n → M.gen id = M'.gen id → M.loc id = some l → M'.loc id = some l
  ty : ∀ B t, M.ty B = some t → M'.ty B = some t

theorem Ext.refl (M : MM) : Ext M M := ⟨fun _ _ h => h, Nat.le_refl _, fun _ _ => Nat.le_refl _, fun _ _ _ _ h => h, fun _ _ h => h⟩
theorem Ext.trans {A B D : MM} (h : Ext A B) (k : Ext B D) : Ext A D where
  imm := fun b o hb => k.imm b o (h.imm b o hb)
  n := Nat.le_trans h.n k.n
  ty := fun B t hb => k.ty B t (h.ty B t hb)
  gen := fun id hi => Nat.le_trans (h.gen id hi) (k.gen id (Nat.lt_of_lt_of_le hi h.n))
  loc := fun id l hi hg hl => by
    have h1 := h.gen id hi
    have h2 := k.gen id (Nat.lt_of_lt_of_le hi h.n)
    exact k.loc id l (Nat.lt_of_lt_of_le hi h.n) (by omega) (h.loc id l hi (by omega) hl)

mutual
theorem RelD.mono {I J : Imm} (h : ∀ B o, I B = some o → J B = some o) : ∀ {d : D} {v : Value}, RelD I d v → RelD J d v
  | .bool _, _, r => by simpa only [RelD] using r
  | .int _ _, _, r => by simpa only [RelD] using r
  | .str _, _, r => by simpa only [RelD] using r
  | .nilp, _, r => by simpa only [RelD] using r
  | .nils, _, r => by simpa only [RelD] using r
  | .nilf, _, r => by simpa only [RelD] using r
  | .nili, _, r => by simpa only [RelD] using r
  | .ifc, _, r => by simpa only [RelD] using r
  | .nilm, _, r => by simpa only [RelD] using r
  | .nilch, _, r => by simpa only [RelD] using r
  | .ifv t true cs, _, r => by
    simp only [RelD] at r ⊢
    obtain ⟨arr, rfl, h1, h2⟩ := r
    exact ⟨arr, rfl, h1, RelDs.mono h h2⟩
  | .ifv t false cs, _, r => by
    simp only [RelD] at r ⊢
    obtain ⟨x, rfl, h1, h2⟩ := r
    exact ⟨x, rfl, h1, RelDs.mono h h2⟩
  | .ip cs, _, r => by
    simp only [RelD] at r ⊢
    obtain ⟨B, o, arr, T, fr, rfl, hB, hr⟩ := r
    exact ⟨B, o, arr, T, fr, rfl, h _ _ hB, RelDs.mono h hr⟩
  | .sl cs n, _, r => by
    simp only [RelD] at r ⊢
    obtain ⟨a, cap, rfl, hc, hr⟩ := r
    refine ⟨a, cap, rfl, hc, ?_⟩
    rcases hr with hr | ⟨B, o, arr, T, fr, rfl, hB, hr⟩
    · exact .inl hr
    · exact .inr ⟨B, o, arr, T, fr, rfl, h _ _ hB, RelDs.mono h hr⟩
  | .fn f a b, _, r => by
    simp only [RelD] at r ⊢
    obtain ⟨x, y, rfl, h1, h2, h3, h4⟩ := r
    exact ⟨x, y, rfl, RelDs.mono h h1, h2, RelDs.mono h h3, h4⟩
theorem RelDs.mono {I J : Imm} (h : ∀ B o, I B = some o → J B = some o) : ∀ {ds : List D} {vs : List Value}, RelDs I ds vs → RelDs J ds vs
  | [], _, _ => RelDs.nil _ _
  | _ :: _, [], r => by simp only [RelDs] at r
  | _ :: _, _ :: _, r => by
    simp only [RelDs] at r ⊢
    exact ⟨RelD.mono h r.1, RelDs.mono h r.2⟩
end

mutual
theorem RelC.mono {M M' : MM} (h : Ext M M') : ∀ {c : C} {v : Value}, RelC M c v → RelC M' c v
  | .d _, _, r => by simp only [RelC] at r ⊢; exact RelD.mono h.imm r
  | .ptr id g off, v, r => by
    simp only [RelC] at r ⊢
    obtain ⟨h1, h2, h3, h4⟩ := r
    have hg := h.gen id h1
    refine ⟨Nat.lt_of_lt_of_le h1 h.n, by omega, h3, fun he => ?_⟩
    have he' : M.gen id = g := by omega
    have h5 := h4 he'
    cases hl : M.loc id with
    | none => rw [hl] at h5; exact h5.elim
    | some l => rw [hl] at h5; rw [h.loc id l h1 (by omega) hl]; exact h5
  | .os id g off len sz cap, v, r => by
    simp only [RelC] at r ⊢
    obtain ⟨h1, h2, a, c, rfl, h4, h5, h6, h7⟩ := r
    have hg := h.gen id h1
    refine ⟨Nat.lt_of_lt_of_le h1 h.n, by omega, a, c, rfl, h4, h5, h6, fun he => ?_⟩
    have he' : M.gen id = g := by omega
    have h8 := h7 he'
    cases hl : M.loc id with
    | none => rw [hl] at h8; exact h8.elim
    | some l => rw [hl] at h8; rw [h.loc id l h1 (by omega) hl]; exact h8
  | .fn f a b, _, r => by
    simp only [RelC] at r ⊢
    obtain ⟨x, y, rfl, h1, h2, h3, h4⟩ := r
    exact ⟨x, y, rfl, RelCs.mono h h1, h2, RelCs.mono h h3, h4⟩
  | .yld id, _, r => by
    simp only [RelC] at r ⊢
    obtain ⟨h1, l, rfl, h4⟩ := r
    have hg := h.gen id h1
    refine ⟨Nat.lt_of_lt_of_le h1 h.n, l, rfl, fun he => ?_⟩
    obtain ⟨b, c, hl⟩ := h4 (by omega)
    exact ⟨b, c, h.loc id _ h1 (by omega) hl⟩
  | .bt id t, v, r => by
    simp only [RelC] at r ⊢
    obtain ⟨h1, h3, h4⟩ := r
    have hg := h.gen id h1
    refine ⟨Nat.lt_of_lt_of_le h1 h.n, h3, fun he => ?_⟩
    obtain ⟨B, hl, ht, hv⟩ := h4 (by omega)
    exact ⟨B, h.loc id _ h1 (by omega) hl, h.ty _ _ ht, hv⟩
  | .mp id, v, r => by
    simp only [RelC] at r ⊢
    obtain ⟨h1, B, rfl, h4⟩ := r
    have hg := h.gen id h1
    refine ⟨Nat.lt_of_lt_of_le h1 h.n, B, rfl, fun he => ?_⟩
    obtain ⟨b, c, hl⟩ := h4 (by omega)
    exact ⟨b, c, h.loc id _ h1 (by omega) hl⟩
  | .ch id, v, r => by
    simp only [RelC] at r ⊢
    obtain ⟨h1, B, rfl, h4⟩ := r
    have hg := h.gen id h1
    refine ⟨Nat.lt_of_lt_of_le h1 h.n, B, rfl, fun he => ?_⟩
    obtain ⟨b, c, hl⟩ := h4 (by omega)
    exact ⟨b, c, h.loc id _ h1 (by omega) hl⟩
theorem RelCs.mono {M M' : MM} (h : Ext M M') : ∀ {ds : List C} {vs : List Value}, RelCs M ds vs → RelCs M' ds vs
  | [], _, _ => RelCs.nil _ _
  | _ :: _, [], r => by simp only [RelCs] at r
  | _ :: _, _ :: _, r => by
    simp only [RelCs] at r ⊢
    exact ⟨RelC.mono h r.1, RelCs.mono h r.2⟩
end
end Mini
end Go.Proofs.YtmcgaakbkgdljaaGreatDoor
