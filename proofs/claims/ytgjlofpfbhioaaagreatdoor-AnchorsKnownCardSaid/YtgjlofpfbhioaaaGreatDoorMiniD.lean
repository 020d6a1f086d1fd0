/-
  What holds between the abstract heap and the machine's world, and how steps keep it.
-/
import Derived.Test.YtgjlofpfbhioaaaGreatDoorMiniB
import Derived.Test.YtgjlofpfbhioaaaGreatDoorMiniC
namespace Go.Proofs.YtgjlofpfbhioaaaGreatDoor
namespace Mini
open Go

mutual
theorem RelV.mono {M M' : MM} (h : Ext M M') : ∀ {x : V} {v : Value}, RelV M x v → RelV M' x v
  | .c _, _, r => by simp only [RelV] at r ⊢; exact RelC.mono h r
  | .agg cs, _, r => by
    simp only [RelV] at r ⊢
    obtain ⟨arr, rfl, h1, h2⟩ := r
    exact ⟨arr, rfl, h1, RelCs.mono h h2⟩
  | .tup vs, _, r => by
    simp only [RelV] at r ⊢
    obtain ⟨arr, rfl, h1, h2⟩ := r
    exact ⟨arr, rfl, h1, RelVs.mono h h2⟩
  | .any, _, _ => by simp only [RelV]
theorem RelVs.mono {M M' : MM} (h : Ext M M') : ∀ {xs : List V} {vs : List Value}, RelVs M xs vs → RelVs M' xs vs
  | [], _, _ => RelVs.nil _ _
  | _ :: _, [], r => by simp only [RelVs] at r
  | _ :: _, _ :: _, r => by
    simp only [RelVs] at r ⊢
    exact ⟨RelV.mono h r.1, RelVs.mono h r.2⟩
end

/-- The block belongs to an object of the local heap. -/
def MM.Owns (M : MM) (B : Nat) : Prop := ∃ id b c, M.loc id = some (some (B, b, c))

def jump : Ex → Option Code
  | .nrm => none
  | .exit i => some (.exit i)
  | .ret => some .ret

def RelRegs (M : MM) (tm : List Nat) (regs : List V) (tmps : Array Value) : Prop :=
  ∀ (j t : Nat), tm[j]? = some t → RelV M (nth regs j) (tmps.getD t undef)

/-- No cell of the row is frozen. -/
def Thawed (fr : Nat × Nat) (n : Nat) : Prop := ∀ i, i < n → ¬ (fr.1 ≤ i ∧ i < fr.2)

def RowSat (M : MM) (w : World) (base : Nat) (cs : List C) (fz : Bool) (B b0 bs : Nat) : Prop :=
  ∃ arr T fr, w.heap[B]? = some (.cells arr T fr) ∧ arr.size = bs ∧ b0 + cs.length ≤ bs ∧ RelCs M cs (arr.toList.drop b0) ∧
    ((base ≤ B ∧ M.imm B = none ∧ Thawed fr bs ∧ ∀ u ∈ arr.toList, u.oneCell' = true) ∨ (fz = true ∧ M.imm B = some (.cells arr T fr)))

def LoopSat (P : Program) (M : MM) (w : World) (base : Nat) (ready : Bool) (pend : Option Ex) (regs : List V) (ps : List Nat) (asg body : I) (B : Nat) : Prop :=
  ∃ L : Loop, w.heap[B]? = some (.loop L) ∧ base ≤ B ∧ M.imm B = none ∧
    (match ready, pend with
      | true, none => L.state = .ready ∧ L.pending = none
      | false, none => L.state = .busy
      | false, some e => L.state = .done ∧ L.pending = jump e ∧ e ≠ .nrm
      | _, _ => False) ∧
    ∃ tm nt, okI P tm nt asg L.assign = true ∧ okI P tm nt body L.body = true ∧ ps.map (fun j => tm[j]?) = L.params.toList.map some ∧
      RelRegs M tm regs L.tmps ∧ once tm = true ∧ L.tmps.size = nt ∧ tm.all (fun t => decide (t < nt)) = true

def ObSat (P : Program) (M : MM) (w : World) (base : Nat) (id : Nat) : Ob → Option (Nat × Nat × Nat) → Prop
  | .cells cs g _, none => cs = [] ∧ M.gen id = g
  | .cells cs g fz, some (B, b0, bs) => M.gen id = g ∧ RowSat M w base cs fz B b0 bs
  | .loop ready pend regs ps asg body, some (B, _, _) => M.gen id = 0 ∧ LoopSat P M w base ready pend regs ps asg body B
  | _, _ => False

structure Sat (P : Program) (M : MM) (H : Heap) (base : Nat) (w : World) : Prop where
  n : M.n = H.length
  out : ∀ id, M.n ≤ id → M.loc id = none ∧ M.gen id = 0
  imm : ∀ B o, M.imm B = some o → w.heap[B]? = some o
  obj : ∀ id l, M.loc id = some l → ∃ o, ob? H id = some o ∧ ObSat P M w base id o l
  idle : ∀ id o, ob? H id = some o → M.loc id = none → o = .dead ∨ M.gen id = 0
  inj : ∀ id id' B b c b' c', M.loc id = some (some (B, b, c)) → M.loc id' = some (some (B, b', c')) → id = id'
  ty : ∀ B t, M.ty B = some t → ∃ arr fr, w.heap[B]? = some (.cells arr t fr)
  bty : ∀ id B b c, M.loc id = some (some (B, b, c)) → genK ≤ M.gen id → M.ty B = some u8T ∧ b = 0

/-- From one state to a later one: nothing but the local heap's own blocks has turned. -/
structure Fr (M M' : MM) (w w' : World) : Prop where
  ext : Ext M M'
  os : w'.os = w.os
  tape : w'.tape = w.tape
  output : w'.output = w.output
  size : w.heap.size ≤ w'.heap.size
  keep : ∀ B : Nat, B < w.heap.size → ¬ M.Owns B → w'.heap[B]? = w.heap[B]?
  own : ∀ B, M'.Owns B → M.Owns B ∨ w.heap.size ≤ B
  imm : ∀ B o, M'.imm B = some o → M.imm B = some o ∨ M.Owns B ∨ w.heap.size ≤ B

theorem Fr.refl (M : MM) (w : World) : Fr M M w w := ⟨Ext.refl M, rfl, rfl, rfl, Nat.le_refl _, fun _ _ _ => rfl, fun _ h => .inl h, fun _ _ h => .inl h⟩
theorem Fr.trans {A B D : MM} {u v w : World} (h : Fr A B u v) (k : Fr B D v w) : Fr A D u w where
  ext := h.ext.trans k.ext
  os := k.os.trans h.os
  tape := k.tape.trans h.tape
  output := k.output.trans h.output
  size := Nat.le_trans h.size k.size
  keep := fun b hb hn => by
    rw [k.keep b (Nat.lt_of_lt_of_le hb h.size) (fun ho => (h.own b ho).elim hn (fun h' => by omega))]
    exact h.keep b hb hn
  own := fun b ho => (k.own b ho).elim (fun h' => h.own b h') (fun h' => .inr (Nat.le_trans h.size h'))
  imm := fun b o ho => by
    rcases k.imm b o ho with h' | h' | h'
    · exact h.imm b o h'
    · exact .inr (h.own b h')
    · exact .inr (.inr (Nat.le_trans h.size h'))

theorem Fr.drew (M : MM) (w : World) : Fr M M w w.drew := ⟨Ext.refl M, rfl, rfl, rfl, Nat.le_refl _, fun _ _ _ => rfl, fun _ h => .inl h, fun _ _ h => .inl h⟩

theorem Sat.block_lt {P : Program} {M : MM} {H : Heap} {base : Nat} {w : World} (h : Sat P M H base w) {B : Nat} (ho : M.Owns B) : B < w.heap.size := by
  obtain ⟨id, b, c, hl⟩ := ho
  obtain ⟨o, _, hs⟩ := h.obj id _ hl
  have key : ∀ x, w.heap[B]? = some x → B < w.heap.size := fun x hx => (Array.getElem?_eq_some_iff.1 hx).1
  cases o <;> simp only [ObSat] at hs
  · obtain ⟨_, arr, T, fr, h1, _⟩ := hs; exact key _ h1
  · obtain ⟨_, L, h1, _⟩ := hs; exact key _ h1

theorem Sat.id_lt {P : Program} {M : MM} {H : Heap} {base : Nat} {w : World} (h : Sat P M H base w) {id : Nat} {l : Option (Nat × Nat × Nat)} (hl : M.loc id = some l) : id < M.n := by
  rcases Nat.lt_or_ge id M.n with h' | h'
  · exact h'
  · rw [(h.out id h').1] at hl; cases hl

/-- The relation of an object in a world that has kept its block. -/
theorem ObSat.keep {P : Program} {M M' : MM} {w w' : World} {base : Nat} {id : Nat} {o : Ob} {l : Option (Nat × Nat × Nat)} (he : Ext M M') (hg : M'.gen id = M.gen id)
    (hb : ∀ B b c : Nat, l = some (B, b, c) → w'.heap[B]? = w.heap[B]? ∧ (M.imm B = none → M'.imm B = none))
    (_hd : ∀ B : Nat, w.heap[B]? = some (Obj.deferred (some [])) → w'.heap[B]? = some (Obj.deferred (some [])))
    (h : ObSat P M w base id o l) : ObSat P M' w' base id o l := by
  cases o with
  | dead => cases l <;> simp [ObSat] at h
  | cells cs g fz =>
    cases l with
    | none => simp only [ObSat] at h ⊢; rw [hg]; exact h
    | some l =>
      obtain ⟨B, b0, bs⟩ := l
      obtain ⟨h1, h2⟩ := hb B b0 bs rfl
      simp only [ObSat] at h ⊢
      obtain ⟨hgen, arr, T, fr, h3, h4, h5, h6, h7⟩ := h
      refine ⟨by rw [hg]; exact hgen, arr, T, fr, by rw [h1]; exact h3, h4, h5, RelCs.mono he h6, ?_⟩
      rcases h7 with ⟨h7, h8, h9⟩ | ⟨h7, h8⟩
      · exact .inl ⟨h7, h2 h8, h9⟩
      · exact .inr ⟨h7, he.imm _ _ h8⟩
  | loop ready pend regs ps asg body =>
    cases l with
    | none => simp [ObSat] at h
    | some l =>
      obtain ⟨B, Db, bs⟩ := l
      obtain ⟨h1, h2⟩ := hb B Db bs rfl
      simp only [ObSat] at h ⊢
      obtain ⟨hgen, L, h3, h4, h5, h8, tm, nt, h9, h10, h11, h12, h13⟩ := h
      exact ⟨by rw [hg]; exact hgen, L, by rw [h1]; exact h3, h4, h2 h5, h8, tm, nt, h9, h10, h11, fun j t ht => RelV.mono he (h12 j t ht), h13⟩
  | bld s => cases l <;> simp [ObSat] at h
end Mini
end Go.Proofs.YtgjlofpfbhioaaaGreatDoor
