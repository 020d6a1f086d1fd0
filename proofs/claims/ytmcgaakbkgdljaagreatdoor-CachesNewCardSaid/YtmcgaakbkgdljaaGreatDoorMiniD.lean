/-
  What holds between the abstract heap and the machine's world, and how steps keep it.
-/
import Derived.Test.YtmcgaakbkgdljaaGreatDoorMiniB
import Derived.Test.YtmcgaakbkgdljaaGreatDoorMiniC
import Derived.MapKept
import Derived.Maps.RangeRun
namespace Go.Proofs.YtmcgaakbkgdljaaGreatDoor
namespace Mini
open Go

mutual
theorem RelV.mono {M M' : MM} (h : Ext M M') : ∀ {x : V} {v : Value}, RelV M x v → RelV M' x v
  | .c _, _, r => by simp only [RelV] at r ⊢; exact RelC.mono h r
  | .agg cs, _, r => by
    simp only [RelV] at r ⊢
    obtain ⟨arr, rfl, h1, h2⟩ := r
    exact ⟨arr, rfl, h1, RelCs.mono h h2⟩
  | .tup vs, _, r => by
    simp only [RelV] at r ⊢
    obtain ⟨arr, rfl, h1, h2⟩ := r
    exact ⟨arr, rfl, h1, RelVs.mono h h2⟩
  | .any, _, _ => by simp only [RelV]
theorem RelVs.mono {M M' : MM} (h : Ext M M') : ∀ {xs : List V} {vs : List Value}, RelVs M xs vs → RelVs M' xs vs
  | [], _, _ => RelVs.nil _ _
  | _ :: _, [], r => by simp only [RelVs] at r
  | _ :: _, _ :: _, r => by
    simp only [RelVs] at r ⊢
    exact ⟨RelV.mono h r.1, RelVs.mono h r.2⟩
end

/-- The block belongs to an object of the local heap. -/
def MM.Owns (M : MM) (B : Nat) : Prop := ∃ id b c, M.loc id = some (some (B, b, c))

def jump : Ex → Option Code
  | .nrm => none
  | .exit i => some (.exit i)
  | .ret => some .ret

def RelRegs (M : MM) (tm : List Nat) (regs : List V) (tmps : Array Value) : Prop :=
  ∀ (j t : Nat), tm[j]? = some t → RelV M (nth regs j) (tmps.getD t undef)

/-- No cell of the row is frozen. -/
def Thawed (fr : Nat × Nat) (n : Nat) : Prop := ∀ i, i < n → ¬ (fr.1 ≤ i ∧ i < fr.2)

def RowSat (M : MM) (w : World) (base : Nat) (cs : List C) (fz : Bool) (B b0 bs : Nat) : Prop :=
  ∃ arr T fr, w.heap[B]? = some (.cells arr T fr) ∧ arr.size = bs ∧ b0 + cs.length ≤ bs ∧ RelCs M cs (arr.toList.drop b0) ∧
    ((base ≤ B ∧ M.imm B = none ∧ Thawed fr bs ∧ ∀ u ∈ arr.toList, u.oneCell' = true) ∨ (fz = true ∧ M.imm B = some (.cells arr T fr)))

def LoopSat (P : Program) (M : MM) (w : World) (base : Nat) (ready : Bool) (pend : Option Ex) (regs : List V) (ps : List Nat) (asg body : I) (B : Nat) : Prop :=
  ∃ L : Loop, w.heap[B]? = some (.loop L) ∧ base ≤ B ∧ M.imm B = none ∧
    (match ready, pend with
      | true, none => L.state = .ready ∧ L.pending = none
      | false, none => L.state = .busy
      | false, some e => L.state = .done ∧ L.pending = jump e ∧ e ≠ .nrm
      | _, _ => False) ∧
    ∃ tm nt, okI P tm nt asg L.assign = true ∧ okI P tm nt body L.body = true ∧ ps.map (fun j => tm[j]?) = L.params.toList.map some ∧
      RelRegs M tm regs L.tmps ∧ once tm = true ∧ L.tmps.size = nt ∧ tm.all (fun t => decide (t < nt)) = true

/-- The entries of a map. -/
def RelM (M : MM) : List (V × V) → List MapEntry → Prop
  | [], [] => True
  | e :: es, x :: xs => RelV M e.1 x.key ∧ RelV M e.2 x.val ∧ (∃ g ks, keyFit g ks e.1 = true) ∧ e.2.cells.isSome = true ∧ RelM M es xs
  | _, _ => False
/-- The machine's entries lie in another order. A map that is ranged over is written no more. -/
def MapSat (M : MM) (w : World) (base : Nat) (es : List (V × V)) (fz : Bool) (B : Nat) : Prop :=
  ∃ xs clock ys, w.heap[B]? = some (.map xs clock) ∧ base ≤ B ∧ ((fz = false ∧ M.imm B = none) ∨ (fz = true ∧ M.imm B = some (.map xs clock))) ∧ MapKept.Stamped xs clock ∧ ys.Perm xs.toList ∧ RelM M es ys
def SitSat (M : MM) (w : World) (base : Nat) (s : List Nat) (pos : Nat) (B : Nat) : Prop :=
  ∃ bs, w.heap[B]? = some (.stringIter bs pos) ∧ base ≤ B ∧ M.imm B = none ∧ bs.data.toList.map UInt8.toNat = s
theorem RelM.mono {M M' : MM} (h : Ext M M') : ∀ {es : List (V × V)} {xs : List MapEntry}, RelM M es xs → RelM M' es xs
  | [], [], _ => by simp only [RelM]
  | [], _ :: _, r => by simp only [RelM] at r
  | _ :: _, [], r => by simp only [RelM] at r
  | _ :: _, _ :: _, r => by
    simp only [RelM] at r ⊢
    exact ⟨RelV.mono h r.1, RelV.mono h r.2.1, r.2.2.1, r.2.2.2.1, RelM.mono h r.2.2.2.2⟩

/-- An iterator over a map that is written no more: what is left, and the entry that came last. -/
def MitSat (M : MM) (w : World) (base : Nat) (left : List (V × V)) (cur : Option (V × V)) (B : Nat) : Prop :=
  ∃ m since seen stp, w.heap[B]? = some (.mapIter m since seen stp) ∧ base ≤ B ∧ M.imm B = none ∧
    ((m = none ∧ left = [] ∧ cur = none) ∨ ∃ bm xs clock ys, m = some bm ∧ M.imm bm = some (.map xs clock) ∧ MapKept.Stamped xs clock ∧ since = clock ∧ clock ≤ stp ∧ ys.Perm (leftOf xs seen).toList ∧ RelM M left ys ∧
      ∀ k v, cur = some (k, v) → ∃ e ∈ xs.toList, seen.back? = some e.born ∧ stp = clock ∧ RelV M k e.key ∧ RelV M v e.val)
/-- A channel that is open, with what lies in its buffer. -/
def ChnSat (M : MM) (w : World) (base : Nat) (cap : Nat) (buf : List D) (B : Nat) : Prop :=
  ∃ arr s r, w.heap[B]? = some (.chan cap arr false s r false) ∧ base ≤ B ∧ M.imm B = none ∧ arr.size = buf.length ∧ RelDs M.imm buf arr.toList
theorem ChnSat.move {M M' : MM} {w w' : World} {base cap : Nat} {buf : List D} {B : Nat} (h : ChnSat M w base cap buf B) (he : Ext M M') (h1 : w'.heap[B]? = w.heap[B]?) (h2 : M.imm B = none → M'.imm B = none) : ChnSat M' w' base cap buf B := by
  obtain ⟨arr, s, r, k1, k2, k3, k4, k5⟩ := h
  exact ⟨arr, s, r, by rw [h1]; exact k1, k2, h2 k3, k4, RelDs.mono he.imm k5⟩
def ObSat (P : Program) (M : MM) (w : World) (base : Nat) (id : Nat) : Ob → Option (Nat × Nat × Nat) → Prop
  | .cells cs g _, none => cs = [] ∧ M.gen id = g
  | .cells cs g fz, some (B, b0, bs) => M.gen id = g ∧ RowSat M w base cs fz B b0 bs
  | .loop ready pend regs ps asg body, some (B, _, _) => M.gen id = 0 ∧ LoopSat P M w base ready pend regs ps asg body B
  | .map es fz, some (B, _, _) => M.gen id = 0 ∧ MapSat M w base es fz B
  | .sit s pos, some (B, b, _) => M.gen id = 0 ∧ b = 0 ∧ SitSat M w base s pos B
  | .mit l c, some (B, b, _) => M.gen id = 0 ∧ b = 0 ∧ MitSat M w base l c B
  | .chn cap buf, some (B, _, _) => M.gen id = 0 ∧ ChnSat M w base cap buf B
  | _, _ => False

structure Sat (P : Program) (M : MM) (H : Heap) (base : Nat) (w : World) : Prop where
  n : M.n = H.length
  out : ∀ id, M.n ≤ id → M.loc id = none ∧ M.gen id = 0
  imm : ∀ B o, M.imm B = some o → w.heap[B]? = some o
  obj : ∀ id l, M.loc id = some l → ∃ o, ob? H id = some o ∧ ObSat P M w base id o l
  idle : ∀ id o, ob? H id = some o → M.loc id = none → o = .dead ∨ M.gen id = 0
  inj : ∀ id id' B b c b' c', M.loc id = some (some (B, b, c)) → M.loc id' = some (some (B, b', c')) → id = id'
  ty : ∀ B t, M.ty B = some t → ∃ arr fr, w.heap[B]? = some (.cells arr t fr)
  bty : ∀ id B b c, M.loc id = some (some (B, b, c)) → genK ≤ M.gen id → M.ty B = some u8T ∧ b = 0

/-- From one state to a later one: nothing but the local heap's own blocks has turned. -/
structure Fr (M M' : MM) (w w' : World) : Prop where
  ext : Ext M M'
  os : w'.os = w.os
  tape : w'.tape = w.tape
  output : w'.output = w.output
  size : w.heap.size ≤ w'.heap.size
  keep : ∀ B : Nat, B < w.heap.size → ¬ M.Owns B → w'.heap[B]? = w.heap[B]?
  own : ∀ B, M'.Owns B → M.Owns B ∨ w.heap.size ≤ B
  imm : ∀ B o, M'.imm B = some o → M.imm B = some o ∨ M.Owns B ∨ w.heap.size ≤ B

theorem Fr.refl (M : MM) (w : World) : Fr M M w w := ⟨Ext.refl M, rfl, rfl, rfl, Nat.le_refl _, fun _ _ _ => rfl, fun _ h => .inl h, fun _ _ h => .inl h⟩
theorem Fr.trans {A B D : MM} {u v w : World} (h : Fr A B u v) (k : Fr B D v w) : Fr A D u w where
  ext := h.ext.trans k.ext
  os := k.os.trans h.os
  tape := k.tape.trans h.tape
  output := k.output.trans h.output
  size := Nat.le_trans h.size k.size
  keep := fun b hb hn => by
    rw [k.keep b (Nat.lt_of_lt_of_le hb h.size) (fun ho => (h.own b ho).elim hn (fun h' => by omega))]
    exact h.keep b hb hn
  own := fun b ho => (k.own b ho).elim (fun h' => h.own b h') (fun h' => .inr (Nat.le_trans h.size h'))
  imm := fun b o ho => by
    rcases k.imm b o ho with h' | h' | h'
    · exact h.imm b o h'
    · exact .inr (h.own b h')
    · exact .inr (.inr (Nat.le_trans h.size h'))

theorem Fr.drew (M : MM) (w : World) : Fr M M w w.drew := ⟨Ext.refl M, rfl, rfl, rfl, Nat.le_refl _, fun _ _ _ => rfl, fun _ h => .inl h, fun _ _ h => .inl h⟩

theorem Sat.block_lt {P : Program} {M : MM} {H : Heap} {base : Nat} {w : World} (h : Sat P M H base w) {B : Nat} (ho : M.Owns B) : B < w.heap.size := by
  obtain ⟨id, b, c, hl⟩ := ho
  obtain ⟨o, _, hs⟩ := h.obj id _ hl
  have key : ∀ x, w.heap[B]? = some x → B < w.heap.size := fun x hx => (Array.getElem?_eq_some_iff.1 hx).1
  cases o <;> simp only [ObSat] at hs
  · obtain ⟨_, arr, T, fr, h1, _⟩ := hs; exact key _ h1
  · obtain ⟨_, L, h1, _⟩ := hs; exact key _ h1
  · obtain ⟨_, xs, cl, _, h1, _⟩ := hs; exact key _ h1
  · obtain ⟨_, _, bs, h1, _⟩ := hs; exact key _ h1
  · obtain ⟨_, _, m, s, se, st, h1, _⟩ := hs; exact key _ h1
  · obtain ⟨_, arr, s, r, h1, _⟩ := hs; exact key _ h1

theorem Sat.id_lt {P : Program} {M : MM} {H : Heap} {base : Nat} {w : World} (h : Sat P M H base w) {id : Nat} {l : Option (Nat × Nat × Nat)} (hl : M.loc id = some l) : id < M.n := by
  rcases Nat.lt_or_ge id M.n with h' | h'
  · exact h'
  · rw [(h.out id h').1] at hl; cases hl

theorem MitSat.move {M M' : MM} {w w' : World} {base : Nat} {l : List (V × V)} {c : Option (V × V)} {B : Nat} (h : MitSat M w base l c B) (he : Ext M M') (h1 : w'.heap[B]? = w.heap[B]?) (h2 : M.imm B = none → M'.imm B = none) : MitSat M' w' base l c B := by
  obtain ⟨m, since, seen, stp, k1, k2, k3, k4⟩ := h
  refine ⟨m, since, seen, stp, by rw [h1]; exact k1, k2, h2 k3, ?_⟩
  rcases k4 with k4 | ⟨bm, xs, clock, ys, q1, q2, q3, q4, q5, q6, q7, q8⟩
  · exact .inl k4
  · refine .inr ⟨bm, xs, clock, ys, q1, he.imm _ _ q2, q3, q4, q5, q6, RelM.mono he q7, fun k v hc => ?_⟩
    obtain ⟨e, z1, z2, z3, z4, z5⟩ := q8 k v hc
    exact ⟨e, z1, z2, z3, RelV.mono he z4, RelV.mono he z5⟩

/-- The relation of an object in a world that has kept its block. -/
theorem ObSat.keep {P : Program} {M M' : MM} {w w' : World} {base : Nat} {id : Nat} {o : Ob} {l : Option (Nat × Nat × Nat)} (he : Ext M M') (hg : M'.gen id = M.gen id)
    (hb : ∀ B b c : Nat, l = some (B, b, c) → w'.heap[B]? = w.heap[B]? ∧ (M.imm B = none → M'.imm B = none))
    (_hd : ∀ B : Nat, w.heap[B]? = some (Obj.deferred (some [])) → w'.heap[B]? = some (Obj.deferred (some [])))
    (h : ObSat P M w base id o l) : ObSat P M' w' base id o l := by
  cases o with
  | dead => cases l <;> simp [ObSat] at h
  | cells cs g fz =>
    cases l with
    | none => simp only [ObSat] at h ⊢; rw [hg]; exact h
    | some l =>
      obtain ⟨B, b0, bs⟩ := l
      obtain ⟨h1, h2⟩ := hb B b0 bs rfl
      simp only [ObSat] at h ⊢
      obtain ⟨hgen, arr, T, fr, h3, h4, h5, h6, h7⟩ := h
      refine ⟨by rw [hg]; exact hgen, arr, T, fr, by rw [h1]; exact h3, h4, h5, RelCs.mono he h6, ?_⟩
      rcases h7 with ⟨h7, h8, h9⟩ | ⟨h7, h8⟩
      · exact .inl ⟨h7, h2 h8, h9⟩
      · exact .inr ⟨h7, he.imm _ _ h8⟩
  | loop ready pend regs ps asg body =>
    cases l with
    | none => simp [ObSat] at h
    | some l =>
      obtain ⟨B, Db, bs⟩ := l
      obtain ⟨h1, h2⟩ := hb B Db bs rfl
      simp only [ObSat] at h ⊢
      obtain ⟨hgen, L, h3, h4, h5, h8, tm, nt, h9, h10, h11, h12, h13⟩ := h
      exact ⟨by rw [hg]; exact hgen, L, by rw [h1]; exact h3, h4, h2 h5, h8, tm, nt, h9, h10, h11, fun j t ht => RelV.mono he (h12 j t ht), h13⟩
  | bld s => cases l <;> simp [ObSat] at h
  | map es fz =>
    cases l with
    | none => simp [ObSat] at h
    | some l =>
      obtain ⟨B, Db, bs⟩ := l
      obtain ⟨h1, h2⟩ := hb B Db bs rfl
      simp only [ObSat] at h ⊢
      obtain ⟨hgen, xs, cl, ys, h3, h4, h5, h6, h7, h8⟩ := h
      exact ⟨by rw [hg]; exact hgen, xs, cl, ys, by rw [h1]; exact h3, h4, h5.imp (fun q => ⟨q.1, h2 q.2⟩) (fun q => ⟨q.1, he.imm _ _ q.2⟩), h6, h7, RelM.mono he h8⟩
  | sit s pos =>
    cases l with
    | none => simp [ObSat] at h
    | some l =>
      obtain ⟨B, Db, bs⟩ := l
      obtain ⟨h1, h2⟩ := hb B Db bs rfl
      simp only [ObSat] at h ⊢
      obtain ⟨hgen, hz, bs', h3, h4, h5, h6⟩ := h
      exact ⟨by rw [hg]; exact hgen, hz, bs', by rw [h1]; exact h3, h4, h2 h5, h6⟩
  | mit l' c =>
    cases l with
    | none => simp [ObSat] at h
    | some l =>
      obtain ⟨B, Db, bs⟩ := l
      obtain ⟨h1, h2⟩ := hb B Db bs rfl
      simp only [ObSat] at h ⊢
      obtain ⟨hgen, hz, h⟩ := h
      exact ⟨by rw [hg]; exact hgen, hz, h.move he h1 h2⟩
  | chn cap buf =>
    cases l with
    | none => simp [ObSat] at h
    | some l =>
      obtain ⟨B, Db, bs⟩ := l
      obtain ⟨h1, h2⟩ := hb B Db bs rfl
      simp only [ObSat] at h ⊢
      exact ⟨by rw [hg]; exact h.1, h.2.move he h1 h2⟩
end Mini
end Go.Proofs.YtmcgaakbkgdljaaGreatDoor
