/-
  The operations that lay new objects.
-/
import Derived.Test.YtmcgaakbkgdljaaGreatDoorMiniE6
import Derived.Laws.Append
import Derived.Laws.MakeOwn
import Derived.Laws.IdiomStrings
import Derived.Great.BuildSlice
namespace Go.Proofs.YtmcgaakbkgdljaaGreatDoor
namespace Mini
open Go

/-- From one state to a later one: nothing but the local heap's own blocks, and those of 'X', has turned. -/
structure FrX (X : Nat → Prop) (M M' : MM) (w w' : World) : Prop where
  ext : Ext M M'
  os : w'.os = w.os
  tape : w'.tape = w.tape
  output : w'.output = w.output
  size : w.heap.size ≤ w'.heap.size
  keep : ∀ B : Nat, B < w.heap.size → ¬ M.Owns B → ¬ X B → w'.heap[B]? = w.heap[B]?
  own : ∀ B, M'.Owns B → M.Owns B ∨ w.heap.size ≤ B ∨ X B
  imm : ∀ B o, M'.imm B = some o → M.imm B = some o ∨ M.Owns B ∨ w.heap.size ≤ B

theorem Fr.toX {X : Nat → Prop} {M M' : MM} {w w' : World} (h : Fr M M' w w') : FrX X M M' w w' :=
  ⟨h.ext, h.os, h.tape, h.output, h.size, fun B hb hn _ => h.keep B hb hn, fun B hb => (h.own B hb).imp id .inl, h.imm⟩

theorem Fr.transX {X : Nat → Prop} {A B D : MM} {u v w : World} (h : Fr A B u v) (k : FrX X B D v w) (hX : ∀ b, X b → u.heap.size ≤ b) : Fr A D u w where
  ext := h.ext.trans k.ext
  os := k.os.trans h.os
  tape := k.tape.trans h.tape
  output := k.output.trans h.output
  size := Nat.le_trans h.size k.size
  keep := fun b hb hn => by
    rw [k.keep b (Nat.lt_of_lt_of_le hb h.size) (fun ho => (h.own b ho).elim hn (fun h' => by omega)) (fun hx => by have := hX b hx; omega)]
    exact h.keep b hb hn
  own := fun b ho => by
    rcases k.own b ho with h' | h' | h'
    · exact h.own b h'
    · exact .inr (Nat.le_trans h.size h')
    · exact .inr (hX b h')
  imm := fun b o ho => by
    rcases k.imm b o ho with h' | h' | h'
    · exact h.imm b o h'
    · exact .inr (h.own b h')
    · exact .inr (.inr (Nat.le_trans h.size h'))

/-- One operation, carried out. -/
def Did (P : Program) (M : MM) (H : Heap) (w : World) (x : Sem Next) (v : V) (J X : Nat → Prop) : Prop :=
  ∃ nx w' M', x.run P w = .ok nx w' ∧ ((∃ v', nx = .value v' ∧ RelV M' v v') ∨ (nx = .skip ∧ v = .any)) ∧ Sat P M' H 0 w' ∧ FrX X M M' w w' ∧ ∀ id, ¬ J id → M'.loc id = M.loc id

section
variable {P : Program} {M : MM} {w w' : World} {k : K} {o : Oper} {lk : A → V} {ρ : Operand → Value} {Hi H : Heap}

theorem Quiet.did {x : Sem Next} {v : V} {J X : Nat → Prop} (hs : Sat P M H 0 w) (h : Quiet P M w x v) : Did P M H w x v J X := by
  obtain ⟨v', h1, h2⟩ := h
  exact ⟨_, w, M, h1, .inl ⟨v', rfl, h2⟩, hs, (Fr.refl M w).toX, fun _ _ => rfl⟩

theorem ob?_lt : ∀ {H : Heap} {id : Nat} {o : Ob}, ob? H id = some o → id < H.length
  | [], _, _, h => by simp [ob?] at h
  | _ :: _, 0, _, _ => by simp
  | _ :: H, id + 1, o, h => by simp only [ob?] at h; have := ob?_lt h; simp; omega

theorem ob?_eq : ∀ (H : Heap) (id : Nat), ob? H id = H[id]?
  | [], _ => by simp [ob?]
  | _ :: _, 0 => by simp [ob?]
  | _ :: H, id + 1 => by simp only [ob?, ob?_eq H id]; simp

/-- An object's place becomes known: its block is new, or was nobody's. -/
def MM.lay (M : MM) (id B n : Nat) : MM := { M with loc := fun j => if j = id then some (some (B, 0, n)) else M.loc j }

theorem MM.lay_ext {id B n : Nat} (hl : M.loc id = none) : Ext M (M.lay id B n) :=
  ⟨fun _ _ h => h, Nat.le_refl _, fun _ _ => Nat.le_refl _, fun j l _ _ hj => by
    simp only [MM.lay]
    rw [if_neg (fun e => by subst e; rw [hl] at hj; cases hj)]
    exact hj, fun _ _ h => h⟩

theorem Sat.lay {cs : List C} {fz : Bool} {id B : Nat} {arr : Array Value} {T : TypeId} {fr : Nat × Nat} (hs : Sat P M H 0 w) (ho : ob? H id = some (.cells cs 0 fz)) (hl : M.loc id = none)
    (hB : w'.heap[B]? = some (.cells arr T fr)) (hsz : w.heap.size ≤ w'.heap.size) (hkeep : ∀ b, b < w.heap.size → b ≠ B → w'.heap[b]? = w.heap[b]?) (hown : ¬ M.Owns B) (himm : M.imm B = none)
    (h1 : w'.os = w.os) (h2 : w'.tape = w.tape) (h3 : w'.output = w.output) (hnew : B < w.heap.size → ∃ a T f, w.heap[B]? = some (.cells a T f))
    (hr : RelCs (M.lay id B arr.size) cs arr.toList) (hth : Thawed fr arr.size) (hone : ∀ u ∈ arr.toList, u.oneCell' = true) (hty : ∀ a t f, w.heap[B]? = some (.cells a t f) → T = t) :
    Sat P (M.lay id B arr.size) H 0 w' ∧ FrX (· = B) M (M.lay id B arr.size) w w' := by
  have hext := MM.lay_ext (M := M) (id := id) (B := B) (n := arr.size) hl
  have hid : id < H.length := ob?_lt ho
  have hg0 : M.gen id = 0 := (hs.idle id _ ho hl).resolve_left (by intro h; cases h)
  refine ⟨⟨hs.n, ?_, ?_, ?_, ?_, ?_, ?_, ?_⟩, ⟨hext, h1, h2, h3, hsz, fun b hb _ hx => hkeep b hb hx, ?_, fun b o h => .inl h⟩⟩
  · intro j hj
    have := hs.out j hj
    refine ⟨?_, this.2⟩
    simp only [MM.lay]
    rw [if_neg (by have := hs.n; simp only [MM.lay] at hj; omega)]
    exact this.1
  · intro b o hb
    have hb' := hs.imm b o hb
    have hne : b ≠ B := fun e => by subst e; simp only [MM.lay] at hb; rw [himm] at hb; cases hb
    rw [hkeep b (Array.getElem?_eq_some_iff.1 hb').1 hne]
    exact hb'
  · intro j l hj
    simp only [MM.lay] at hj
    split at hj
    · rename_i e
      subst e
      simp only [Option.some.injEq] at hj
      subst hj
      refine ⟨_, ho, ?_⟩
      simp only [ObSat]
      refine ⟨hg0, arr, T, fr, hB, rfl, ?_, by simpa using hr, .inl ⟨Nat.zero_le _, himm, hth, hone⟩⟩
      have := hr.length
      simpa using this
    · obtain ⟨o', ho', hos⟩ := hs.obj j l hj
      refine ⟨o', ho', hos.keep hext rfl ?_ ?_⟩
      · intro b c d hlb
        subst hlb
        have hob : M.Owns b := ⟨j, c, d, hj⟩
        exact ⟨hkeep b (hs.block_lt hob) (fun e => hown (e ▸ hob)), fun h => h⟩
      · intro b hb
        rcases Nat.lt_or_ge b w.heap.size with hlt | hge
        · have hne : b ≠ B := fun e => by
            subst e
            obtain ⟨a, T', f, hh⟩ := hnew hlt
            rw [hh] at hb
            cases hb
          rw [hkeep b hlt hne]
          exact hb
        · simp [Array.getElem?_eq_none hge] at hb
  · intro j o' ho' hj
    simp only [MM.lay] at hj
    split at hj
    · cases hj
    · exact hs.idle j o' ho' hj
  · intro j j' b c d c' d' e1 e2
    simp only [MM.lay] at e1 e2
    split at e1 <;> split at e2
    · omega
    · simp only [Option.some.injEq, Prod.mk.injEq] at e1
      obtain ⟨rfl, _⟩ := e1
      exact absurd ⟨j', c', d', e2⟩ hown
    · simp only [Option.some.injEq, Prod.mk.injEq] at e2
      obtain ⟨rfl, _⟩ := e2
      exact absurd ⟨j, c, d, e1⟩ hown
    · exact hs.inj j j' b c d c' d' e1 e2
  · intro b t hb
    obtain ⟨a, f, hh⟩ := hs.ty b t hb
    by_cases e : b = B
    · subst e
      rw [hty _ _ _ hh] at hB
      exact ⟨_, _, hB⟩
    · exact ⟨a, f, by rw [hkeep b (Array.getElem?_eq_some_iff.1 hh).1 e]; exact hh⟩
  · intro j b c d hj hg
    simp only [MM.lay] at hj hg
    split at hj
    · rename_i e
      subst e
      rw [hg0] at hg
      exact absurd hg (by decide)
    · exact hs.bty j b c d hj hg
  · rintro b ⟨j, c, d, hj⟩
    simp only [MM.lay] at hj
    split at hj
    · simp only [Option.some.injEq, Prod.mk.injEq] at hj
      exact .inr (.inr hj.1.symm)
    · exact .inl ⟨j, c, d, hj⟩

theorem Sat.imm_lt (hs : Sat P M H 0 w) {B : Nat} (h : w.heap.size ≤ B) : M.imm B = none := by
  cases hb : M.imm B with
  | none => rfl
  | some o => have := hs.imm B o hb; simp [Array.getElem?_eq_none h] at this

/-- A new block. -/
theorem Sat.alloc {cs : List C} {fz : Bool} {id : Nat} {arr : Array Value} {T : TypeId} {fr : Nat × Nat} (hs : Sat P M H 0 w) (ho : ob? H id = some (.cells cs 0 fz)) (hl : M.loc id = none)
    (hw : w'.heap = w.heap.push (.cells arr T fr)) (h1 : w'.os = w.os) (h2 : w'.tape = w.tape) (h3 : w'.output = w.output)
    (hr : RelCs M cs arr.toList) (hth : Thawed fr arr.size) (hone : ∀ u ∈ arr.toList, u.oneCell' = true) {X : Nat → Prop} :
    Sat P (M.lay id w.heap.size arr.size) H 0 w' ∧ FrX X M (M.lay id w.heap.size arr.size) w w' := by
  have key := Sat.lay (w' := w') (B := w.heap.size) (T := T) (fr := fr) hs ho hl (by rw [hw]; simp) (by rw [hw]; simp) (fun b hb _ => by rw [hw, Array.getElem?_push, if_neg (Nat.ne_of_lt hb)])
    (fun h => Nat.lt_irrefl _ (hs.block_lt h)) (hs.imm_lt (Nat.le_refl _)) h1 h2 h3 (fun h => absurd h (Nat.lt_irrefl _)) (RelCs.mono (MM.lay_ext hl) hr) hth hone (fun a t f h => by simp at h)
  refine ⟨key.1, ⟨key.2.ext, h1, h2, h3, key.2.size, fun b hb hn _ => key.2.keep b hb hn (Nat.ne_of_lt hb), fun b hb => ?_, key.2.imm⟩⟩
  rcases key.2.own b hb with h | h | h
  · exact .inl h
  · exact .inr (.inl h)
  · exact .inr (.inl (by rw [h]; exact Nat.le_refl _))

/-- The object that an operation is about to lay. -/
structure New (M : MM) (H Hi : Heap) (cs : List C) : Prop where
  ob : ∃ fz, ob? H Hi.length = some (.cells cs 0 fz)
  loc : M.loc Hi.length = none

theorem New.lt {cs : List C} (hs : Sat P M H 0 w) (h : New M H Hi cs) : Hi.length < M.n := by
  obtain ⟨fz, ho⟩ := h.ob
  rw [hs.n]; exact ob?_lt ho
theorem New.gen {cs : List C} (hs : Sat P M H 0 w) (h : New M H Hi cs) : M.gen Hi.length = 0 := by
  obtain ⟨fz, ho⟩ := h.ob
  exact (hs.idle _ _ ho h.loc).resolve_left (by intro h; cases h)

theorem thawed0 (n : Nat) : Thawed (0, 0) n := fun i _ h => by simp at h

/-- A pointer to the new object. -/
theorem New.ptr {cs : List C} {arr : Array Value} (hs : Sat P M H 0 w) (h : New M H Hi cs) {B : Nat} : RelV (M.lay Hi.length B arr.size) (.c (.ptr Hi.length 0 0)) (.pointer (some ⟨B, 0, none⟩)) := by
  rw [relV_c]
  simp only [RelC]
  exact ⟨show Hi.length < M.n from h.lt hs, Nat.zero_le _, ⟨_, _, rfl⟩, fun _ => by simp [MM.lay, PtrAt]⟩
/-- A slice over the new object. -/
theorem New.slice {cs : List C} {arr : Array Value} {len c sz : Nat} {cap : Option Nat} (hs : Sat P M H 0 w) (h : New M H Hi cs) (hlc : len ≤ c) (hc : c * sz ≤ arr.size) (hcap : ∀ k, cap = some k → c = k) {B : Nat} :
    RelV (M.lay Hi.length B arr.size) (.c (.os Hi.length 0 0 len sz cap)) (.slice (some ⟨B, 0, none⟩) len c) := by
  rw [relV_c]
  simp only [RelC]
  exact ⟨show Hi.length < M.n from h.lt hs, Nat.zero_le _, _, _, rfl, hlc, .inr ⟨_, _, rfl⟩, hcap, fun _ => by simp [MM.lay, OsAt]; omega⟩

theorem did_alloc {x : Sem Next} {v : V} {v' : Value} {cs : List C} {arr : Array Value} {T : TypeId} {fr : Nat × Nat} {X : Nat → Prop} (hs : Sat P M H 0 w) (hn : New M H Hi cs)
    (hrun : x.run P w = .ok (.value v') w') (hw : w'.heap = w.heap.push (.cells arr T fr)) (h1 : w'.os = w.os) (h2 : w'.tape = w.tape) (h3 : w'.output = w.output)
    (hr : RelCs M cs arr.toList) (hth : Thawed fr arr.size) (hone : ∀ u ∈ arr.toList, u.oneCell' = true)
    (hv : RelV (M.lay Hi.length w.heap.size arr.size) v v') : Did P M H w x v (· = Hi.length) X := by
  obtain ⟨fz, ho⟩ := hn.ob
  obtain ⟨a, b⟩ := Sat.alloc (X := X) hs ho hn.loc hw h1 h2 h3 hr hth hone
  exact ⟨_, _, _, hrun, .inl ⟨v', rfl, hv⟩, a, b, fun id hid => by simp only [MM.lay]; rw [if_neg hid]⟩

theorem run_newVar {t : TypeId} {v : Value} : (newVar t v).run P w = .ok ⟨w.heap.size, 0, none⟩ (w.alloc (.cells v.cells t)) := by simp [newVar, newRow]

theorem a_new {zero : List D} {v : V} {n : List Ob} {X : Nat → Prop} (hs : Sat P M H 0 w) (hok : okOp P k o (.new zero) = true) (h : stepP lk Hi (.new zero) = some (v, n))
    (hn : ∀ cs g fz, n = [.cells cs g fz] → New M H Hi cs) : Did P M H w (execOp ρ o) v (· = Hi.length) X := by
  cases hop : o.op <;> simp only [okOp, hop] at hok <;> try (cases hok; done)
  rename_i t
  split at hok <;> try (cases hok; done)
  rename_i vs hz
  obtain ⟨it, z, e1, e2, e3⟩ := zero?_spec hz
  obtain ⟨z1, z2⟩ := okDs_rel (I := M.imm) hok
  simp only [stepP, Option.some.injEq, Prod.mk.injEq] at h
  obtain ⟨rfl, rfl⟩ := h
  have hnew := hn _ _ _ rfl
  have hr : RelCs M (zero.map .d) z.cells.toList := by rw [e3]; exact RelCs.of_d.2 z1
  refine did_alloc (v' := .pointer (some ⟨w.heap.size, 0, none⟩)) (w' := w.alloc (.cells z.cells t)) (arr := z.cells) hs hnew ?_ rfl rfl rfl rfl hr (thawed0 _) (relCs_one hr (by rw [e3, z2]; simp)) (hnew.ptr hs)
  simp [execOp, hop, Instr.alloc, zeroValue, typeInfo, e1, e2, run_newVar]

/-- What a block is known to hold. -/
def MM.tyAt (M : MM) (B : Nat) (t : TypeId) : MM := { M with ty := fun b => if b = B then some t else M.ty b }

theorem a_newb {t0 : Nat} {v : V} {n : List Ob} {X : Nat → Prop} (hs : Sat P M H 0 w) (hok : okOp P k o (.newb t0) = true) (h : stepP lk Hi (.newb t0) = some (v, n))
    (hn : ∀ cs g fz, n = [.cells cs g fz] → New M H Hi cs) : Did P M H w (execOp ρ o) v (· = Hi.length) X := by
  cases hop : o.op <;> simp only [okOp, hop] at hok <;> try (cases hok; done)
  rename_i t
  rw [Bool.and_eq_true, beq_iff_eq] at hok
  obtain ⟨rfl, hok⟩ := hok
  split at hok <;> try (cases hok; done)
  rename_i hz
  obtain ⟨it, z, e1, e2, e3⟩ := zero?_spec hz
  simp only [stepP, Option.some.injEq, Prod.mk.injEq] at h
  obtain ⟨rfl, rfl⟩ := h
  have hnew := hn _ _ _ rfl
  have hsz : z.cells.size = 2 := by rw [← Array.length_toList, e3]; rfl
  -- the block, laid
  let w1 := w.alloc (.cells z.cells t)
  have hkeep : ∀ b : Nat, b < w.heap.size → w1.heap[b]? = w.heap[b]? := fun b hb => by
    show (w.heap.push _)[b]? = _
    rw [Array.getElem?_push, if_neg (Nat.ne_of_lt hb)]
  have hat : w1.heap[w.heap.size]? = some (.cells z.cells t) := by
    show (w.heap.push _)[w.heap.size]? = _
    simp
  -- what is known of its type comes first
  have hext : Ext M (M.tyAt w.heap.size t) := ⟨fun _ _ h => h, Nat.le_refl _, fun _ _ => Nat.le_refl _, fun _ _ _ _ h => h, fun B t' h => by
    simp only [MM.tyAt]
    rw [if_neg (fun e => by subst e; obtain ⟨a, f, hh⟩ := hs.ty _ _ h; simp at hh)]
    exact h⟩
  have hs1 : Sat P (M.tyAt w.heap.size t) H 0 w1 := by
    refine ⟨hs.n, hs.out, fun b o hb => ?_, fun id l hl => ?_, hs.idle, hs.inj, fun b t' hb => ?_, fun id B b c hl hg => ⟨hext.ty _ _ (hs.bty id B b c hl hg).1, (hs.bty id B b c hl hg).2⟩⟩
    · have := hs.imm b o hb
      rw [hkeep b (Array.getElem?_eq_some_iff.1 this).1]; exact this
    · obtain ⟨o, ho, hos⟩ := hs.obj id l hl
      refine ⟨o, ho, hos.keep hext rfl (fun B b c e => ?_) (fun B hB => by rw [hkeep B (Array.getElem?_eq_some_iff.1 hB).1]; exact hB)⟩
      subst e
      exact ⟨hkeep B (hs.block_lt ⟨id, b, c, hl⟩), fun x => x⟩
    · simp only [MM.tyAt] at hb
      split at hb
      · rename_i e
        subst e
        cases hb
        exact ⟨_, _, hat⟩
      · obtain ⟨a, f, hh⟩ := hs.ty b t' hb
        exact ⟨a, f, by rw [hkeep b (Array.getElem?_eq_some_iff.1 hh).1]; exact hh⟩
  have hnew1 : New (M.tyAt w.heap.size t) H Hi [.bt Hi.length t, .d .nils] := ⟨hnew.ob, hnew.loc⟩
  obtain ⟨fz, ho⟩ := hnew.ob
  have hidn := hnew.lt hs
  have hrel : RelCs ((M.tyAt w.heap.size t).lay Hi.length w.heap.size z.cells.size) [.bt Hi.length t, .d .nils] z.cells.toList := by
    rw [e3]
    simp only [RelCs, RelC, RelD, and_true]
    refine ⟨hidn, .inl trivial, fun _ => ⟨w.heap.size, ?_, ?_, .inl trivial⟩⟩
    · simp [MM.lay, hsz]
    · simp [MM.lay, MM.tyAt]
  obtain ⟨p1, p2⟩ := Sat.lay (w' := w1) (B := w.heap.size) (arr := z.cells) (T := t) (fr := (0, 0)) hs1 ho hnew.loc hat (Nat.le_refl _) (fun b _ _ => rfl) (fun hown => Nat.lt_irrefl _ (hs.block_lt hown)) (hs.imm_lt (Nat.le_refl _)) rfl rfl rfl (fun _ => ⟨_, _, _, hat⟩) hrel (thawed0 _) (by
    rw [e3]
    intro u hu
    simp only [List.mem_cons, List.mem_nil_iff, or_false] at hu
    rcases hu with rfl | rfl <;> rfl) (fun a t' f h => by rw [hat] at h; cases h; rfl)
  refine ⟨.value (.pointer (some ⟨w.heap.size, 0, none⟩)), w1, _, ?_, .inl ⟨_, rfl, hnew1.ptr hs1⟩, p1, ⟨hext.trans p2.ext, rfl, rfl, rfl, ?_, fun b hb _ _ => hkeep b hb, fun b hb => ?_, fun b o hb => .inl hb⟩, fun id hid => ?_⟩
  · simp [execOp, hop, Instr.alloc, zeroValue, typeInfo, e1, e2, run_newVar, w1]
  · show _ ≤ (w.heap.push _).size; simp
  · obtain ⟨id, c, d, hid⟩ := hb
    simp only [MM.lay] at hid
    split at hid
    · simp only [Option.some.injEq, Prod.mk.injEq] at hid
      exact .inr (.inl (by omega))
    · exact .inl ⟨id, c, d, hid⟩
  · simp only [MM.lay]
    rw [if_neg hid]
    rfl

theorem a_box {a : A} {v : V} {n : List Ob} {X : Nat → Prop} (hs : Sat P M H 0 w) (hA : ∀ x a, okA k x a = true → RelV M (lk a) (ρ x)) (hok : okOp P k o (.box a) = true) (h : stepP lk Hi (.box a) = some (v, n))
    (hn : ∀ cs g fz, n = [.cells cs g fz] → New M H Hi cs) : Did P M H w (execOp ρ o) v (· = Hi.length) X := by
  cases hop : o.op <;> simp only [okOp, hop] at hok <;> try (cases hok; done)
  rename_i t x
  have r1 := hA _ _ hok
  simp only [stepP] at h
  split at h <;> try (cases h; done)
  rename_i cs hcs
  simp only [Option.some.injEq, Prod.mk.injEq] at h
  obtain ⟨rfl, rfl⟩ := h
  have hnew := hn _ _ _ rfl
  obtain ⟨c1, c2, c3⟩ := relV_cells hcs r1
  refine did_alloc (v' := .pointer (some ⟨w.heap.size, 0, none⟩)) (w' := w.alloc (.cells (ρ x).cells t)) (arr := (ρ x).cells) hs hnew ?_ rfl rfl rfl rfl c1 (thawed0 _) (fun u hu => c3 u (by simpa using hu)) (hnew.ptr hs)
  simp [execOp, hop, Instr.box, run_newVar]

theorem rep_length (zero : List C) : ∀ l, (rep zero l).length = l * zero.length
  | 0 => by simp [rep]
  | l + 1 => by simp only [rep, List.length_append, rep_length zero l]; rw [Nat.add_mul]; omega
theorem rep_get (zero : List C) : ∀ (l j : Nat), j < l * zero.length → (rep zero l)[j]? = zero[j % zero.length]?
  | 0, j, h => by simp at h
  | l + 1, j, h => by
    simp only [rep]
    by_cases hj : j < zero.length
    · rw [List.getElem?_append_left hj, Nat.mod_eq_of_lt hj]
    · rw [List.getElem?_append_right (by omega), rep_get zero l _ (by rw [Nat.add_mul] at h; omega)]
      congr 1
      exact (Nat.mod_eq_sub_mod (by omega)).symm

/-- Zero cells, over and over. -/
theorem rep_rel {zero : List C} {z : Array Value} {l n : Nat} (hr : RelCs M zero z.toList) (hz : z.size = zero.length) (hn : l * zero.length ≤ n) :
    RelCs M (rep zero l) ((Array.range n).map (z[· % z.size]!)).toList := by
  rw [RelCs.iff]
  intro j d hd
  have hj : j < l * zero.length := by
    rcases Nat.lt_or_ge j (l * zero.length) with h | h
    · exact h
    · rw [List.getElem?_eq_none (by rw [rep_length]; exact h)] at hd; cases hd
  rw [rep_get zero l j hj] at hd
  obtain ⟨v, hv, hrv⟩ := RelCs.iff.1 hr _ d hd
  refine ⟨v, ?_, hrv⟩
  have hjn : j < n := by omega
  rw [← hz] at hv
  have hlt : j % z.size < z.size := by
    rcases Nat.eq_zero_or_pos z.size with h | h
    · rw [← hz, h] at hj; simp at hj
    · exact Nat.mod_lt _ h
  simp only [Array.toList_map, Array.toList_range, List.getElem?_map, List.getElem?_range hjn, Option.map_some, Option.some.injEq]
  rw [Array.getElem!_eq_getD, Array.getD_eq_getD_getElem?]
  rw [Array.getElem?_toList] at hv
  rw [hv]
  rfl

theorem made_one {z : Array Value} {n : Nat} (hz : ∀ u ∈ z.toList, u.oneCell' = true) (hp : 0 < z.size) : ∀ u ∈ ((Array.range n).map (z[· % z.size]!)).toList, u.oneCell' = true := by
  intro u hu
  simp only [Array.toList_map, Array.toList_range, List.mem_map, List.mem_range] at hu
  obtain ⟨j, _, rfl⟩ := hu
  have hlt := Nat.mod_lt j hp
  rw [getElem!_pos z _ hlt]
  exact hz _ (by simp)

theorem fill_one {place : Nat → Option (Nat × Nat)} : ∀ (ps : List (Nat × Value)) (cells out : Array Value), (∀ x ∈ ps, ∀ u ∈ x.2.cells, u.oneCell' = true) → (∀ u ∈ cells.toList, u.oneCell' = true) →
    Instr.fill place cells ps = some out → ∀ u ∈ out.toList, u.oneCell' = true
  | [], cells, out, _, hc, h => by simp only [Instr.fill, Option.some.injEq] at h; subst h; exact hc
  | (i, x) :: ps, cells, out, hp, hc, h => by
    simp only [Instr.fill] at h
    split at h <;> try (cases h; done)
    rename_i off size _
    split at h <;> try (cases h; done)
    rename_i hb
    simp only [Bool.or_eq_true, decide_eq_true_eq, not_or] at hb
    refine fill_one ps _ out (fun x hx => hp x (by simp [hx])) ?_ h
    have hfold := foldl_set off x.cells.toList 0 cells (by simp only [Array.length_toList]; omega)
    have e : (x.cells.zipIdx.foldl (fun cs y => cs.setIfInBounds (off + y.2) y.1) cells) = ((x.cells.toList.zipIdx 0).foldl (fun cs y => cs.setIfInBounds (off + y.2) y.1) cells) := by
      rw [← Array.foldl_toList, Array.toList_zipIdx]
    intro u hu
    rw [e, hfold] at hu
    simp only [spl, List.mem_append] at hu
    rcases hu with (hu | hu) | hu
    · exact hc u (List.mem_of_mem_take hu)
    · exact hp (i, x) (by simp) u (by simpa using hu)
    · exact hc u (List.mem_of_mem_drop hu)

theorem a_bsl {len sz : Nat} {zero : List D} {parts : List (Nat × Nat × A)} {v : V} {n : List Ob} {X : Nat → Prop} (hs : Sat P M H 0 w) (hA : ∀ x a, okA k x a = true → RelV M (lk a) (ρ x)) (hok : okOp P k o (.bsl len sz zero parts) = true)
    (h : stepP lk Hi (.bsl len sz zero parts) = some (v, n)) (hn : ∀ cs g fz, n = [.cells cs g fz] → New M H Hi cs) : Did P M H w (execOp ρ o) v (· = Hi.length) X := by
  cases hop : o.op <;> simp only [okOp, hop] at hok <;> try (cases hok; done)
  rename_i t len' ps
  simp only [Bool.and_eq_true, decide_eq_true_eq, beq_iff_eq] at hok
  obtain ⟨⟨⟨⟨h1, rfl⟩, h2⟩, h3⟩, h4⟩ := hok
  split at h1 <;> try (cases h1; done)
  rename_i e hu
  simp only [Bool.and_eq_true, beq_iff_eq] at h1
  obtain ⟨h5, h6⟩ := h1
  split at h6 <;> try (cases h6; done)
  rename_i vs hz
  simp only [Bool.and_eq_true, beq_iff_eq] at h6
  obtain ⟨h6, h7⟩ := h6
  obtain ⟨it, z, e1, e2, e3⟩ := zero?_spec hz
  obtain ⟨it', e1', rfl⟩ := size?_spec h5
  rw [e1] at e1'
  cases e1'
  obtain ⟨z1, z2⟩ := okDs_rel (I := M.imm) h6
  simp only [stepP, Option.map_eq_some_iff, Prod.mk.injEq] at h
  obtain ⟨cs, hlay, rfl, rfl⟩ := h
  have hnew := hn _ _ _ rfl
  have hrz : RelCs M (zero.map .d) z.cells.toList := by rw [e3]; exact RelCs.of_d.2 z1
  have hzl : z.cells.size = (zero.map C.d).length := by rw [← Array.length_toList, e3, z2]; simp
  have hzs : z.cells.size = it.size := by rw [← Array.length_toList, e3]; exact h7
  have hrep := rep_rel (l := len') (n := len' * it.size) hrz hzl (by rw [← hzl, hzs]; exact Nat.le_refl _)
  have hrl : (rep (zero.map C.d) len').length = len' * it.size := by rw [rep_length, ← hzl, hzs]
  obtain ⟨p1, p2⟩ := okParts_rel (P := P) (place := fun i => some (i * it.size, it.size)) hA ps.toList parts h2 (by
    intro i y off m _ hp
    simp only [place?, hu, h5, Option.map_some, Option.some.injEq] at hp
    rw [hp])
  obtain ⟨cells', f1, f2, f3, f4⟩ := fill_lay _ _ ((Array.range (len' * it.size)).map (z.cells[· % z.cells.size]!)) _ cs p1 p2 hrep (by rw [hrl]; simp) hlay
  have hzpos : 0 < it.size := Nat.pos_of_mul_pos_left h4
  have hone : ∀ u ∈ cells'.toList, u.oneCell' = true := relCs_one f2 (by simpa using f3)
  refine did_alloc (v' := .slice (some ⟨w.heap.size, 0, none⟩) len' len') (w' := w.alloc (.cells cells' e)) (arr := cells') hs hnew ?_ rfl rfl rfl rfl f2 (thawed0 _) hone
    (hnew.slice hs (Nat.le_refl _) (by rw [f3, f4, hrl]; exact Nat.le_refl _) (fun k hk => by simpa using hk))
  have hrun := run_buildSlice (P := P) w t e len' (ps.map fun (i, x) => (i, ρ x)) cells' it z hu e1 e2 (by omega) (by omega) (by rw [Array.toList_map]; exact f1)
  simp only [execOp, hop, Sem.run_bind, hrun, Result.andThen_ok, Sem.run_pure]

theorem bytes?_spec {t : TypeId} {n : Nat} (h : bytes? P t = some n) : ∃ i, P.info? t = some i ∧ i.bytes = n := by
  unfold bytes? at h
  simpa [Option.map_eq_some_iff] using h

theorem a_mks {sz by' : Nat} {zero : List D} {l c : A} {v : V} {n : List Ob} {X : Nat → Prop} (hs : Sat P M H 0 w) (hA : ∀ x a, okA k x a = true → RelV M (lk a) (ρ x)) (hok : okOp P k o (.mks sz by' zero l c) = true)
    (h : stepP lk Hi (.mks sz by' zero l c) = some (v, n)) (hn : ∀ cs g fz, n = [.cells cs g fz] → New M H Hi cs) : Did P M H w (execOp ρ o) v (· = Hi.length) X := by
  cases hop : o.op <;> simp only [okOp, hop] at hok <;> try (cases hok; done)
  rename_i t xl xc
  simp only [Bool.and_eq_true, decide_eq_true_eq] at hok
  obtain ⟨⟨⟨h1, h2⟩, h3⟩, h4⟩ := hok
  split at h1 <;> try (cases h1; done)
  rename_i e hu
  simp only [Bool.and_eq_true, beq_iff_eq] at h1
  obtain ⟨⟨h5, h6⟩, h7⟩ := h1
  split at h7 <;> try (cases h7; done)
  rename_i vs hz
  simp only [Bool.and_eq_true, beq_iff_eq] at h7
  obtain ⟨h7, h8⟩ := h7
  obtain ⟨it, z, e1, e2, e3⟩ := zero?_spec hz
  obtain ⟨it', e1', rfl⟩ := size?_spec h5
  obtain ⟨it'', e1'', rfl⟩ := bytes?_spec h6
  rw [e1] at e1' e1''
  cases e1'
  cases e1''
  obtain ⟨z1, z2⟩ := okDs_rel (I := M.imm) h7
  simp only [stepP] at h
  split at h <;> try (cases h; done)
  rename_i ll cc hl hc
  split at h <;> try (cases h; done)
  rename_i hb
  obtain ⟨b1, b2, b3⟩ := hb
  simp only [Option.some.injEq, Prod.mk.injEq] at h
  obtain ⟨rfl, rfl⟩ := h
  have hnew := hn _ _ _ rfl
  obtain ⟨k1, r1⟩ := asNat_rel hl (hA _ _ h2)
  obtain ⟨k2, r2⟩ := asNat_rel hc (hA _ _ h3)
  have hrz : RelCs M (zero.map .d) z.cells.toList := by rw [e3]; exact RelCs.of_d.2 z1
  have hzl : z.cells.size = (zero.map C.d).length := by rw [← Array.length_toList, e3, z2]; simp
  have hzs : z.cells.size = it.size := by rw [← Array.length_toList, e3]; exact h8
  have hrep := rep_rel (l := ll) (n := cc * it.size) hrz hzl (by rw [← hzl, hzs]; exact Nat.mul_le_mul_right _ b1)
  have hrun := run_make (P := P) w t e it z hu e1 e2 k1 k2 (ll : Int) (cc : Int) (by omega) (by omega) (by
    have : (it.bytes : Int) * (cc : Int) = ((cc * it.bytes : Nat) : Int) := by rw [Nat.mul_comm]; exact (Int.natCast_mul _ _).symm
    rw [this]; omega) (by omega)
  simp only [Int.toNat_natCast] at hrun
  refine did_alloc (v' := .slice (some ⟨w.heap.size, 0, none⟩) ll cc) (w' := w.alloc (.cells (madeCells z.cells (cc * it.size)) e)) (arr := madeCells z.cells (cc * it.size)) hs hnew ?_ rfl rfl rfl rfl hrep (thawed0 _)
    (made_one (relCs_one hrz (by rw [Array.length_toList]; exact hzl)) (by omega)) (hnew.slice hs b1 (by rw [size_madeCells]; exact Nat.le_refl _) (fun k hk => by simpa using hk))
  simp only [execOp, hop, r1, r2, Sem.run_bind, hrun, Result.andThen_ok, Sem.run_pure]

theorem a_s2b {a : A} {v : V} {n : List Ob} {X : Nat → Prop} (hs : Sat P M H 0 w) (hA : ∀ x a, okA k x a = true → RelV M (lk a) (ρ x)) (hok : okOp P k o (.s2b a) = true)
    (h : stepP lk Hi (.s2b a) = some (v, n)) (hn : ∀ cs g fz, n = [.cells cs g fz] → New M H Hi cs) : Did P M H w (execOp ρ o) v (· = Hi.length) X := by
  cases hop : o.op <;> simp only [okOp, hop] at hok <;> try (cases hok; done)
  rename_i src dst x
  simp only [Bool.and_eq_true] at hok
  obtain ⟨h1, h2⟩ := hok
  have r1 := hA _ _ h2
  split at h1 <;> try (cases h1; done)
  rename_i e hu1 hu2
  split at h1 <;> try (cases h1; done)
  rename_i hu3
  simp only [stepP] at h
  split at h <;> try (cases h; done)
  rename_i s hx
  simp only [Option.some.injEq, Prod.mk.injEq] at h
  obtain ⟨rfl, rfl⟩ := h
  have hnew := hn _ _ _ rfl
  rw [hx, relV_str] at r1
  obtain ⟨bs, hv, rfl⟩ := r1
  have hrun := run_bytes_of_string (P := P) w src dst e bs hu1 hu2 hu3
  have hge := grownCap_ge w bs.size 0 e
  have hsize : (bytesRow bs (grownCap w bs.size 0 e)).size = grownCap w bs.size 0 e := by
    simp only [bytesRow, Array.size_append, Array.size_map, Array.size_replicate]
    have : bs.data.size = bs.size := rfl
    omega
  have hrel : RelCs M (ofBytes (bs.data.toList.map UInt8.toNat)) (bytesRow bs (grownCap w bs.size 0 e)).toList := by
    simp only [bytesRow, Array.toList_append, Array.toList_map]
    refine RelCs.left ?_
    rw [RelCs.iff]
    intro j d hd
    simp only [ofBytes, List.map_map, List.getElem?_map, Option.map_eq_some_iff] at hd
    obtain ⟨b, hb, rfl⟩ := hd
    refine ⟨_, by rw [List.getElem?_map, hb]; rfl, ?_⟩
    simp [RelC, RelD]
  refine did_alloc (v' := .slice (some ⟨w.heap.size, 0, none⟩) bs.size (grownCap w bs.size 0 e)) (w' := w.drew.alloc (.cells (bytesRow bs (grownCap w bs.size 0 e)) e ((bytesRow bs (grownCap w bs.size 0 e)).size, (bytesRow bs (grownCap w bs.size 0 e)).size + 1))) (arr := bytesRow bs (grownCap w bs.size 0 e)) (T := e)
    (fr := ((bytesRow bs (grownCap w bs.size 0 e)).size, (bytesRow bs (grownCap w bs.size 0 e)).size + 1)) hs hnew ?_ rfl rfl rfl rfl hrel ?_ ?_ ?_
  · simp only [execOp, hop, hv, Sem.run_bind, hrun, Result.andThen_ok, Sem.run_pure]
  · intro i hi h
    simp only at h
    omega
  · intro u hu
    simp only [bytesRow, Array.toList_append, Array.toList_map, Array.toList_replicate, List.mem_append, List.mem_map, List.mem_replicate] at hu
    rcases hu with ⟨b, _, rfl⟩ | ⟨_, rfl⟩ <;> rfl
  · have hlen : (bs.data.toList.map UInt8.toNat).length = bs.size := by rw [List.length_map, Array.length_toList]; rfl
    rw [hlen]
    exact hnew.slice hs hge (by rw [hsize]; omega) (fun k hk => by cases hk)
end
end Mini
end Go.Proofs.YtmcgaakbkgdljaaGreatDoor
