/-
  JournalsCheck: texts of the proof, part 7.
-/
import Derived.Test.YtgjlofpfbhioaaaGreatDoorNX05
import Derived.Laws.Append
import Derived.Laws.MakeOwn
import Derived.Laws.IdiomStrings
import Derived.Great.BuildSlice
namespace Go.Proofs.YtgjlofpfbhioaaaGreatDoor
namespace Mini
open Go
structure FrX (X : Nat → Prop) (M M' : MM) (w w' : World) : Prop where
  ext : Ext M M'
  os : w'.os = w.os
  tape : w'.tape = w.tape
  output : w'.output = w.output
  size : w.heap.size ≤ w'.heap.size
  keep : ∀ B : Nat, B < w.heap.size → ¬ M.Owns B → ¬ X B → w'.heap[B]? = w.heap[B]?
  own : ∀ B, M'.Owns B → M.Owns B ∨ w.heap.size ≤ B ∨ X B
  imm : ∀ B o, M'.imm B = some o → M.imm B = some o ∨ M.Owns B ∨ w.heap.size ≤ B
theorem Fr.toX {X : Nat → Prop} {M M' : MM} {w w' : World} (h : Fr M M' w w') : FrX X M M' w w' :=
  ⟨h.ext, h.os, h.tape, h.output, h.size, fun B hb hn _ => h.keep B hb hn, fun B hb => (h.own B hb).imp id .inl, h.imm⟩
theorem Fr.transX {X : Nat → Prop} {A B D : MM} {u v w : World} (h : Fr A B u v) (k : FrX X B D v w) (hX : ∀ b, X b → u.heap.size ≤ b) : Fr A D u w where
  ext := h.ext.trans k.ext
  os := k.os.trans h.os
  tape := k.tape.trans h.tape
  output := k.output.trans h.output
  size := Nat.le_trans h.size k.size
  keep := fun b hb hn => by
    rw [k.keep b (Nat.lt_of_lt_of_le hb h.size) (fun ho => (h.own b ho).elim hn (fun h' => by omega)) (fun hx => by have := hX b hx; omega)]
    exact h.keep b hb hn
  own := fun b ho => by
    rcases k.own b ho with h' | h' | h'
    · exact h.own b h'
    · exact .inr (Nat.le_trans h.size h')
    · exact .inr (hX b h')
  imm := fun b o ho => by
    rcases k.imm b o ho with h' | h' | h'
    · exact h.imm b o h'
    · exact .inr (h.own b h')
    · exact .inr (.inr (Nat.le_trans h.size h'))
def Did (P : Program) (M : MM) (H : Heap) (w : World) (x : Sem Next) (v : V) (J X : Nat → Prop) : Prop :=
  ∃ nx w' M', x.run P w = .ok nx w' ∧ ((∃ v', nx = .value v' ∧ RelV M' v v') ∨ (nx = .skip ∧ v = .any)) ∧ Sat P M' H 0 w' ∧ FrX X M M' w w' ∧ ∀ id, ¬ J id → M'.loc id = M.loc id
section
variable {P : Program} {M : MM} {w w' : World} {k : K} {o : Oper} {lk : A → V} {ρ : Operand → Value} {Hi H : Heap}
theorem Quiet.did {x : Sem Next} {v : V} {J X : Nat → Prop} (hs : Sat P M H 0 w) (h : Quiet P M w x v) : Did P M H w x v J X := by
  obtain ⟨v', h1, h2⟩ := h
  exact ⟨_, w, M, h1, .inl ⟨v', rfl, h2⟩, hs, (Fr.refl M w).toX, fun _ _ => rfl⟩
theorem ob?_lt : ∀ {H : Heap} {id : Nat} {o : Ob}, ob? H id = some o → id < H.length
  | [], _, _, h => by simp [ob?] at h
  | _ :: _, 0, _, _ => by simp
  | _ :: H, id + 1, o, h => by simp only [ob?] at h; have := ob?_lt h; simp; omega
theorem ob?_eq : ∀ (H : Heap) (id : Nat), ob? H id = H[id]?
  | [], _ => by simp [ob?]
  | _ :: _, 0 => by simp [ob?]
  | _ :: H, id + 1 => by simp only [ob?, ob?_eq H id]; simp
def MM.lay (M : MM) (id B n : Nat) : MM := { M with loc := fun j => if j = id then some (some (B, 0, n)) else M.loc j }
theorem MM.lay_ext {id B n : Nat} (hl : M.loc id = none) : Ext M (M.lay id B n) :=
  ⟨fun _ _ h => h, Nat.le_refl _, fun _ _ => Nat.le_refl _, fun j l _ _ hj => by
    simp only [MM.lay]
    rw [if_neg (fun e => by subst e; rw [hl] at hj; cases hj)]
    exact hj, fun _ _ h => h⟩
theorem Sat.lay {cs : List C} {fz : Bool} {id B : Nat} {arr : Array Value} {T : TypeId} {fr : Nat × Nat} (hs : Sat P M H 0 w) (ho : ob? H id = some (.cells cs 0 fz)) (hl : M.loc id = none)
    (hB : w'.heap[B]? = some (.cells arr T fr)) (hsz : w.heap.size ≤ w'.heap.size) (hkeep : ∀ b, b < w.heap.size → b ≠ B → w'.heap[b]? = w.heap[b]?) (hown : ¬ M.Owns B) (himm : M.imm B = none)
    (h1 : w'.os = w.os) (h2 : w'.tape = w.tape) (h3 : w'.output = w.output) (hnew : B < w.heap.size → ∃ a T f, w.heap[B]? = some (.cells a T f))
    (hr : RelCs (M.lay id B arr.size) cs arr.toList) (hth : Thawed fr arr.size) (hone : ∀ u ∈ arr.toList, u.oneCell' = true) (hty : ∀ a t f, w.heap[B]? = some (.cells a t f) → T = t) :
    Sat P (M.lay id B arr.size) H 0 w' ∧ FrX (· = B) M (M.lay id B arr.size) w w' := by
  have hext := MM.lay_ext (M := M) (id := id) (B := B) (n := arr.size) hl
  have hid : id < H.length := ob?_lt ho
  have hg0 : M.gen id = 0 := (hs.idle id _ ho hl).resolve_left (by intro h; cases h)
  refine ⟨⟨hs.n, ?_, ?_, ?_, ?_, ?_, ?_, ?_⟩, ⟨hext, h1, h2, h3, hsz, fun b hb _ hx => hkeep b hb hx, ?_, fun b o h => .inl h⟩⟩
  · intro j hj
    have := hs.out j hj
    refine ⟨?_, this.2⟩
    simp only [MM.lay]
    rw [if_neg (by have := hs.n; simp only [MM.lay] at hj; omega)]
    exact this.1
  · intro b o hb
    have hb' := hs.imm b o hb
    have hne : b ≠ B := fun e => by subst e; simp only [MM.lay] at hb; rw [himm] at hb; cases hb
    rw [hkeep b (Array.getElem?_eq_some_iff.1 hb').1 hne]
    exact hb'
  · intro j l hj
    simp only [MM.lay] at hj
    split at hj
    · rename_i e
      subst e
      simp only [Option.some.injEq] at hj
      subst hj
      refine ⟨_, ho, ?_⟩
      simp only [ObSat]
      refine ⟨hg0, arr, T, fr, hB, rfl, ?_, by simpa using hr, .inl ⟨Nat.zero_le _, himm, hth, hone⟩⟩
      have := hr.length
      simpa using this
    · obtain ⟨o', ho', hos⟩ := hs.obj j l hj
      refine ⟨o', ho', hos.keep hext rfl ?_ ?_⟩
      · intro b c d hlb
        subst hlb
        have hob : M.Owns b := ⟨j, c, d, hj⟩
        exact ⟨hkeep b (hs.block_lt hob) (fun e => hown (e ▸ hob)), fun h => h⟩
      · intro b hb
        rcases Nat.lt_or_ge b w.heap.size with hlt | hge
        · have hne : b ≠ B := fun e => by
            subst e
            obtain ⟨a, T', f, hh⟩ := hnew hlt
            rw [hh] at hb
            cases hb
          rw [hkeep b hlt hne]
          exact hb
        · simp [Array.getElem?_eq_none hge] at hb
  · intro j o' ho' hj
    simp only [MM.lay] at hj
    split at hj
    · cases hj
    · exact hs.idle j o' ho' hj
  · intro j j' b c d c' d' e1 e2
    simp only [MM.lay] at e1 e2
    split at e1 <;> split at e2
    · omega
    · simp only [Option.some.injEq, Prod.mk.injEq] at e1
      obtain ⟨rfl, _⟩ := e1
      exact absurd ⟨j', c', d', e2⟩ hown
    · simp only [Option.some.injEq, Prod.mk.injEq] at e2
      obtain ⟨rfl, _⟩ := e2
      exact absurd ⟨j, c, d, e1⟩ hown
    · exact hs.inj j j' b c d c' d' e1 e2
  · intro b t hb
    obtain ⟨a, f, hh⟩ := hs.ty b t hb
    by_cases e : b = B
    · subst e
      rw [hty _ _ _ hh] at hB
      exact ⟨_, _, hB⟩
    · exact ⟨a, f, by rw [hkeep b (Array.getElem?_eq_some_iff.1 hh).1 e]; exact hh⟩
  · intro j b c d hj hg
    simp only [MM.lay] at hj hg
    split at hj
    · rename_i e
      subst e
      rw [hg0] at hg
      exact absurd hg (by decide)
    · exact hs.bty j b c d hj hg
  · rintro b ⟨j, c, d, hj⟩
    simp only [MM.lay] at hj
    split at hj
    · simp only [Option.some.injEq, Prod.mk.injEq] at hj
      exact .inr (.inr hj.1.symm)
    · exact .inl ⟨j, c, d, hj⟩
theorem Sat.imm_lt (hs : Sat P M H 0 w) {B : Nat} (h : w.heap.size ≤ B) : M.imm B = none := by
  cases hb : M.imm B with
  | none => rfl
  | some o => have := hs.imm B o hb; simp [Array.getElem?_eq_none h] at this
theorem Sat.alloc {cs : List C} {fz : Bool} {id : Nat} {arr : Array Value} {T : TypeId} {fr : Nat × Nat} (hs : Sat P M H 0 w) (ho : ob? H id = some (.cells cs 0 fz)) (hl : M.loc id = none)
    (hw : w'.heap = w.heap.push (.cells arr T fr)) (h1 : w'.os = w.os) (h2 : w'.tape = w.tape) (h3 : w'.output = w.output)
    (hr : RelCs M cs arr.toList) (hth : Thawed fr arr.size) (hone : ∀ u ∈ arr.toList, u.oneCell' = true) {X : Nat → Prop} :
    Sat P (M.lay id w.heap.size arr.size) H 0 w' ∧ FrX X M (M.lay id w.heap.size arr.size) w w' := by
  have key := Sat.lay (w' := w') (B := w.heap.size) (T := T) (fr := fr) hs ho hl (by rw [hw]; simp) (by rw [hw]; simp) (fun b hb _ => by rw [hw, Array.getElem?_push, if_neg (Nat.ne_of_lt hb)])
    (fun h => Nat.lt_irrefl _ (hs.block_lt h)) (hs.imm_lt (Nat.le_refl _)) h1 h2 h3 (fun h => absurd h (Nat.lt_irrefl _)) (RelCs.mono (MM.lay_ext hl) hr) hth hone (fun a t f h => by simp at h)
  refine ⟨key.1, ⟨key.2.ext, h1, h2, h3, key.2.size, fun b hb hn _ => key.2.keep b hb hn (Nat.ne_of_lt hb), fun b hb => ?_, key.2.imm⟩⟩
  rcases key.2.own b hb with h | h | h
  · exact .inl h
  · exact .inr (.inl h)
  · exact .inr (.inl (by rw [h]; exact Nat.le_refl _))
structure New (M : MM) (H Hi : Heap) (cs : List C) : Prop where
  ob : ∃ fz, ob? H Hi.length = some (.cells cs 0 fz)
  loc : M.loc Hi.length = none
theorem New.lt {cs : List C} (hs : Sat P M H 0 w) (h : New M H Hi cs) : Hi.length < M.n := by
  obtain ⟨fz, ho⟩ := h.ob
  rw [hs.n]; exact ob?_lt ho
theorem New.gen {cs : List C} (hs : Sat P M H 0 w) (h : New M H Hi cs) : M.gen Hi.length = 0 := by
  obtain ⟨fz, ho⟩ := h.ob
  exact (hs.idle _ _ ho h.loc).resolve_left (by intro h; cases h)
theorem thawed0 (n : Nat) : Thawed (0, 0) n := fun i _ h => by simp at h
theorem New.ptr {cs : List C} {arr : Array Value} (hs : Sat P M H 0 w) (h : New M H Hi cs) {B : Nat} : RelV (M.lay Hi.length B arr.size) (.c (.ptr Hi.length 0 0)) (.pointer (some ⟨B, 0, none⟩)) := by
  rw [relV_c]
  simp only [RelC]
  exact ⟨show Hi.length < M.n from h.lt hs, Nat.zero_le _, ⟨_, _, rfl⟩, fun _ => by simp [MM.lay, PtrAt]⟩
theorem New.slice {cs : List C} {arr : Array Value} {len c sz : Nat} {cap : Option Nat} (hs : Sat P M H 0 w) (h : New M H Hi cs) (hlc : len ≤ c) (hc : c * sz ≤ arr.size) (hcap : ∀ k, cap = some k → c = k) {B : Nat} :
    RelV (M.lay Hi.length B arr.size) (.c (.os Hi.length 0 0 len sz cap)) (.slice (some ⟨B, 0, none⟩) len c) := by
  rw [relV_c]
  simp only [RelC]
  exact ⟨show Hi.length < M.n from h.lt hs, Nat.zero_le _, _, _, rfl, hlc, .inr ⟨_, _, rfl⟩, hcap, fun _ => by simp [MM.lay, OsAt]; omega⟩
theorem did_alloc {x : Sem Next} {v : V} {v' : Value} {cs : List C} {arr : Array Value} {T : TypeId} {fr : Nat × Nat} {X : Nat → Prop} (hs : Sat P M H 0 w) (hn : New M H Hi cs)
    (hrun : x.run P w = .ok (.value v') w') (hw : w'.heap = w.heap.push (.cells arr T fr)) (h1 : w'.os = w.os) (h2 : w'.tape = w.tape) (h3 : w'.output = w.output)
    (hr : RelCs M cs arr.toList) (hth : Thawed fr arr.size) (hone : ∀ u ∈ arr.toList, u.oneCell' = true)
    (hv : RelV (M.lay Hi.length w.heap.size arr.size) v v') : Did P M H w x v (· = Hi.length) X := by
  obtain ⟨fz, ho⟩ := hn.ob
  obtain ⟨a, b⟩ := Sat.alloc (X := X) hs ho hn.loc hw h1 h2 h3 hr hth hone
  exact ⟨_, _, _, hrun, .inl ⟨v', rfl, hv⟩, a, b, fun id hid => by simp only [MM.lay]; rw [if_neg hid]⟩
theorem run_newVar {t : TypeId} {v : Value} : (newVar t v).run P w = .ok ⟨w.heap.size, 0, none⟩ (w.alloc (.cells v.cells t)) := by simp [newVar, newRow]
theorem a_new {zero : List D} {v : V} {n : List Ob} {X : Nat → Prop} (hs : Sat P M H 0 w) (hok : okOp P k o (.new zero) = true) (h : stepP lk Hi (.new zero) = some (v, n))
    (hn : ∀ cs g fz, n = [.cells cs g fz] → New M H Hi cs) : Did P M H w (execOp ρ o) v (· = Hi.length) X := by
  cases hop : o.op <;> simp only [okOp, hop] at hok <;> try (cases hok; done)
  rename_i t
  split at hok <;> try (cases hok; done)
  rename_i vs hz
  obtain ⟨it, z, e1, e2, e3⟩ := zero?_spec hz
  obtain ⟨z1, z2⟩ := okDs_rel (I := M.imm) hok
  simp only [stepP, Option.some.injEq, Prod.mk.injEq] at h
  obtain ⟨rfl, rfl⟩ := h
  have hnew := hn _ _ _ rfl
  have hr : RelCs M (zero.map .d) z.cells.toList := by rw [e3]; exact RelCs.of_d.2 z1
  refine did_alloc (v' := .pointer (some ⟨w.heap.size, 0, none⟩)) (w' := w.alloc (.cells z.cells t)) (arr := z.cells) hs hnew ?_ rfl rfl rfl rfl hr (thawed0 _) (relCs_one hr (by rw [e3, z2]; simp)) (hnew.ptr hs)
  simp [execOp, hop, Instr.alloc, zeroValue, typeInfo, e1, e2, run_newVar]
def MM.tyAt (M : MM) (B : Nat) (t : TypeId) : MM := { M with ty := fun b => if b = B then some t else M.ty b }
theorem a_newb {t0 : Nat} {v : V} {n : List Ob} {X : Nat → Prop} (hs : Sat P M H 0 w) (hok : okOp P k o (.newb t0) = true) (h : stepP lk Hi (.newb t0) = some (v, n))
    (hn : ∀ cs g fz, n = [.cells cs g fz] → New M H Hi cs) : Did P M H w (execOp ρ o) v (· = Hi.length) X := by
  cases hop : o.op <;> simp only [okOp, hop] at hok <;> try (cases hok; done)
  rename_i t
  rw [Bool.and_eq_true, beq_iff_eq] at hok
  obtain ⟨rfl, hok⟩ := hok
  split at hok <;> try (cases hok; done)
  rename_i hz
  obtain ⟨it, z, e1, e2, e3⟩ := zero?_spec hz
  simp only [stepP, Option.some.injEq, Prod.mk.injEq] at h
  obtain ⟨rfl, rfl⟩ := h
  have hnew := hn _ _ _ rfl
  have hsz : z.cells.size = 2 := by rw [← Array.length_toList, e3]; rfl
  let w1 := w.alloc (.cells z.cells t)
  have hkeep : ∀ b : Nat, b < w.heap.size → w1.heap[b]? = w.heap[b]? := fun b hb => by
    show (w.heap.push _)[b]? = _
    rw [Array.getElem?_push, if_neg (Nat.ne_of_lt hb)]
  have hat : w1.heap[w.heap.size]? = some (.cells z.cells t) := by
    show (w.heap.push _)[w.heap.size]? = _
    simp
  have hext : Ext M (M.tyAt w.heap.size t) := ⟨fun _ _ h => h, Nat.le_refl _, fun _ _ => Nat.le_refl _, fun _ _ _ _ h => h, fun B t' h => by
    simp only [MM.tyAt]
    rw [if_neg (fun e => by subst e; obtain ⟨a, f, hh⟩ := hs.ty _ _ h; simp at hh)]
    exact h⟩
  have hs1 : Sat P (M.tyAt w.heap.size t) H 0 w1 := by
    refine ⟨hs.n, hs.out, fun b o hb => ?_, fun id l hl => ?_, hs.idle, hs.inj, fun b t' hb => ?_, fun id B b c hl hg => ⟨hext.ty _ _ (hs.bty id B b c hl hg).1, (hs.bty id B b c hl hg).2⟩⟩
    · have := hs.imm b o hb
      rw [hkeep b (Array.getElem?_eq_some_iff.1 this).1]; exact this
    · obtain ⟨o, ho, hos⟩ := hs.obj id l hl
      refine ⟨o, ho, hos.keep hext rfl (fun B b c e => ?_) (fun B hB => by rw [hkeep B (Array.getElem?_eq_some_iff.1 hB).1]; exact hB)⟩
      subst e
      exact ⟨hkeep B (hs.block_lt ⟨id, b, c, hl⟩), fun x => x⟩
    · simp only [MM.tyAt] at hb
      split at hb
      · rename_i e
        subst e
        cases hb
        exact ⟨_, _, hat⟩
      · obtain ⟨a, f, hh⟩ := hs.ty b t' hb
        exact ⟨a, f, by rw [hkeep b (Array.getElem?_eq_some_iff.1 hh).1]; exact hh⟩
  have hnew1 : New (M.tyAt w.heap.size t) H Hi [.bt Hi.length t, .d .nils] := ⟨hnew.ob, hnew.loc⟩
  obtain ⟨fz, ho⟩ := hnew.ob
  have hidn := hnew.lt hs
  have hrel : RelCs ((M.tyAt w.heap.size t).lay Hi.length w.heap.size z.cells.size) [.bt Hi.length t, .d .nils] z.cells.toList := by
    rw [e3]
    simp only [RelCs, RelC, RelD, and_true]
    refine ⟨hidn, .inl trivial, fun _ => ⟨w.heap.size, ?_, ?_, .inl trivial⟩⟩
    · simp [MM.lay, hsz]
    · simp [MM.lay, MM.tyAt]
  obtain ⟨p1, p2⟩ := Sat.lay (w' := w1) (B := w.heap.size) (arr := z.cells) (T := t) (fr := (0, 0)) hs1 ho hnew.loc hat (Nat.le_refl _) (fun b _ _ => rfl) (fun hown => Nat.lt_irrefl _ (hs.block_lt hown)) (hs.imm_lt (Nat.le_refl _)) rfl rfl rfl (fun _ => ⟨_, _, _, hat⟩) hrel (thawed0 _) (by
    rw [e3]
    intro u hu
    simp only [List.mem_cons, List.mem_nil_iff, or_false] at hu
    rcases hu with rfl | rfl <;> rfl) (fun a t' f h => by rw [hat] at h; cases h; rfl)
  refine ⟨.value (.pointer (some ⟨w.heap.size, 0, none⟩)), w1, _, ?_, .inl ⟨_, rfl, hnew1.ptr hs1⟩, p1, ⟨hext.trans p2.ext, rfl, rfl, rfl, ?_, fun b hb _ _ => hkeep b hb, fun b hb => ?_, fun b o hb => .inl hb⟩, fun id hid => ?_⟩
  · simp [execOp, hop, Instr.alloc, zeroValue, typeInfo, e1, e2, run_newVar, w1]
  · show _ ≤ (w.heap.push _).size; simp
  · obtain ⟨id, c, d, hid⟩ := hb
    simp only [MM.lay] at hid
    split at hid
    · simp only [Option.some.injEq, Prod.mk.injEq] at hid
      exact .inr (.inl (by omega))
    · exact .inl ⟨id, c, d, hid⟩
  · simp only [MM.lay]
    rw [if_neg hid]
    rfl
theorem a_box {a : A} {v : V} {n : List Ob} {X : Nat → Prop} (hs : Sat P M H 0 w) (hA : ∀ x a, okA k x a = true → RelV M (lk a) (ρ x)) (hok : okOp P k o (.box a) = true) (h : stepP lk Hi (.box a) = some (v, n))
    (hn : ∀ cs g fz, n = [.cells cs g fz] → New M H Hi cs) : Did P M H w (execOp ρ o) v (· = Hi.length) X := by
  cases hop : o.op <;> simp only [okOp, hop] at hok <;> try (cases hok; done)
  rename_i t x
  have r1 := hA _ _ hok
  simp only [stepP] at h
  split at h <;> try (cases h; done)
  rename_i cs hcs
  simp only [Option.some.injEq, Prod.mk.injEq] at h
  obtain ⟨rfl, rfl⟩ := h
  have hnew := hn _ _ _ rfl
  obtain ⟨c1, c2, c3⟩ := relV_cells hcs r1
  refine did_alloc (v' := .pointer (some ⟨w.heap.size, 0, none⟩)) (w' := w.alloc (.cells (ρ x).cells t)) (arr := (ρ x).cells) hs hnew ?_ rfl rfl rfl rfl c1 (thawed0 _) (fun u hu => c3 u (by simpa using hu)) (hnew.ptr hs)
  simp [execOp, hop, Instr.box, run_newVar]
theorem rep_length (zero : List C) : ∀ l, (rep zero l).length = l * zero.length
  | 0 => by simp [rep]
  | l + 1 => by simp only [rep, List.length_append, rep_length zero l]; rw [Nat.add_mul]; omega
theorem rep_get (zero : List C) : ∀ (l j : Nat), j < l * zero.length → (rep zero l)[j]? = zero[j % zero.length]?
  | 0, j, h => by simp at h
  | l + 1, j, h => by
    simp only [rep]
    by_cases hj : j < zero.length
    · rw [List.getElem?_append_left hj, Nat.mod_eq_of_lt hj]
    · rw [List.getElem?_append_right (by omega), rep_get zero l _ (by rw [Nat.add_mul] at h; omega)]
      congr 1
      exact (Nat.mod_eq_sub_mod (by omega)).symm
theorem rep_rel {zero : List C} {z : Array Value} {l n : Nat} (hr : RelCs M zero z.toList) (hz : z.size = zero.length) (hn : l * zero.length ≤ n) :
    RelCs M (rep zero l) ((Array.range n).map (z[· % z.size]!)).toList := by
  rw [RelCs.iff]
  intro j d hd
  have hj : j < l * zero.length := by
    rcases Nat.lt_or_ge j (l * zero.length) with h | h
    · exact h
    · rw [List.getElem?_eq_none (by rw [rep_length]; exact h)] at hd; cases hd
  rw [rep_get zero l j hj] at hd
  obtain ⟨v, hv, hrv⟩ := RelCs.iff.1 hr _ d hd
  refine ⟨v, ?_, hrv⟩
  have hjn : j < n := by omega
  rw [← hz] at hv
  have hlt : j % z.size < z.size := by
    rcases Nat.eq_zero_or_pos z.size with h | h
    · rw [← hz, h] at hj; simp at hj
    · exact Nat.mod_lt _ h
  simp only [Array.toList_map, Array.toList_range, List.getElem?_map, List.getElem?_range hjn, Option.map_some, Option.some.injEq]
  rw [Array.getElem!_eq_getD, Array.getD_eq_getD_getElem?]
  rw [Array.getElem?_toList] at hv
  rw [hv]
  rfl
theorem made_one {z : Array Value} {n : Nat} (hz : ∀ u ∈ z.toList, u.oneCell' = true) (hp : 0 < z.size) : ∀ u ∈ ((Array.range n).map (z[· % z.size]!)).toList, u.oneCell' = true := by
  intro u hu
  simp only [Array.toList_map, Array.toList_range, List.mem_map, List.mem_range] at hu
  obtain ⟨j, _, rfl⟩ := hu
  have hlt := Nat.mod_lt j hp
  rw [getElem!_pos z _ hlt]
  exact hz _ (by simp)
theorem fill_one {place : Nat → Option (Nat × Nat)} : ∀ (ps : List (Nat × Value)) (cells out : Array Value), (∀ x ∈ ps, ∀ u ∈ x.2.cells, u.oneCell' = true) → (∀ u ∈ cells.toList, u.oneCell' = true) →
    Instr.fill place cells ps = some out → ∀ u ∈ out.toList, u.oneCell' = true
  | [], cells, out, _, hc, h => by simp only [Instr.fill, Option.some.injEq] at h; subst h; exact hc
  | (i, x) :: ps, cells, out, hp, hc, h => by
    simp only [Instr.fill] at h
    split at h <;> try (cases h; done)
    rename_i off size _
    split at h <;> try (cases h; done)
    rename_i hb
    simp only [Bool.or_eq_true, decide_eq_true_eq, not_or] at hb
    refine fill_one ps _ out (fun x hx => hp x (by simp [hx])) ?_ h
    have hfold := foldl_set off x.cells.toList 0 cells (by simp only [Array.length_toList]; omega)
    have e : (x.cells.zipIdx.foldl (fun cs y => cs.setIfInBounds (off + y.2) y.1) cells) = ((x.cells.toList.zipIdx 0).foldl (fun cs y => cs.setIfInBounds (off + y.2) y.1) cells) := by
      rw [← Array.foldl_toList, Array.toList_zipIdx]
    intro u hu
    rw [e, hfold] at hu
    simp only [spl, List.mem_append] at hu
    rcases hu with (hu | hu) | hu
    · exact hc u (List.mem_of_mem_take hu)
    · exact hp (i, x) (by simp) u (by simpa using hu)
    · exact hc u (List.mem_of_mem_drop hu)
theorem a_bsl {len sz : Nat} {zero : List D} {parts : List (Nat × Nat × A)} {v : V} {n : List Ob} {X : Nat → Prop} (hs : Sat P M H 0 w) (hA : ∀ x a, okA k x a = true → RelV M (lk a) (ρ x)) (hok : okOp P k o (.bsl len sz zero parts) = true)
    (h : stepP lk Hi (.bsl len sz zero parts) = some (v, n)) (hn : ∀ cs g fz, n = [.cells cs g fz] → New M H Hi cs) : Did P M H w (execOp ρ o) v (· = Hi.length) X := by
  cases hop : o.op <;> simp only [okOp, hop] at hok <;> try (cases hok; done)
  rename_i t len' ps
  simp only [Bool.and_eq_true, decide_eq_true_eq, beq_iff_eq] at hok
  obtain ⟨⟨⟨⟨h1, rfl⟩, h2⟩, h3⟩, h4⟩ := hok
  split at h1 <;> try (cases h1; done)
  rename_i e hu
  simp only [Bool.and_eq_true, beq_iff_eq] at h1
  obtain ⟨h5, h6⟩ := h1
  split at h6 <;> try (cases h6; done)
  rename_i vs hz
  simp only [Bool.and_eq_true, beq_iff_eq] at h6
  obtain ⟨h6, h7⟩ := h6
  obtain ⟨it, z, e1, e2, e3⟩ := zero?_spec hz
  obtain ⟨it', e1', rfl⟩ := size?_spec h5
  rw [e1] at e1'
  cases e1'
  obtain ⟨z1, z2⟩ := okDs_rel (I := M.imm) h6
  simp only [stepP, Option.map_eq_some_iff, Prod.mk.injEq] at h
  obtain ⟨cs, hlay, rfl, rfl⟩ := h
  have hnew := hn _ _ _ rfl
  have hrz : RelCs M (zero.map .d) z.cells.toList := by rw [e3]; exact RelCs.of_d.2 z1
  have hzl : z.cells.size = (zero.map C.d).length := by rw [← Array.length_toList, e3, z2]; simp
  have hzs : z.cells.size = it.size := by rw [← Array.length_toList, e3]; exact h7
  have hrep := rep_rel (l := len') (n := len' * it.size) hrz hzl (by rw [← hzl, hzs]; exact Nat.le_refl _)
  have hrl : (rep (zero.map C.d) len').length = len' * it.size := by rw [rep_length, ← hzl, hzs]
  obtain ⟨p1, p2⟩ := okParts_rel (P := P) (place := fun i => some (i * it.size, it.size)) hA ps.toList parts h2 (by
    intro i y off m _ hp
    simp only [place?, hu, h5, Option.map_some, Option.some.injEq] at hp
    rw [hp])
  obtain ⟨cells', f1, f2, f3, f4⟩ := fill_lay _ _ ((Array.range (len' * it.size)).map (z.cells[· % z.cells.size]!)) _ cs p1 p2 hrep (by rw [hrl]; simp) hlay
  have hzpos : 0 < it.size := Nat.pos_of_mul_pos_left h4
  have hone : ∀ u ∈ cells'.toList, u.oneCell' = true := relCs_one f2 (by simpa using f3)
  refine did_alloc (v' := .slice (some ⟨w.heap.size, 0, none⟩) len' len') (w' := w.alloc (.cells cells' e)) (arr := cells') hs hnew ?_ rfl rfl rfl rfl f2 (thawed0 _) hone
    (hnew.slice hs (Nat.le_refl _) (by rw [f3, f4, hrl]; exact Nat.le_refl _) (fun k hk => by simpa using hk))
  have hrun := run_buildSlice (P := P) w t e len' (ps.map fun (i, x) => (i, ρ x)) cells' it z hu e1 e2 (by omega) (by omega) (by rw [Array.toList_map]; exact f1)
  simp only [execOp, hop, Sem.run_bind, hrun, Result.andThen_ok, Sem.run_pure]
theorem bytes?_spec {t : TypeId} {n : Nat} (h : bytes? P t = some n) : ∃ i, P.info? t = some i ∧ i.bytes = n := by
  unfold bytes? at h
  simpa [Option.map_eq_some_iff] using h
theorem a_mks {sz by' : Nat} {zero : List D} {l c : A} {v : V} {n : List Ob} {X : Nat → Prop} (hs : Sat P M H 0 w) (hA : ∀ x a, okA k x a = true → RelV M (lk a) (ρ x)) (hok : okOp P k o (.mks sz by' zero l c) = true)
    (h : stepP lk Hi (.mks sz by' zero l c) = some (v, n)) (hn : ∀ cs g fz, n = [.cells cs g fz] → New M H Hi cs) : Did P M H w (execOp ρ o) v (· = Hi.length) X := by
  cases hop : o.op <;> simp only [okOp, hop] at hok <;> try (cases hok; done)
  rename_i t xl xc
  simp only [Bool.and_eq_true, decide_eq_true_eq] at hok
  obtain ⟨⟨⟨h1, h2⟩, h3⟩, h4⟩ := hok
  split at h1 <;> try (cases h1; done)
  rename_i e hu
  simp only [Bool.and_eq_true, beq_iff_eq] at h1
  obtain ⟨⟨h5, h6⟩, h7⟩ := h1
  split at h7 <;> try (cases h7; done)
  rename_i vs hz
  simp only [Bool.and_eq_true, beq_iff_eq] at h7
  obtain ⟨h7, h8⟩ := h7
  obtain ⟨it, z, e1, e2, e3⟩ := zero?_spec hz
  obtain ⟨it', e1', rfl⟩ := size?_spec h5
  obtain ⟨it'', e1'', rfl⟩ := bytes?_spec h6
  rw [e1] at e1' e1''
  cases e1'
  cases e1''
  obtain ⟨z1, z2⟩ := okDs_rel (I := M.imm) h7
  simp only [stepP] at h
  split at h <;> try (cases h; done)
  rename_i ll cc hl hc
  split at h <;> try (cases h; done)
  rename_i hb
  obtain ⟨b1, b2, b3⟩ := hb
  simp only [Option.some.injEq, Prod.mk.injEq] at h
  obtain ⟨rfl, rfl⟩ := h
  have hnew := hn _ _ _ rfl
  obtain ⟨k1, r1⟩ := asNat_rel hl (hA _ _ h2)
  obtain ⟨k2, r2⟩ := asNat_rel hc (hA _ _ h3)
  have hrz : RelCs M (zero.map .d) z.cells.toList := by rw [e3]; exact RelCs.of_d.2 z1
  have hzl : z.cells.size = (zero.map C.d).length := by rw [← Array.length_toList, e3, z2]; simp
  have hzs : z.cells.size = it.size := by rw [← Array.length_toList, e3]; exact h8
  have hrep := rep_rel (l := ll) (n := cc * it.size) hrz hzl (by rw [← hzl, hzs]; exact Nat.mul_le_mul_right _ b1)
  have hrun := run_make (P := P) w t e it z hu e1 e2 k1 k2 (ll : Int) (cc : Int) (by omega) (by omega) (by
    have : (it.bytes : Int) * (cc : Int) = ((cc * it.bytes : Nat) : Int) := by rw [Nat.mul_comm]; exact (Int.natCast_mul _ _).symm
    rw [this]; omega) (by omega)
  simp only [Int.toNat_natCast] at hrun
  refine did_alloc (v' := .slice (some ⟨w.heap.size, 0, none⟩) ll cc) (w' := w.alloc (.cells (madeCells z.cells (cc * it.size)) e)) (arr := madeCells z.cells (cc * it.size)) hs hnew ?_ rfl rfl rfl rfl hrep (thawed0 _)
    (made_one (relCs_one hrz (by rw [Array.length_toList]; exact hzl)) (by omega)) (hnew.slice hs b1 (by rw [size_madeCells]; exact Nat.le_refl _) (fun k hk => by simpa using hk))
  simp only [execOp, hop, r1, r2, Sem.run_bind, hrun, Result.andThen_ok, Sem.run_pure]
theorem a_s2b {a : A} {v : V} {n : List Ob} {X : Nat → Prop} (hs : Sat P M H 0 w) (hA : ∀ x a, okA k x a = true → RelV M (lk a) (ρ x)) (hok : okOp P k o (.s2b a) = true)
    (h : stepP lk Hi (.s2b a) = some (v, n)) (hn : ∀ cs g fz, n = [.cells cs g fz] → New M H Hi cs) : Did P M H w (execOp ρ o) v (· = Hi.length) X := by
  cases hop : o.op <;> simp only [okOp, hop] at hok <;> try (cases hok; done)
  rename_i src dst x
  simp only [Bool.and_eq_true] at hok
  obtain ⟨h1, h2⟩ := hok
  have r1 := hA _ _ h2
  split at h1 <;> try (cases h1; done)
  rename_i e hu1 hu2
  split at h1 <;> try (cases h1; done)
  rename_i hu3
  simp only [stepP] at h
  split at h <;> try (cases h; done)
  rename_i s hx
  simp only [Option.some.injEq, Prod.mk.injEq] at h
  obtain ⟨rfl, rfl⟩ := h
  have hnew := hn _ _ _ rfl
  rw [hx, relV_str] at r1
  obtain ⟨bs, hv, rfl⟩ := r1
  have hrun := run_bytes_of_string (P := P) w src dst e bs hu1 hu2 hu3
  have hge := grownCap_ge w bs.size 0 e
  have hsize : (bytesRow bs (grownCap w bs.size 0 e)).size = grownCap w bs.size 0 e := by
    simp only [bytesRow, Array.size_append, Array.size_map, Array.size_replicate]
    have : bs.data.size = bs.size := rfl
    omega
  have hrel : RelCs M (ofBytes (bs.data.toList.map UInt8.toNat)) (bytesRow bs (grownCap w bs.size 0 e)).toList := by
    simp only [bytesRow, Array.toList_append, Array.toList_map]
    refine RelCs.left ?_
    rw [RelCs.iff]
    intro j d hd
    simp only [ofBytes, List.map_map, List.getElem?_map, Option.map_eq_some_iff] at hd
    obtain ⟨b, hb, rfl⟩ := hd
    refine ⟨_, by rw [List.getElem?_map, hb]; rfl, ?_⟩
    simp [RelC, RelD]
  refine did_alloc (v' := .slice (some ⟨w.heap.size, 0, none⟩) bs.size (grownCap w bs.size 0 e)) (w' := w.drew.alloc (.cells (bytesRow bs (grownCap w bs.size 0 e)) e ((bytesRow bs (grownCap w bs.size 0 e)).size, (bytesRow bs (grownCap w bs.size 0 e)).size + 1))) (arr := bytesRow bs (grownCap w bs.size 0 e)) (T := e)
    (fr := ((bytesRow bs (grownCap w bs.size 0 e)).size, (bytesRow bs (grownCap w bs.size 0 e)).size + 1)) hs hnew ?_ rfl rfl rfl rfl hrel ?_ ?_ ?_
  · simp only [execOp, hop, hv, Sem.run_bind, hrun, Result.andThen_ok, Sem.run_pure]
  · intro i hi h
    simp only at h
    omega
  · intro u hu
    simp only [bytesRow, Array.toList_append, Array.toList_map, Array.toList_replicate, List.mem_append, List.mem_map, List.mem_replicate] at hu
    rcases hu with ⟨b, _, rfl⟩ | ⟨_, rfl⟩ <;> rfl
  · have hlen : (bs.data.toList.map UInt8.toNat).length = bs.size := by rw [List.length_map, Array.length_toList]; rfl
    rw [hlen]
    exact hnew.slice hs hge (by rw [hsize]; omega) (fun k hk => by cases hk)
end
end Mini
end Go.Proofs.YtgjlofpfbhioaaaGreatDoor
namespace Go.Proofs.YtgjlofpfbhioaaaGreatDoor
namespace Mini
open Go
theorem setOb_length : ∀ (H : Heap) (id : Nat) (o : Ob), (setOb H id o).length = H.length
  | [], _, _ => rfl
  | _ :: _, 0, _ => rfl
  | _ :: H, id + 1, o => by simp only [setOb, List.length_cons, setOb_length H id o]
theorem ob?_setOb_same : ∀ {H : Heap} {id : Nat} {o o' : Ob}, ob? H id = some o' → ob? (setOb H id o) id = some o
  | [], _, _, _, h => by simp [ob?] at h
  | _ :: _, 0, _, _, _ => rfl
  | _ :: H, id + 1, o, o', h => by simp only [setOb, ob?] at *; exact ob?_setOb_same h
theorem ob?_setOb_ne : ∀ {H : Heap} {id j : Nat} {o : Ob}, j ≠ id → ob? (setOb H id o) j = ob? H j
  | [], _, _, _, _ => rfl
  | _ :: _, 0, 0, _, h => absurd rfl h
  | _ :: _, 0, _ + 1, _, _ => rfl
  | _ :: _, _ + 1, 0, _, _ => rfl
  | _ :: H, id + 1, j + 1, o, h => by simp only [setOb, ob?]; exact ob?_setOb_ne (by omega)
theorem setOb_self : ∀ {H : Heap} {id : Nat} {o : Ob}, ob? H id = some o → setOb H id o = H
  | [], _, _, _ => rfl
  | _ :: _, 0, _, h => by simp only [ob?, Option.some.injEq] at h; simp [setOb, h]
  | _ :: H, id + 1, o, h => by simp only [ob?] at h; simp only [setOb]; rw [setOb_self h]
def Frz : Ob → Ob → Prop
  | .cells cs g fz, .cells cs' g' fz' => cs = cs' ∧ g = g' ∧ (fz = true → fz' = true)
  | a, b => a = b
theorem Frz.refl (o : Ob) : Frz o o := by cases o <;> simp [Frz]
theorem Frz.trans {a b c : Ob} (h : Frz a b) (k : Frz b c) : Frz a c := by cases a <;> cases b <;> cases c <;> simp_all [Frz]
theorem Frz.same {a b : Ob} (h : Frz a b) : Same a b := by cases a <;> cases b <;> simp_all [Frz, Same]
structure Wide (H H' : Heap) : Prop where
  len : H.length ≤ H'.length
  ob : ∀ id o, ob? H id = some o → ∃ o', ob? H' id = some o' ∧ Frz o o'
theorem Wide.refl (H : Heap) : Wide H H := ⟨Nat.le_refl _, fun _ o h => ⟨o, h, Frz.refl o⟩⟩
theorem Wide.trans {A B D : Heap} (h : Wide A B) (k : Wide B D) : Wide A D := ⟨Nat.le_trans h.len k.len, fun id o ho => by
  obtain ⟨o', h1, h2⟩ := h.ob id o ho
  obtain ⟨o'', h3, h4⟩ := k.ob id o' h1
  exact ⟨o'', h3, h2.trans h4⟩⟩
theorem Wide.sub {H H' : Heap} (h : Wide H H') : Sub H H' := fun id o ho => by
  obtain ⟨o', h1, h2⟩ := h.ob id o ho
  exact ⟨o', h1, h2.same⟩
section
variable {P : Program} {M : MM} {w w' : World} {k : K} {o : Oper} {lk : A → V} {ρ : Operand → Value} {Hi H H' : Heap}
theorem Sat.heap (hs : Sat P M H 0 w) (h : w'.heap = w.heap) : Sat P M H 0 w' where
  n := hs.n
  out := hs.out
  imm := fun B o hB => by rw [h]; exact hs.imm B o hB
  obj := fun id l hl => by
    obtain ⟨o, h1, h2⟩ := hs.obj id l hl
    exact ⟨o, h1, h2.keep (Ext.refl M) rfl (fun B _ _ _ => ⟨by rw [h], fun x => x⟩) (fun B hB => by rw [h]; exact hB)⟩
  idle := hs.idle
  inj := hs.inj
  ty := fun B t hb => by rw [h]; exact hs.ty B t hb
  bty := hs.bty
theorem ObSat.frz {id : Nat} {a b : Ob} {l : Option (Nat × Nat × Nat)} (h : Frz a b) (hs : ObSat P M w 0 id a l) : ObSat P M w 0 id b l := by
  cases a <;> cases b <;> simp only [Frz] at h <;> first | (cases h; done) | skip
  · obtain ⟨rfl, rfl, h⟩ := h
    cases l with
    | none => simpa only [ObSat] using hs
    | some l =>
      obtain ⟨B, b0, bs⟩ := l
      simp only [ObSat] at hs ⊢
      obtain ⟨h1, arr, T, fr, h2, h3, h4, h5, h6⟩ := hs
      refine ⟨h1, arr, T, fr, h2, h3, h4, h5, ?_⟩
      rcases h6 with h6 | ⟨h6, h7⟩
      · exact .inl h6
      · exact .inr ⟨h h6, h7⟩
  · cases h; exact hs
  · cases h; exact hs
  · exact hs
  · cases h; exact hs
def MM.more (M : MM) (n : Nat) : MM := { M with n := n }
theorem MM.more_ext {n : Nat} (h : M.n ≤ n) : Ext M (M.more n) := ⟨fun _ _ h => h, h, fun _ _ => Nat.le_refl _, fun _ _ _ _ h => h, fun _ _ h => h⟩
theorem Sat.wide (hs : Sat P M H 0 w) (hw : Wide H H') : Sat P (M.more H'.length) H' 0 w ∧ Fr M (M.more H'.length) w w := by
  have hext : Ext M (M.more H'.length) := MM.more_ext (by rw [hs.n]; exact hw.len)
  refine ⟨⟨rfl, fun id hid => hs.out id (by have := hs.n; have := hw.len; simp only [MM.more] at hid; omega), hs.imm, ?_, ?_, hs.inj, hs.ty, hs.bty⟩,
    ⟨hext, rfl, rfl, rfl, Nat.le_refl _, fun _ _ _ => rfl, fun B h => .inl h, fun B o h => .inl h⟩⟩
  · intro id l hl
    obtain ⟨o, h1, h2⟩ := hs.obj id l hl
    obtain ⟨o', h3, h4⟩ := hw.ob id o h1
    exact ⟨o', h3, (h2.frz h4).keep hext rfl (fun B _ _ _ => ⟨rfl, fun x => x⟩) (fun B hB => hB)⟩
  · intro id o ho hl
    rcases Nat.lt_or_ge id H.length with h | h
    · cases hob : ob? H id with
      | none => rw [ob?_eq, List.getElem?_eq_none_iff] at hob; omega
      | some o1 =>
        obtain ⟨o', h3, h4⟩ := hw.ob id o1 hob
        rw [ho] at h3
        cases h3
        rcases hs.idle id o1 hob hl with rfl | h5
        · left
          cases o <;> simp [Frz] at h4 ⊢
        · exact .inr h5
    · exact .inr (hs.out id (by rw [hs.n]; exact h)).2
theorem run_storeCells_spl {B : Nat} {T : TypeId} {fr : Nat × Nat} : ∀ (vs : List Value) (off i : Nat) (arr : Array Value) (w : World), w.heap[B]? = some (.cells arr T fr) → off + i + vs.length ≤ arr.size → Thawed fr arr.size →
    (∀ u ∈ vs, u.oneCell' = true) → ∃ w' arr', (storeCells ⟨B, off, none⟩ vs i).run P w = .ok () w' ∧ w'.heap[B]? = some (.cells arr' T fr) ∧ arr'.toList = spl arr.toList (off + i) vs ∧ arr'.size = arr.size ∧
      (∀ b, b ≠ B → w'.heap[b]? = w.heap[b]?) ∧ w'.heap.size = w.heap.size ∧ w'.os = w.os ∧ w'.tape = w.tape ∧ w'.output = w.output
  | [], off, i, arr, w, h, _, _, _ => ⟨w, arr, rfl, h, by simp [spl], rfl, fun _ _ => rfl, rfl, rfl, rfl, rfl⟩
  | v :: vs, off, i, arr, w, h, hb, hth, h1 => by
    simp only [List.length_cons] at hb
    have hlt : off + i < arr.size := by omega
    have hcell : w.cell? ⟨B, off + i, none⟩ = some arr[off + i] := by simp [World.cell?, h, hlt]
    have hfz : w.frozen? ⟨B, off + i, none⟩ = false := by
      have := hth (off + i) hlt
      simp only [World.frozen?, h]
      rw [Bool.and_eq_false_iff]
      simp only [decide_eq_false_iff_not]
      omega
    have hset : (w.setCell ⟨B, off + i, none⟩ v).heap[B]? = some (.cells (arr.setIfInBounds (off + i) v) T fr) := by
      simp [World.setCell, Array.getElem?_modify, h]
    obtain ⟨w', arr', r1, r2, r3, r4, r5, r6, r7, r8, r9⟩ := run_storeCells_spl vs off (i + 1) _ (w.setCell ⟨B, off + i, none⟩ v) hset (by simp only [Array.size_setIfInBounds]; omega)
      (by simpa using hth) (fun u hu => h1 u (by simp [hu]))
    refine ⟨w', arr', ?_, r2, ?_, by rw [r4]; simp, fun b hb' => ?_, by rw [r6]; simp [World.setCell], by rw [r7]; rfl, by rw [r8]; rfl, by rw [r9]; rfl⟩
    · simp only [storeCells, Sem.run_bind, add_at]
      rw [run_store P w _ v _ (h1 v (by simp)), hcell, hfz]
      simpa using r1
    · rw [r3]
      apply List.ext_getElem?
      intro m
      rw [spl_get (by simp only [Array.length_toList, Array.size_setIfInBounds]; omega), spl_get (by simp only [Array.length_toList, List.length_cons]; omega)]
      simp only [Array.getElem?_toList, Array.getElem?_setIfInBounds, List.length_cons]
      by_cases h1 : m = off + i
      · subst h1
        rw [if_neg (by omega), if_pos rfl, if_pos (by omega), if_pos (by omega)]
        simp
      · by_cases h2 : off + i ≤ m ∧ m < off + i + (vs.length + 1)
        · rw [if_pos (by omega), if_pos h2]
          obtain ⟨d, rfl⟩ : ∃ d, m = off + i + 1 + d := ⟨m - (off + i + 1), by omega⟩
          rw [show off + i + 1 + d - (off + (i + 1)) = d by omega, show off + i + 1 + d - (off + i) = d + 1 by omega]
          simp
        · rw [if_neg (by omega), if_neg (by omega), if_neg h2]
    · rw [r5 b hb']
      simp [World.setCell, Array.getElem?_modify, Ne.symm hb']
def Eff (P : Program) (M : MM) (H' : Heap) (w : World) (x : Sem Next) (v : V) : Prop :=
  ∃ nx w' M', x.run P w = .ok nx w' ∧ ((∃ v', nx = .value v' ∧ RelV M' v v') ∨ (nx = .skip ∧ v = .any)) ∧ Sat P M' H' 0 w' ∧ Fr M M' w w'
theorem tyKeep {B : Nat} {arr arr' : Array Value} {T : TypeId} {fr fr' : Nat × Nat} (h : w.heap[B]? = some (.cells arr T fr)) (h' : w'.heap[B]? = some (.cells arr' T fr')) (hk : ∀ b : Nat, b ≠ B → w'.heap[b]? = w.heap[b]?) :
    ∀ (b : Nat) a t f, w.heap[b]? = some (.cells a t f) → ∃ a' f', w'.heap[b]? = some (.cells a' t f') := by
  intro b a t f hb
  by_cases e : b = B
  · subst e
    rw [h] at hb
    cases hb
    exact ⟨_, _, h'⟩
  · exact ⟨a, f, by rw [hk b e]; exact hb⟩
theorem tyGrow (hk : ∀ b : Nat, b < w.heap.size → w'.heap[b]? = w.heap[b]?) :
    ∀ (b : Nat) a t f, w.heap[b]? = some (.cells a t f) → ∃ a' f', w'.heap[b]? = some (.cells a' t f') := fun b a t f hb => ⟨a, f, by rw [hk b (Array.getElem?_eq_some_iff.1 hb).1]; exact hb⟩
def MM.put (M : MM) (id B b bs g : Nat) : MM := { M with loc := fun j => if j = id then some (some (B, b, bs)) else M.loc j, gen := fun j => if j = id then g else M.gen j, ty := fun b => if b = B ∧ genK ≤ g then some u8T else M.ty b }
theorem Sat.write0 {id b1 bs1 g1 g B1 : Nat} {l : Option (Nat × Nat × Nat)} {cs cs' : List C} {arr' : Array Value} {T' : TypeId} {fr' : Nat × Nat} (hs : Sat P M H 0 w) (ho : ob? H id = some (.cells cs g false)) (hl : M.loc id = some l)
    (hg : M.gen id = g) (hg1 : (g1 = g ∧ l = some (B1, b1, bs1)) ∨ g < g1)
    (hB : w'.heap[B1]? = some (.cells arr' T' fr')) (hB1 : (∃ b c, l = some (B1, b, c)) ∨ w.heap.size ≤ B1) (hkeep : ∀ b : Nat, b < w.heap.size → (∀ c d, l ≠ some (b, c, d)) → w'.heap[b]? = w.heap[b]?) (hsz : w.heap.size ≤ w'.heap.size)
    (h1 : w'.os = w.os) (h2 : w'.tape = w.tape) (h3 : w'.output = w.output) (harr : arr'.size = bs1) (hbs : b1 + cs'.length ≤ bs1)
    (hr : RelCs M cs' (arr'.toList.drop b1)) (hth : Thawed fr' bs1) (hone : ∀ u ∈ arr'.toList, u.oneCell' = true) (hty : ∀ (b : Nat) a t f, w.heap[b]? = some (.cells a t f) → ∃ a' f', w'.heap[b]? = some (.cells a' t f')) (hK : genK ≤ g1 → T' = u8T ∧ b1 = 0) :
    Sat P (M.put id B1 b1 bs1 g1) (setOb H id (.cells cs' g1 false)) 0 w' ∧
    Fr M (M.put id B1 b1 bs1 g1) w w' := by
  have hid : id < M.n := hs.id_lt hl
  have himm : ∀ b c d, l = some (b, c, d) → M.imm b = none := by
    intro b c d e
    subst e
    obtain ⟨o', e1, e2⟩ := hs.obj id _ hl
    rw [ho] at e1
    cases e1
    simp only [ObSat] at e2
    obtain ⟨_, arr, T, fr, _, _, _, _, h6⟩ := e2
    rcases h6 with h6 | ⟨h6, _⟩
    · exact h6.2.1
    · cases h6
  have himm1 : M.imm B1 = none := by
    rcases hB1 with ⟨b, c, h⟩ | h
    · exact himm _ _ _ h
    · exact hs.imm_lt h
  have hext : Ext M (M.put id B1 b1 bs1 g1) := by
    refine ⟨fun _ _ h => h, Nat.le_refl _, fun j _ => ?_, fun j l' _ hgj hj => ?_, fun b t hb => ?_⟩
    rotate_left 2
    · simp only [MM.put]
      split
      · rename_i e
        obtain ⟨rfl, e⟩ := e
        obtain ⟨a, f, hh⟩ := hs.ty b t hb
        obtain ⟨a', f', hh'⟩ := hty b a t f hh
        rw [hB] at hh'
        cases hh'
        rw [(hK e).1]
      · exact hb
    · simp only [MM.put]
      split
      · rename_i e; subst e; omega
      · exact Nat.le_refl _
    · simp only [MM.put] at hgj ⊢
      split
      · rename_i e
        subst e
        rw [if_pos rfl] at hgj
        rw [hl] at hj
        cases hj
        rcases hg1 with ⟨rfl, rfl⟩ | h
        · rfl
        · omega
      · exact hj
  refine ⟨⟨by rw [setOb_length]; exact hs.n, ?_, ?_, ?_, ?_, ?_, ?_, ?_⟩, ⟨hext, h1, h2, h3, hsz, fun b hb hn => hkeep b hb (fun c d e => hn ⟨id, c, d, by rw [hl, e]⟩), ?_, fun b o h => .inl h⟩⟩
  · intro j hj
    simp only [MM.put] at hj ⊢
    rw [if_neg (by omega), if_neg (by omega)]
    exact hs.out j hj
  · intro b o hb
    have hb' := hs.imm b o hb
    rw [hkeep b (Array.getElem?_eq_some_iff.1 hb').1 (fun c d e => by have := himm _ _ _ e; simp only [MM.put] at hb; rw [this] at hb; cases hb)]
    exact hb'
  · intro j l' hj
    simp only [MM.put] at hj
    split at hj
    · rename_i e
      subst e
      simp only [Option.some.injEq] at hj
      subst hj
      refine ⟨_, ob?_setOb_same ho, ?_⟩
      simp only [ObSat, MM.put, if_true]
      exact ⟨trivial, arr', T', fr', hB, harr, hbs, RelCs.mono hext hr, .inl ⟨Nat.zero_le _, himm1, hth, hone⟩⟩
    · rename_i hne
      obtain ⟨o', ho', hos⟩ := hs.obj j l' hj
      refine ⟨o', by rw [ob?_setOb_ne hne]; exact ho', hos.keep hext (by simp only [MM.put]; rw [if_neg hne]) ?_ ?_⟩
      · intro b c d hlb
        subst hlb
        have hob : M.Owns b := ⟨j, c, d, hj⟩
        exact ⟨hkeep b (hs.block_lt hob) (fun c' d' e => hne (hs.inj j id b c d c' d' hj (by rw [hl, e]))), fun h => h⟩
      · intro b hb
        rw [hkeep b (Array.getElem?_eq_some_iff.1 hb).1 (fun c d e => by
          subst e
          obtain ⟨o', e1, e2⟩ := hs.obj id _ hl
          rw [ho] at e1
          cases e1
          simp only [ObSat] at e2
          obtain ⟨_, arr, T, fr, h4, _⟩ := e2
          rw [h4] at hb
          cases hb)]
        exact hb
  · intro j o' ho' hj
    simp only [MM.put] at hj ⊢
    split at hj
    · cases hj
    · rename_i hne
      rw [if_neg hne]
      rw [ob?_setOb_ne hne] at ho'
      exact hs.idle j o' ho' hj
  · intro j j' b c d c' d' e1 e2
    simp only [MM.put] at e1 e2
    have far : ∀ j c d, j ≠ id → M.loc j = some (some (B1, c, d)) → False := by
      intro j c d hne hj
      rcases hB1 with ⟨b, c', h⟩ | h
      · exact hne (hs.inj j id B1 c d b c' hj (by rw [hl, h]))
      · exact Nat.lt_irrefl _ (Nat.lt_of_lt_of_le (hs.block_lt ⟨j, c, d, hj⟩) h)
    split at e1 <;> split at e2
    · omega
    · rename_i hne
      simp only [Option.some.injEq, Prod.mk.injEq] at e1
      obtain ⟨rfl, _⟩ := e1
      exact (far j' c' d' hne e2).elim
    · rename_i hne _
      simp only [Option.some.injEq, Prod.mk.injEq] at e2
      obtain ⟨rfl, _⟩ := e2
      exact (far j c d hne e1).elim
    · exact hs.inj j j' b c d c' d' e1 e2
  · intro b t hb
    simp only [MM.put] at hb
    split at hb
    · rename_i e
      obtain ⟨rfl, e⟩ := e
      cases hb
      rw [← (hK e).1]
      exact ⟨_, _, hB⟩
    · obtain ⟨a, f, hh⟩ := hs.ty b t hb
      exact hty b a t f hh
  · intro j b c d hj hg
    simp only [MM.put] at hj hg
    split at hj
    · rename_i e
      subst e
      rw [if_pos rfl] at hg
      simp only [Option.some.injEq, Prod.mk.injEq] at hj
      obtain ⟨rfl, rfl, _⟩ := hj
      refine ⟨?_, (hK hg).2⟩
      simp only [MM.put]
      rw [if_pos ⟨trivial, hg⟩]
    · rename_i e
      rw [if_neg e] at hg
      exact ⟨hext.ty _ _ (hs.bty j b c d hj hg).1, (hs.bty j b c d hj hg).2⟩
  · rintro b ⟨j, c, d, hj⟩
    simp only [MM.put] at hj
    split at hj
    · simp only [Option.some.injEq, Prod.mk.injEq] at hj
      obtain ⟨rfl, _⟩ := hj
      rcases hB1 with ⟨b, c, h⟩ | h
      · exact .inl ⟨id, b, c, by rw [hl, h]⟩
      · exact .inr h
    · exact .inl ⟨j, c, d, hj⟩
theorem Sat.write {id B b0 bs g b1 bs1 g1 B1 : Nat} {cs cs' : List C} {arr' : Array Value} {T' : TypeId} {fr' : Nat × Nat} (hs : Sat P M H 0 w) (ho : ob? H id = some (.cells cs g false)) (hl : M.loc id = some (some (B, b0, bs)))
    (hg : M.gen id = g) (hg1 : (g1 = g ∧ B1 = B ∧ b1 = b0 ∧ bs1 = bs) ∨ g < g1)
    (hB : w'.heap[B1]? = some (.cells arr' T' fr')) (hB1 : B1 = B ∨ w.heap.size ≤ B1) (hkeep : ∀ b, b < w.heap.size → b ≠ B → w'.heap[b]? = w.heap[b]?) (hsz : w.heap.size ≤ w'.heap.size)
    (h1 : w'.os = w.os) (h2 : w'.tape = w.tape) (h3 : w'.output = w.output) (harr : arr'.size = bs1) (hbs : b1 + cs'.length ≤ bs1)
    (hr : RelCs M cs' (arr'.toList.drop b1)) (hth : Thawed fr' bs1) (hone : ∀ u ∈ arr'.toList, u.oneCell' = true) (hty : ∀ (b : Nat) a t f, w.heap[b]? = some (.cells a t f) → ∃ a' f', w'.heap[b]? = some (.cells a' t f')) (hK : genK ≤ g1 → T' = u8T ∧ b1 = 0) :
    Sat P (M.put id B1 b1 bs1 g1) (setOb H id (.cells cs' g1 false)) 0 w' ∧
    Fr M (M.put id B1 b1 bs1 g1) w w' :=
  Sat.write0 hs ho hl hg (hg1.imp (fun ⟨a, b, c, d⟩ => ⟨a, by rw [b, c, d]⟩) (fun h => h)) hB (hB1.imp (fun h => ⟨b0, bs, by rw [h]⟩) (fun h => h)) (fun b hb hn => hkeep b hb (fun e => hn b0 bs (by rw [e]))) hsz h1 h2 h3 harr hbs hr hth hone hty hK
theorem Sat.open (hs : Sat P M H 0 w) {id B b0 bs g : Nat} {cs : List C} (ho : ob? H id = some (.cells cs g false)) (hl : M.loc id = some (some (B, b0, bs))) :
    M.gen id = g ∧ ∃ arr T fr, w.heap[B]? = some (.cells arr T fr) ∧ arr.size = bs ∧ b0 + cs.length ≤ bs ∧ RelCs M cs (arr.toList.drop b0) ∧ Thawed fr bs ∧ ∀ u ∈ arr.toList, u.oneCell' = true := by
  obtain ⟨o', e1, e2⟩ := hs.obj id _ hl
  rw [ho] at e1
  cases e1
  simp only [ObSat] at e2
  obtain ⟨h0, arr, T, fr, h1, h2, h3, h4, h5⟩ := e2
  rcases h5 with h5 | ⟨h5, _⟩
  · exact ⟨h0, arr, T, fr, h1, h2, h3, h4, h5.2.2.1, h5.2.2.2⟩
  · cases h5
theorem spl_drop {vs us : List Value} {a b : Nat} (h : a + b + us.length ≤ vs.length) : (spl vs (a + b) us).drop a = spl (vs.drop a) b us := by
  unfold spl
  have hl : (vs.take (a + b)).length = a + b := by rw [List.length_take]; omega
  rw [List.append_assoc, List.drop_append_of_le_length (by omega), List.append_assoc, List.drop_drop, List.drop_take]
  congr 2
  · congr 1; omega
  · congr 1; omega
theorem RelCs.splice2 {cs new : List C} {vs us : List Value} {off : Nat} (h : RelCs M cs vs) (k : RelCs M new us) (hl : new.length = us.length) (ho : off ≤ cs.length) :
    RelCs M (Mini.splice cs off new) (spl vs off us) := by
  have hlen := h.length
  unfold Mini.splice spl
  rw [← hl]
  refine RelCs.append (RelCs.append (h.take' off) (by simp only [List.length_take]; omega) k) ?_ (h.drop _)
  simp only [List.length_append, List.length_take]; omega
theorem spl_one {vs us : List Value} {off : Nat} (h1 : ∀ u ∈ vs, u.oneCell' = true) (h2 : ∀ u ∈ us, u.oneCell' = true) : ∀ u ∈ spl vs off us, u.oneCell' = true := by
  intro u hu
  simp only [spl, List.mem_append] at hu
  rcases hu with (hu | hu) | hu
  · exact h1 u (List.mem_of_mem_take hu)
  · exact h2 u hu
  · exact h1 u (List.mem_of_mem_drop hu)
theorem splice_len2 {cs new : List C} {off : Nat} (h : off ≤ cs.length) : (splice cs off new).length = max cs.length (off + new.length) := by
  simp only [splice, List.length_append, List.length_take, List.length_drop]; omega
theorem store_row (hs : Sat P M H 0 w) {id B b0 bs g off : Nat} {cs new : List C} {us : List Value} (ho : ob? H id = some (.cells cs g false)) (hl : M.loc id = some (some (B, b0, bs)))
    (hr : RelCs M new us) (hn : new.length = us.length) (hoff : off ≤ cs.length) (hfit : b0 + off + us.length ≤ bs) (h1 : ∀ u ∈ us, u.oneCell' = true) :
    ∃ w' M', (storeCells ⟨B, b0 + off, none⟩ us).run P w = .ok () w' ∧ Sat P M' (setOb H id (.cells (splice cs off new) g false)) 0 w' ∧ Fr M M' w w' ∧ M'.loc id = M.loc id ∧ M'.gen id = M.gen id := by
  obtain ⟨hg, arr, T, fr, e1, e2, e3, e4, e5, e6⟩ := hs.open ho hl
  obtain ⟨w', arr', r1, r2, r3, r4, r5, r6, r7, r8, r9⟩ := run_storeCells_spl (P := P) us (b0 + off) 0 arr w e1 (by omega) (by rw [e2]; exact e5) h1
  obtain ⟨s1, s2⟩ := Sat.write (w' := w') (B1 := B) (b1 := b0) (bs1 := bs) (g1 := g) (cs' := splice cs off new) hs ho hl hg (.inl ⟨rfl, rfl, rfl, rfl⟩) r2 (.inl rfl) (fun b _ hb => r5 b hb) (by omega) r7 r8 r9 (by omega)
    (by rw [splice_len2 hoff]; omega) (by rw [r3, Nat.add_zero, spl_drop (by simp only [Array.length_toList]; omega)]; exact RelCs.splice2 e4 hr hn hoff) e5 (by rw [r3]; exact spl_one e6 h1) (tyKeep e1 r2 (fun b hb => r5 b hb)) (fun hK => by
      obtain ⟨q1, q2⟩ := hs.bty id B b0 bs hl (by rw [hg]; exact hK)
      obtain ⟨a, f, hh⟩ := hs.ty _ _ q1
      rw [e1] at hh
      cases hh
      exact ⟨rfl, q2⟩)
  exact ⟨w', _, r1, s1, s2, by simp [MM.put, hl], by simp [MM.put, hg]⟩
theorem e_st {m : Nat} {a b : A} {E : Env} {v : V} (hs : Sat P M H 0 w) (hA : ∀ x a, okA k x a = true → RelV M (lk a) (ρ x)) (hok : okOp P k o (.st m a b) = true) (h : stepE E lk H (.st m a b) = some (v, H')) : Eff P M H' w (execOp ρ o) v := by
  cases hop : o.op <;> simp only [okOp, hop] at hok <;> try (cases hok; done)
  rename_i t x y
  simp only [Bool.and_eq_true, beq_iff_eq, decide_eq_true_eq] at hok
  obtain ⟨⟨⟨h1, h2⟩, h3⟩, h4⟩ := hok
  have r1 := hA _ _ h2
  have r2 := hA _ _ h3
  simp only [stepE] at h
  split at h <;> try (cases h; done)
  rename_i id g off new hx hnew
  split at h <;> try (cases h; done)
  rename_i cs g' ho
  split at h <;> try (cases h; done)
  rename_i hc
  obtain ⟨rfl, hc1, hc2⟩ := hc
  simp only [Option.some.injEq, Prod.mk.injEq] at h
  obtain ⟨rfl, rfl⟩ := h
  rw [hx, relV_c] at r1
  obtain ⟨B, b0, bs, fz', hl, hv, _⟩ := live_ptr hs (Sub.refl H) ho r1
  obtain ⟨c1, c2, c3⟩ := relV_cells hnew r2
  obtain ⟨hg, arr, T, fr, e1, e2, e3, e4, e5, e6⟩ := hs.open ho hl
  obtain ⟨w', M', s1, s2, s3, s4, s5⟩ := store_row (P := P) hs ho hl (off := off) c1 (by simpa using c2.symm) (by omega) (by simp only [Array.length_toList]; omega) (fun u hu => c3 u (by simpa using hu))
  refine ⟨.skip, w', M', ?_, .inr ⟨rfl, rfl⟩, s2, s3⟩
  have hsz : (ρ y).cells.size = m := by omega
  simp [execOp, hop, hv, Instr.storeAt, Instr.sureAddr, storeVar, run_sizeOf h1, hsz, s1]
theorem e_cpy {sz : Nat} {a b : A} {E : Env} {v : V} (hs : Sat P M H 0 w) (hA : ∀ x a, okA k x a = true → RelV M (lk a) (ρ x)) (hok : okOp P k o (.cpy sz a b) = true) (h : stepE E lk H (.cpy sz a b) = some (v, H')) : Eff P M H' w (execOp ρ o) v := by
  cases hop : o.op <;> simp only [okOp, hop] at hok <;> try (cases hok; done)
  rename_i c
  simp only [Bool.and_eq_true, decide_eq_true_eq] at hok
  obtain ⟨⟨h1, h2⟩, h3⟩ := hok
  obtain ⟨x, y, hargs, r1, r2⟩ := call2 hA h2
  split at h1 <;> try (cases h1; done)
  rename_i t hc ht
  split at h1 <;> try (cases h1; done)
  rename_i e hu
  simp only [beq_iff_eq] at h1
  simp only [stepE] at h
  split at h <;> try (cases h; done)
  rename_i m new he
  obtain ⟨cells, e1, e2, e3, e4, e5, e6⟩ := elems_rel hs (Sub.refl H) h3 he r2
  have hexec : ∀ v' w', (Builtin.copy_ c.argTypes o.type #[x, y]).run P w = .ok v' w' → (execOp ρ o).run P w = .ok (.value v') w' := by
    intro v' w' hrun
    exact exec_builtin hop hc (fun cs => rfl) (by rw [hargs]; exact hrun)
  split at h <;> try (cases h; done)
  · rename_i hx
    simp only [Option.some.injEq, Prod.mk.injEq] at h
    obtain ⟨rfl, rfl⟩ := h
    rw [hx, relV_nils] at r1
    subst r1
    refine ⟨_, w, M, hexec (.int .i64 0) w ?_, .inl ⟨_, rfl, by rw [relV_int]⟩, hs, Fr.refl M w⟩
    have := e6 0 (Nat.zero_le _)
    simp [Builtin.copy_, ht, run_underlying hu, e5, run_sizeOf h1, this, goInt]
  · rename_i id g off len sz' cap hx
    split at h <;> try (cases h; done)
    rename_i cs g' ho
    split at h <;> try (cases h; done)
    rename_i hcond
    obtain ⟨rfl, rfl, hcond⟩ := hcond
    simp only [Option.some.injEq, Prod.mk.injEq] at h
    obtain ⟨rfl, rfl⟩ := h
    rw [hx, relV_c] at r1
    obtain ⟨ad, cp, rfl, hlc, _, hcase⟩ := live_os hs (Sub.refl H) ho r1
    have hmin : Nat.min m len = min m len := rfl
    have hle : min m len ≤ m := Nat.min_le_left _ _
    have hf := e6 (min m len) hle
    have hmul : min m len * sz' ≤ m * sz' := Nat.mul_le_mul_right _ hle
    have hmul2 : min m len * sz' ≤ len * sz' := Nat.mul_le_mul_right _ (Nat.min_le_right _ _)
    have nothing : len = 0 → (∃ nx w' M', (execOp ρ o).run P w = .ok nx w' ∧ ((∃ v', nx = .value v' ∧ RelV M' (.c (.d (.int .i64 (Int.ofNat (min m len))))) v') ∨ (nx = .skip ∧ (V.c (.d (.int .i64 (Int.ofNat (min m len))))) = .any)) ∧ w' = w ∧ M' = M) := by
      intro hz
      subst hz
      rw [Nat.min_zero] at hf ⊢
      refine ⟨_, w, M, hexec (.int .i64 0) w ?_, .inl ⟨_, rfl, by rw [relV_int]; rfl⟩, rfl, rfl⟩
      have h0 : Nat.min m 0 = 0 := Nat.min_zero m
      cases ad <;> simp [Builtin.copy_, ht, run_underlying hu, e5, run_sizeOf h1, hf, goInt, storeCells]
    have same : cs.length = 0 ∨ len = 0 → splice cs off (new.take (min m len * sz')) = cs ∨ len ≠ 0 := by
      intro _
      by_cases hz : len = 0
      · left; subst hz; simp [splice]
      · exact .inr hz
    have setSelf : ∀ cs g, ob? H id = some (.cells cs g false) → Sat P M (setOb H id (.cells cs g false)) 0 w := by
      intro cs g ho
      rw [setOb_self ho]; exact hs
    by_cases hz : len = 0
    · obtain ⟨nx, w', M', p1, p2, rfl, rfl⟩ := nothing hz
      refine ⟨nx, w', M', p1, p2, ?_, Fr.refl _ _⟩
      have : splice cs off (new.take (min m len * sz')) = cs := by subst hz; simp [splice]
      rw [this]
      exact setSelf _ _ ho
    · rcases hcase with ⟨_, _, rfl, _⟩ | ⟨B, b0, bs, fz', hl, ha, hbs, _⟩
      · omega
      · have hcp : cp ≠ 0 := by omega
        rcases ha with ha | rfl
        · exact absurd ha hcp
        · have hlm : len * sz' ≤ cp * sz' := Nat.mul_le_mul_right _ hlc
          have htl : (cells.take (min m len * sz')).length = min m len * sz' := by rw [List.length_take]; omega
          have hnl : (new.take (min m len * sz')).length = min m len * sz' := by rw [List.length_take]; omega
          obtain ⟨w', M', s1, s2, s3, s4, s5⟩ := store_row (P := P) hs ho hl (off := off) (e3.take' (min m len * sz')) (by rw [htl, hnl]) (by omega) (by rw [htl]; omega)
            (fun u hu => e4 u (List.mem_of_mem_take hu))
          refine ⟨_, w', M', hexec (.int .i64 (Int.ofNat (min m len))) w' ?_, .inl ⟨_, rfl, by rw [relV_int]⟩, s2, s3⟩
          simp [Builtin.copy_, ht, run_underlying hu, e5, run_sizeOf h1, hmin, hf, goInt, s1]
end
end Mini
end Go.Proofs.YtgjlofpfbhioaaaGreatDoor
namespace Go.Proofs.YtgjlofpfbhioaaaGreatDoor
namespace Mini
open Go
section
variable {P : Program} {M : MM} {w w' : World} {k : K} {o : Oper} {lk : A → V} {ρ : Operand → Value} {Hi H H' : Heap}
def notInt : TypeDesc → Bool
  | .slice _ => true
  | .string => true
  | _ => false
theorem notInt_cases {d : TypeDesc} (h : notInt d = true) : (∃ e, d = .slice e) ∨ d = .string := by
  cases d <;> first | exact .inl ⟨_, rfl⟩ | exact .inr rfl | cases h
section
variable {argTypes : Array TypeId} {ty t u e : TypeId} {d : TypeDesc} {sz n sLen sCap : Nat} {base : Option Addr} {x : Value} {new old : List Value}
theorem run_append_fit (h0 : argTypes[0]? = some t) (hu : P.underlying t = some (.slice e)) (h1 : argTypes[1]? = some u) (hd : P.underlying u = some d) (hnd : notInt d = true) (hsz : size? P e = some sz)
    (hlen : (Builtin.lenOf x).run P w = .ok n w) (hnew : (Builtin.firstCells sz n x).run P w = .ok new.toArray w) (hroom : sLen + n ≤ sCap)
    (hst : (match base with | some a => storeCells (a.add (sLen * sz)) new | none => pure ()).run P w = .ok () w') :
    (Builtin.append_ argTypes ty #[.slice base sLen sCap, x]).run P w = .ok (.slice base (sLen + n) sCap) w' := by
  obtain ⟨i, hi, rfl⟩ := size?_spec hsz
  rcases notInt_cases hnd with ⟨e', rfl⟩ | rfl
  · cases base with
    | none =>
      simp only [Sem.run_pure, Result.ok.injEq, true_and] at hst
      subst hst
      simp [Builtin.append_, h0, run_underlying hu, h1, run_underlying hd, sizeOf, typeInfo, hi, hlen, hroom, hnew]
    | some a =>
      simp only at hst
      simp [Builtin.append_, h0, run_underlying hu, h1, run_underlying hd, sizeOf, typeInfo, hi, hlen, hroom, hnew, hst]
  · cases base with
    | none =>
      simp only [Sem.run_pure, Result.ok.injEq, true_and] at hst
      subst hst
      simp [Builtin.append_, h0, run_underlying hu, h1, run_underlying hd, sizeOf, typeInfo, hi, hlen, hroom, hnew]
    | some a =>
      simp only at hst
      simp [Builtin.append_, h0, run_underlying hu, h1, run_underlying hd, sizeOf, typeInfo, hi, hlen, hroom, hnew, hst]
theorem run_append_more {i : TypeInfo} {z : Value} (h0 : argTypes[0]? = some t) (hu : P.underlying t = some (.slice e)) (h1 : argTypes[1]? = some u) (hd : P.underlying u = some d) (hnd : notInt d = true) (hi : P.info? e = some i) (hz : i.zero = some z)
    (hlen : (Builtin.lenOf x).run P w = .ok n w) (hold : (Builtin.firstCells i.size sLen (.slice base sLen sCap)).run P w.drew = .ok old.toArray w.drew) (hnew : (Builtin.firstCells i.size n x).run P w.drew = .ok new.toArray w.drew)
    (hroom : sCap < sLen + n) (h63 : sLen + n ≤ 1073741824) (hb : i.bytes ≤ 65536) :
    (Builtin.append_ argTypes ty #[.slice base sLen sCap, x]).run P w = .ok (.slice (some ⟨w.heap.size, 0, none⟩) (sLen + n) (grownCap w (sLen + n) sCap e))
      (w.drew.alloc (.cells (old.toArray ++ new.toArray ++ Builtin.zeroCells z.cells (grownCap w (sLen + n) sCap e - (sLen + n))) e)) := by
  have hn : ¬ (sLen + n ≤ sCap) := by omega
  have h63' : ¬ (9223372036854775807 < ((sLen : Int) + (n : Int))) := by omega
  have hfit := growslice_fits (bytes := i.bytes) hroom (Nat.le_trans (Nat.mul_le_mul h63 hb) (by decide))
  have h48' : ¬ (281474976710656 < Builtin.nextslicecap (sLen + n) sCap * i.bytes) := by omega
  rcases notInt_cases hnd with ⟨e', rfl⟩ | rfl
  · simp [Builtin.append_, h0, run_underlying hu, h1, run_underlying hd, sizeOf, typeInfo, zeroValue, hi, hz, hlen, hn, h63', h48', Question.forced, hold, hnew, newRow, grownCap]
    congr 2
    apply Array.ext'
    simp [List.append_assoc]
  · simp [Builtin.append_, h0, run_underlying hu, h1, run_underlying hd, sizeOf, typeInfo, zeroValue, hi, hz, hlen, hn, h63', h48', Question.forced, hold, hnew, newRow, grownCap]
    congr 2
    apply Array.ext'
    simp [List.append_assoc]
end
theorem Sat.drew (hs : Sat P M H 0 w) : Sat P M H 0 w.drew := hs.heap rfl
theorem zeroCells_one {z : Array Value} {n : Nat} (hz : ∀ u ∈ z.toList, u.oneCell' = true) (hp : 0 < z.size) : ∀ u ∈ (Builtin.zeroCells z n).toList, u.oneCell' = true := made_one hz hp
theorem app_types {c : Call} {sz : Nat} (h : (match c.callee, c.argTypes[0]?, c.argTypes[1]? with
      | .builtin .append, some t, some u => (match P.underlying t, P.underlying u with
        | some (.slice e), some (.slice _) | some (.slice e), some .string => (size? P e == some sz) && (match bytes? P e with | some n => decide (n ≤ 65536) | none => false) && (match zero? P e with | some vs => (vs.length == sz) && vs.all Value.oneCell' | none => false)
        | _, _ => false)
      | _, _, _ => false) = true) :
    ∃ t u e d i z, c.callee = .builtin .append ∧ c.argTypes[0]? = some t ∧ c.argTypes[1]? = some u ∧ P.underlying t = some (.slice e) ∧ P.underlying u = some d ∧ notInt d = true ∧ P.info? e = some i ∧ i.size = sz ∧ i.zero = some z ∧
      i.bytes ≤ 65536 ∧ z.cells.size = sz ∧ ∀ u ∈ z.cells.toList, u.oneCell' = true := by
  have key : ∀ e, ((size? P e == some sz) && (match bytes? P e with | some n => decide (n ≤ 65536) | none => false) && (match zero? P e with | some vs => (vs.length == sz) && vs.all Value.oneCell' | none => false)) = true →
      ∃ i z, P.info? e = some i ∧ i.size = sz ∧ i.zero = some z ∧ i.bytes ≤ 65536 ∧ z.cells.size = sz ∧ ∀ u ∈ z.cells.toList, u.oneCell' = true := by
    intro e he
    simp only [Bool.and_eq_true, beq_iff_eq] at he
    obtain ⟨⟨k1, k2⟩, k3⟩ := he
    split at k2 <;> try (cases k2; done)
    rename_i nb hb
    split at k3 <;> try (cases k3; done)
    rename_i vs hz
    simp only [Bool.and_eq_true, beq_iff_eq, decide_eq_true_eq, List.all_eq_true] at k2 k3
    obtain ⟨i, z, e1, e2, e3⟩ := zero?_spec hz
    obtain ⟨i', e1', rfl⟩ := size?_spec k1
    obtain ⟨i'', e1'', rfl⟩ := bytes?_spec hb
    rw [e1] at e1' e1''
    cases e1'
    cases e1''
    exact ⟨i, z, e1, rfl, e2, k2, by rw [← Array.length_toList, e3]; exact k3.1, by rw [e3]; exact k3.2⟩
  split at h <;> try (cases h; done)
  rename_i t u hc ht hu
  split at h <;> try (cases h; done)
  · rename_i e _ d1 d2
    obtain ⟨i, z, k⟩ := key e h
    exact ⟨t, u, e, _, i, z, hc, ht, hu, d1, d2, rfl, k⟩
  · rename_i e d1 d2
    obtain ⟨i, z, k⟩ := key e h
    exact ⟨t, u, e, _, i, z, hc, ht, hu, d1, d2, rfl, k⟩
theorem app_new {sz n0 m _g : Nat} {new : List C} {old cells : List Value} {oldC : List C} {e : TypeId} {z : Array Value} {cap sc : Nat} (ho : RelCs M oldC old) (hol : old.length = n0 * sz) (hoc : oldC.length = n0 * sz)
    (hn : RelCs M new cells) (hcl : cells.length = m * sz) (hnl : new.length = m * sz) (h1 : ∀ u ∈ old, u.oneCell' = true) (h2 : ∀ u ∈ cells, u.oneCell' = true) (hz1 : ∀ u ∈ z.toList, u.oneCell' = true) (hzs : z.size = sz) (hsz : 0 < sz)
    (hcap : cap = grownCap w (n0 + m) sc e) :
    (let arr := old.toArray ++ cells.toArray ++ Builtin.zeroCells z (cap - (n0 + m))
     RelCs M (oldC ++ new) arr.toList ∧ (∀ u ∈ arr.toList, u.oneCell' = true) ∧ arr.size = cap * sz ∧ n0 + m ≤ cap ∧ (oldC ++ new).length = (n0 + m) * sz) := by
  have hge := grownCap_ge w (n0 + m) sc e
  rw [← hcap] at hge
  refine ⟨?_, ?_, ?_, hge, by rw [List.length_append, hoc, hnl, Nat.add_mul]⟩
  · simp only [Array.toList_append]
    exact RelCs.left (RelCs.append ho (by omega) hn)
  · intro u hu
    simp only [Array.toList_append, List.mem_append] at hu
    rcases hu with (hu | hu) | hu
    · exact h1 u hu
    · exact h2 u hu
    · exact zeroCells_one hz1 (by omega) u hu
  · simp only [Array.size_append, List.size_toArray, hol, hcl, size_zeroCells, hzs, ← Nat.add_mul]
    congr 1
    omega
theorem grow_case {id g' off len m : Nat} {cs new : List C} {x y : Value} {yv : V} {c : Call} {t u e : TypeId} {d : TypeDesc} {i : TypeInfo} {z : Value} (hs : Sat P M H 0 w) (h3 : 0 < i.size) (t0 : c.argTypes[0]? = some t) (t1 : c.argTypes[1]? = some u) (hu : P.underlying t = some (.slice e)) (hd : P.underlying u = some d) (hnd : notInt d = true)
    (hi : P.info? e = some i) (hz : i.zero = some z) (hb : i.bytes ≤ 65536) (hzs : z.cells.size = i.size) (hz1 : ∀ u ∈ z.cells.toList, u.oneCell' = true) (he : elems H i.size yv = some (m, new)) (r2 : RelV M yv y)
    (ho : ob? H id = some (.cells cs g' false)) (hcond : off + len * i.size ≤ cs.length) (hbig : len + m ≤ 1073741824) (hm : m ≠ 0) (r1 : RelC M (.os id g' off len i.size Option.none) x)
    (hexec : ∀ v' w', (Builtin.append_ c.argTypes o.type #[x, y]).run P w = .ok v' w' → (execOp ρ o).run P w = .ok (.value v') w') (hK : genK ≤ g' + 1 → genK ≤ g' ∧ e = u8T ∧ off = 0) :
    Eff P M (setOb H id (.cells ((cs.drop off).take (len * i.size) ++ new) (g' + 1) false)) w (execOp ρ o) (.c (.os id (g' + 1) 0 (len + m) i.size Option.none)) := by
  have hsz : size? P e = some i.size := by simp [size?, hi]
  obtain ⟨cells, e1, e2, e3, e4, e5, e6⟩ := elems_rel hs (Sub.refl H) h3 he r2
  obtain ⟨cellsD, f1, f2, f3, f4, f5, f6⟩ := elems_rel hs.drew (Sub.refl H) h3 he r2
  have e6 := e6 m (Nat.le_refl _)
  rw [List.take_of_length_le (by omega)] at e6
  have f6 := f6 m (Nat.le_refl _)
  rw [List.take_of_length_le (by omega)] at f6
  have hel : elems H i.size (.c (.os id g' off len i.size Option.none)) = some (len, (cs.drop off).take (len * i.size)) := by simp [elems, ho, hcond]
  obtain ⟨ad, cp, rfl, hlc, hcap, hcase⟩ := live_os hs (Sub.refl H) ho r1
  obtain ⟨oldsD, p1, p2, p3, p4, p5, p6⟩ := elems_rel hs.drew (Sub.refl H) h3 hel (by rw [relV_c]; exact r1)
  have p6 := p6 len (Nat.le_refl _)
  rw [List.take_of_length_le (by omega)] at p6
  have hgrow := fun (hr : cp < len + m) => run_append_more (ty := o.type) t0 hu t1 hd hnd hi hz e5 p6 f6 hr hbig hb
  have hnewrow := fun (hr : cp < len + m) => app_new (w := w) (M := M) (sz := i.size) (n0 := len) (m := m) (_g := 0) (sc := cp) (e := e) p3 p1 p2 f3 f1 f2 p4 f4 hz1 hzs h3 rfl
  by_cases hroom : len + m ≤ cp
  · -- in place
    rcases hcase with ⟨_, _, rfl, _⟩ | ⟨B, b0, bs, fz', hl, ha, hbs, _⟩
    · omega
    · rcases ha with ha | rfl
      · omega
      · have hmul : (len + m) * i.size ≤ cp * i.size := Nat.mul_le_mul_right _ hroom
        rw [Nat.add_mul] at hmul
        obtain ⟨hg, arr, T, fr, a1, a2, a3, a4, a5, a6⟩ := hs.open ho hl
        obtain ⟨w', arr', s1, s2, s3, s4, s5, s6, s7, s8, s9⟩ := run_storeCells_spl (P := P) cells (b0 + off + len * i.size) 0 arr w a1 (by omega) (by rw [a2]; exact a5) e4
        have hlen2 : ((cs.drop off).take (len * i.size) ++ new).length = (len + m) * i.size := by
          rw [List.length_append, seg_len hcond, e2, Nat.add_mul]
        have hrel : RelCs M ((cs.drop off).take (len * i.size) ++ new) (arr'.toList.drop (b0 + off)) := by
          rw [s3, Nat.add_zero, spl_drop (by simp only [Array.length_toList]; omega)]
          unfold spl
          refine RelCs.left (RelCs.append ?_ ?_ e3)
          · have := (a4.drop off).take' (len * i.size)
            rwa [List.drop_drop] at this
          · rw [seg_len hcond]
            simp only [List.length_take, List.length_drop, Array.length_toList]
            omega
        obtain ⟨q1, q2⟩ := Sat.write (w' := w') (B1 := B) (b1 := b0 + off) (bs1 := bs) (g1 := g' + 1) (cs' := (cs.drop off).take (len * i.size) ++ new) hs ho hl hg (.inr (by omega)) s2 (.inl rfl) (fun b _ hb => s5 b hb) (by omega) s7 s8 s9 (by omega)
          (by rw [hlen2, Nat.add_mul]; omega) hrel a5 (by rw [s3]; exact spl_one a6 e4) (tyKeep a1 s2 (fun b hb => s5 b hb)) (fun hk => by
            obtain ⟨q1, q2⟩ := hs.bty id B b0 bs hl (by rw [hg]; exact (hK hk).1)
            obtain ⟨a', f', hh⟩ := hs.ty _ _ q1
            rw [a1] at hh
            cases hh
            exact ⟨rfl, by rw [q2, (hK hk).2.2]⟩)
        refine ⟨_, w', _, hexec _ _ (run_append_fit t0 hu t1 hd hnd hsz e5 e6 hroom (by simp only [add_at]; exact s1)), .inl ⟨_, rfl, ?_⟩, q1, q2⟩
        rw [relV_c]
        simp only [RelC, MM.put, if_true]
        exact ⟨hs.id_lt hl, Nat.le_refl _, _, _, rfl, hroom, .inr ⟨_, _, rfl⟩, (fun k hk => by cases hk), fun _ => by simp only [OsAt]; exact ⟨.inr (by rw [Nat.add_zero]), by omega⟩⟩
  · -- a new row
    have hrun := hgrow (by omega)
    obtain ⟨g1, g2, g3, g4, g5⟩ := hnewrow (by omega)
    rcases hcase with ⟨hl, rfl, rfl, rfl⟩ | ⟨B, b0, bs, fz', hl, ha, hbs, _⟩
    · -- the object was a nil slice
      have hgen : M.gen id = g' := by
        obtain ⟨o', k1, k2⟩ := hs.obj id _ hl
        rw [ho] at k1
        cases k1
        simp only [ObSat] at k2
        exact k2.2
      obtain ⟨q1, q2⟩ := Sat.write0 (w' := w.drew.alloc (.cells (oldsD.toArray ++ cellsD.toArray ++ Builtin.zeroCells z.cells (grownCap w (len + m) 0 e - (len + m))) e)) (B1 := w.heap.size) (b1 := 0) (bs1 := grownCap w (len + m) 0 e * i.size) (g1 := g' + 1)
        (cs' := List.take (len * i.size) (List.drop off []) ++ new) hs ho hl hgen (.inr (by omega)) (T' := e) (fr' := (0, 0)) (arr' := oldsD.toArray ++ cellsD.toArray ++ Builtin.zeroCells z.cells (grownCap w (len + m) 0 e - (len + m)))
        (by show (w.heap.push _)[w.heap.size]? = _; simp) (.inr (Nat.le_refl _)) (fun b hb _ => by show (w.heap.push _)[b]? = _; rw [Array.getElem?_push, if_neg (Nat.ne_of_lt hb)]) (by show _ ≤ (w.heap.push _).size; simp)
        rfl rfl rfl g3 (by rw [g5, Nat.zero_add]; exact Nat.mul_le_mul_right _ g4) (by simpa using g1) (thawed0 _) g2 (tyGrow fun b hb => by show (w.heap.push _)[b]? = _; rw [Array.getElem?_push, if_neg (Nat.ne_of_lt hb)]) (fun hk => ⟨(hK hk).2.1, rfl⟩)
      refine ⟨_, _, _, hexec _ _ hrun, .inl ⟨_, rfl, ?_⟩, q1, q2⟩
      rw [relV_c]
      simp only [RelC, MM.put, if_true]
      exact ⟨hs.id_lt hl, Nat.le_refl _, _, _, rfl, g4, .inr ⟨_, _, rfl⟩, (fun k hk => by cases hk), fun _ => by simp only [OsAt]; exact ⟨.inr trivial, by omega⟩⟩
    · have hg := (hs.open ho hl).1
      obtain ⟨q1, q2⟩ := Sat.write (w' := w.drew.alloc (.cells (oldsD.toArray ++ cellsD.toArray ++ Builtin.zeroCells z.cells (grownCap w (len + m) cp e - (len + m))) e)) (B1 := w.heap.size) (b1 := 0) (bs1 := grownCap w (len + m) cp e * i.size) (g1 := g' + 1)
        (cs' := (cs.drop off).take (len * i.size) ++ new) hs ho hl hg (.inr (by omega)) (T' := e) (fr' := (0, 0)) (arr' := oldsD.toArray ++ cellsD.toArray ++ Builtin.zeroCells z.cells (grownCap w (len + m) cp e - (len + m)))
        (by show (w.heap.push _)[w.heap.size]? = _; simp) (.inr (Nat.le_refl _)) (fun b hb _ => by show (w.heap.push _)[b]? = _; rw [Array.getElem?_push, if_neg (Nat.ne_of_lt hb)]) (by show _ ≤ (w.heap.push _).size; simp)
        rfl rfl rfl g3 (by rw [g5, Nat.zero_add]; exact Nat.mul_le_mul_right _ g4) (by simpa using g1) (thawed0 _) g2 (tyGrow fun b hb => by show (w.heap.push _)[b]? = _; rw [Array.getElem?_push, if_neg (Nat.ne_of_lt hb)]) (fun hk => ⟨(hK hk).2.1, rfl⟩)
      refine ⟨_, _, _, hexec _ _ hrun, .inl ⟨_, rfl, ?_⟩, q1, q2⟩
      rw [relV_c]
      simp only [RelC, MM.put, if_true]
      exact ⟨hs.id_lt hl, Nat.le_refl _, _, _, rfl, g4, .inr ⟨_, _, rfl⟩, (fun k hk => by cases hk), fun _ => by simp only [OsAt]; exact ⟨.inr trivial, by omega⟩⟩
theorem e_app {sz : Nat} {a b : A} {E : Env} {v : V} (hs : Sat P M H 0 w) (hA : ∀ x a, okA k x a = true → RelV M (lk a) (ρ x)) (hok : okOp P k o (.app sz a b) = true) (h : stepE E lk H (.app sz a b) = some (v, H')) : Eff P M H' w (execOp ρ o) v := by
  cases hop : o.op <;> simp only [okOp, hop] at hok <;> try (cases hok; done)
  rename_i c
  rw [Bool.and_eq_true, Bool.and_eq_true] at hok
  obtain ⟨⟨h1, h2⟩, h3⟩ := hok
  rw [decide_eq_true_eq] at h3
  obtain ⟨x, y, hargs, r1, r2⟩ := call2 hA h2
  obtain ⟨t, u, e, d, i, z, hc, t0, t1, hu, hd, hnd, hi, rfl, hz, hb, hzs, hz1⟩ := app_types h1
  have hsz : size? P e = some i.size := by simp [size?, hi]
  simp only [stepE] at h
  split at h <;> try (cases h; done)
  rename_i m new he
  obtain ⟨cells, e1, e2, e3, e4, e5, e6⟩ := elems_rel hs (Sub.refl H) h3 he r2
  obtain ⟨cellsD, f1, f2, f3, f4, f5, f6⟩ := elems_rel hs.drew (Sub.refl H) h3 he r2
  have e6 := e6 m (Nat.le_refl _)
  rw [List.take_of_length_le (by omega)] at e6
  have f6 := f6 m (Nat.le_refl _)
  rw [List.take_of_length_le (by omega)] at f6
  have hexec : ∀ v' w', (Builtin.append_ c.argTypes o.type #[x, y]).run P w = .ok v' w' → (execOp ρ o).run P w = .ok (.value v') w' := by
    intro v' w' hrun
    exact exec_builtin hop hc (fun cs => rfl) (by rw [hargs]; exact hrun)
  have none : ∀ ad len cp, x = .slice ad len cp → len ≤ cp → m = 0 → (execOp ρ o).run P w = .ok (.value x) w := by
    intro ad len cp hx hle hm
    subst hm hx
    have : cells = [] := List.eq_nil_of_length_eq_zero (by omega)
    subst this
    exact hexec _ _ (run_append_fit t0 hu t1 hd hnd hsz e5 e6 (by omega) (by cases ad <;> rfl))
  split at h <;> try (cases h; done)
  · rename_i hx
    rw [hx, relV_nils] at r1
    split at h
    · rename_i hm
      simp only [Option.some.injEq, Prod.mk.injEq] at h
      obtain ⟨rfl, rfl⟩ := h
      exact ⟨_, w, M, none _ _ _ r1 (Nat.le_refl _) hm, .inl ⟨_, rfl, by rw [relV_nils]; exact r1⟩, hs, Fr.refl M w⟩
    · rename_i hm
      split at h <;> try (cases h; done)
      rename_i hbig
      simp only [Option.some.injEq, Prod.mk.injEq] at h
      obtain ⟨rfl, rfl⟩ := h
      subst r1
      have hrun := run_append_more (ty := o.type) (old := []) (base := Option.none) (sLen := 0) (sCap := 0) t0 hu t1 hd hnd hi hz e5 (by simp [Builtin.firstCells]) f6 (by omega) (by omega) hb
      obtain ⟨g1, g2, g3, g4, g5⟩ := app_new (w := w) (M := M) (sz := i.size) (n0 := 0) (m := m) (_g := 0) (old := []) (oldC := []) (sc := 0) (e := e) (RelCs.nil _ _) (by simp) (by simp) f3 f1 f2 (by simp) f4 hz1 hzs h3 rfl
      have hw : Wide H (H ++ [Ob.cells new 0 false]) := ⟨by simp, fun id o ho => ⟨o, by rw [ob?_eq] at ho ⊢; rw [List.getElem?_append_left (List.getElem?_eq_some_iff.1 ho).1]; exact ho, Frz.refl o⟩⟩
      obtain ⟨s1, s2⟩ := hs.wide hw
      have hn0 : (M.more (H ++ [Ob.cells new 0 false]).length).loc H.length = Option.none := (hs.out _ (by rw [hs.n]; exact Nat.le_refl _)).1
      obtain ⟨s3, s4⟩ := Sat.alloc (X := fun _ => False) (w' := w.drew.alloc _) s1 (id := H.length) (cs := new) (fz := false) (by rw [ob?_eq, List.getElem?_append_right (Nat.le_refl _), Nat.sub_self]; rfl) hn0 rfl rfl rfl rfl (by simpa using RelCs.mono s2.ext g1) (thawed0 _) g2
      simp only [Nat.zero_add] at g4 hrun s3 s4 g3 ⊢
      refine ⟨_, _, _, hexec _ _ hrun, .inl ⟨_, rfl, ?_⟩, s3, s2.transX s4 (fun _ h => h.elim)⟩
      have hN : New (M.more (H ++ [Ob.cells new 0 false]).length) (H ++ [Ob.cells new 0 false]) H new := ⟨⟨false, by rw [ob?_eq, List.getElem?_append_right (Nat.le_refl _), Nat.sub_self]; rfl⟩, hn0⟩
      exact hN.slice s1 g4 (by rw [g3]; exact Nat.le_refl _) (fun k hk => by cases hk)
  · rename_i cs len hx
    rw [hx, relV_d] at r1
    split at h <;> try (cases h; done)
    rename_i hm
    simp only [Option.some.injEq, Prod.mk.injEq] at h
    obtain ⟨rfl, rfl⟩ := h
    have r1' := r1
    simp only [RelD] at r1'
    obtain ⟨ad, cp, hv, hle, _⟩ := r1'
    exact ⟨_, w, M, none _ _ _ hv hle hm, .inl ⟨_, rfl, by rw [relV_d]; exact r1⟩, hs, Fr.refl M w⟩
  · rename_i id g off len sz' cap hx
    rw [hx, relV_c] at r1
    split at h <;> try (cases h; done)
    rename_i cs g' fz ho
    split at h
    · rename_i hm
      simp only [Option.some.injEq, Prod.mk.injEq] at h
      obtain ⟨rfl, rfl⟩ := h
      have r1' := r1
      simp only [RelC] at r1'
      obtain ⟨_, _, ad, cp, hv, hle, _⟩ := r1'
      exact ⟨_, w, M, none _ _ _ hv hle hm.1, .inl ⟨_, rfl, by rw [relV_c]; exact r1⟩, hs, Fr.refl M w⟩
    · rename_i hm0
      split at h <;> try (cases h; done)
      rename_i hcond
      obtain ⟨rfl, rfl, hcond, hbig⟩ := hcond
      have hm : m ≠ 0 := fun h' => hm0 ⟨h', rfl⟩
      have hel : elems H i.size (.c (.os id g' off len i.size cap)) = some (len, (cs.drop off).take (len * i.size)) := by simp [elems, ho, hcond]
      obtain ⟨ad, cp, rfl, hlc, hcap, hcase⟩ := live_os hs (Sub.refl H) ho r1
      obtain ⟨oldsD, p1, p2, p3, p4, p5, p6⟩ := elems_rel hs.drew (Sub.refl H) h3 hel (by rw [relV_c]; exact r1)
      have p6 := p6 len (Nat.le_refl _)
      rw [List.take_of_length_le (by omega)] at p6
      have hgrow := fun (hr : cp < len + m) => run_append_more (ty := o.type) t0 hu t1 hd hnd hi hz e5 p6 f6 hr hbig hb
      have hnewrow := fun (hr : cp < len + m) => app_new (w := w) (M := M) (sz := i.size) (n0 := len) (m := m) (_g := 0) (sc := cp) (e := e) p3 p1 p2 f3 f1 f2 p4 f4 hz1 hzs h3 rfl
      split at h
      · rename_i cc
        have hcc : cp = cc := hcap cc rfl
        subst hcc
        split at h
        · rename_i hroom
          split at h <;> try (cases h; done)
          rename_i hfz
          simp only [Bool.not_eq_true] at hfz
          subst hfz
          simp only [Option.some.injEq, Prod.mk.injEq] at h
          obtain ⟨rfl, rfl⟩ := h
          rcases hcase with ⟨_, _, rfl, _⟩ | ⟨B, b0, bs, fz', hl, ha, hbs, _⟩
          · omega
          · rcases ha with ha | rfl
            · omega
            · have hmul : (len + m) * i.size ≤ cp * i.size := Nat.mul_le_mul_right _ hroom
              rw [Nat.add_mul] at hmul
              obtain ⟨w', M', s1, s2, s3, s4, s5⟩ := store_row (P := P) hs ho hl (off := off + len * i.size) e3 (by omega) (by omega) (by rw [e1]; omega) e4
              rw [← Nat.add_assoc] at s1
              refine ⟨_, w', M', hexec _ _ (run_append_fit t0 hu t1 hd hnd hsz e5 e6 hroom (by simp only [add_at]; exact s1)), .inl ⟨_, rfl, ?_⟩, s2, s3⟩
              rw [relV_c]
              have r2 := RelC.mono s3.ext r1
              simp only [RelC] at r2 ⊢
              obtain ⟨q1, q2, a', c', q3, q4, q5, q6, q7⟩ := r2
              cases q3
              exact ⟨q1, q2, _, _, rfl, hroom, q5, q6, q7⟩
        · rename_i hroom
          simp only [Option.some.injEq, Prod.mk.injEq] at h
          obtain ⟨rfl, rfl⟩ := h
          have hrun := hgrow (by omega)
          obtain ⟨g1, g2, g3, g4, g5⟩ := hnewrow (by omega)
          have hw : Wide H (H ++ [Ob.cells ((cs.drop off).take (len * i.size) ++ new) 0 false]) := ⟨by simp, fun id o ho => ⟨o, by rw [ob?_eq] at ho ⊢; rw [List.getElem?_append_left (List.getElem?_eq_some_iff.1 ho).1]; exact ho, Frz.refl o⟩⟩
          obtain ⟨s1, s2⟩ := hs.wide hw
          have hn0 : (M.more (H ++ [Ob.cells ((cs.drop off).take (len * i.size) ++ new) 0 false]).length).loc H.length = Option.none := (hs.out _ (by rw [hs.n]; exact Nat.le_refl _)).1
          obtain ⟨s3, s4⟩ := Sat.alloc (X := fun _ => False) (w' := w.drew.alloc _) s1 (id := H.length) (cs := (cs.drop off).take (len * i.size) ++ new) (fz := false) (by rw [ob?_eq, List.getElem?_append_right (Nat.le_refl _), Nat.sub_self]; rfl) hn0 rfl rfl rfl rfl (by simpa using RelCs.mono s2.ext g1) (thawed0 _) g2
          refine ⟨_, _, _, hexec _ _ hrun, .inl ⟨_, rfl, ?_⟩, s3, s2.transX s4 (fun _ h => h.elim)⟩
          have hN : New (M.more (H ++ [Ob.cells ((cs.drop off).take (len * i.size) ++ new) 0 false]).length) (H ++ [Ob.cells ((cs.drop off).take (len * i.size) ++ new) 0 false]) H _ := ⟨⟨false, by rw [ob?_eq, List.getElem?_append_right (Nat.le_refl _), Nat.sub_self]; rfl⟩, hn0⟩
          exact hN.slice s1 g4 (by rw [g3]; exact Nat.le_refl _) (fun k hk => by cases hk)
      · split at h <;> try (cases h; done)
        rename_i hfz
        simp only [Bool.not_eq_true] at hfz
        subst hfz
        split at h <;> try (cases h; done)
        rename_i hgk
        simp only [Option.some.injEq, Prod.mk.injEq] at h
        obtain ⟨rfl, rfl⟩ := h
        exact grow_case hs h3 t0 t1 hu hd hnd hi hz hb hzs hz1 he r2 ho hcond hbig hm r1 hexec (fun hK => by omega)
theorem e_apb {a b : A} {E : Env} {v : V} (hs : Sat P M H 0 w) (hA : ∀ x a, okA k x a = true → RelV M (lk a) (ρ x)) (hok : okOp P k o (.apb a b) = true) (h : stepE E lk H (.apb a b) = some (v, H')) : Eff P M H' w (execOp ρ o) v := by
  cases hop : o.op <;> simp only [okOp, hop] at hok <;> try (cases hok; done)
  rename_i c
  rw [Bool.and_eq_true, Bool.and_eq_true] at hok
  obtain ⟨⟨h1, h2⟩, h5⟩ := hok
  obtain ⟨x, y, hargs, r1, r2⟩ := call2 hA h2
  obtain ⟨t, u, e, d, i, z, hc, t0, t1, hu, hd, hnd, hi, his, hz, hb, hzs, hz1⟩ := app_types h1
  rw [t0] at h5
  simp only [hu, beq_iff_eq] at h5
  have h3 : 0 < i.size := by omega
  have hsz : size? P e = some i.size := by simp [size?, hi]
  simp only [stepE] at h
  rw [← his] at hzs
  split at h <;> try (cases h; done)
  rename_i m new he
  rw [← his] at he
  obtain ⟨cells, e1, e2, e3, e4, e5, e6⟩ := elems_rel hs (Sub.refl H) h3 he r2
  have e6 := e6 m (Nat.le_refl _)
  rw [List.take_of_length_le (by omega)] at e6
  have hexec : ∀ v' w', (Builtin.append_ c.argTypes o.type #[x, y]).run P w = .ok v' w' → (execOp ρ o).run P w = .ok (.value v') w' := by
    intro v' w' hrun
    exact exec_builtin hop hc (fun cs => rfl) (by rw [hargs]; exact hrun)
  split at h <;> try (cases h; done)
  rename_i id g off len sz' hx
  rw [hx, relV_c] at r1
  split at h <;> try (cases h; done)
  rename_i cs g' fz ho
  split at h
  · rename_i hm
    simp only [Option.some.injEq, Prod.mk.injEq] at h
    obtain ⟨rfl, rfl⟩ := h
    have r1' := r1
    simp only [RelC] at r1'
    obtain ⟨_, _, ad, cp, hv, hle, _⟩ := r1'
    obtain ⟨hm, _⟩ := hm
    subst hm
    have hc0 : cells = [] := List.eq_nil_of_length_eq_zero (by omega)
    subst hc0
    subst hv
    exact ⟨_, w, M, hexec _ _ (run_append_fit t0 hu t1 hd hnd hsz e5 e6 (by omega) (by cases ad <;> rfl)), .inl ⟨_, rfl, by rw [relV_c]; exact r1⟩, hs, Fr.refl M w⟩
  · rename_i hm0
    split at h <;> try (cases h; done)
    rename_i hcond
    obtain ⟨rfl, rfl, hcond, hbig⟩ := hcond
    have hm : m ≠ 0 := fun h' => hm0 ⟨h', rfl⟩
    split at h <;> try (cases h; done)
    rename_i hfz
    simp only [Bool.not_eq_true] at hfz
    subst hfz
    split at h <;> try (cases h; done)
    rename_i hgk
    simp only [Option.some.injEq, Prod.mk.injEq] at h
    obtain ⟨rfl, rfl⟩ := h
    have key := grow_case hs h3 t0 t1 hu hd hnd hi hz hb hzs hz1 he r2 ho (by rw [his]; exact hcond) hbig hm (by rw [his]; exact r1) hexec (fun _ => ⟨hgk.1, h5, hgk.2⟩)
    rw [his] at key
    exact key
end
end Mini
end Go.Proofs.YtgjlofpfbhioaaaGreatDoor
