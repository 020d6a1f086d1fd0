/-
  Every operation that writes nothing and calls nothing.
-/
import Derived.Test.YtmcgaakbkgdljaaGreatDoorMiniE10
namespace Go.Proofs.YtmcgaakbkgdljaaGreatDoor
namespace Mini
open Go

section
variable {P : Program} {M : MM} {w w' : World} {k : K} {o : Oper} {lk : A → V} {ρ : Operand → Value} {Hi H H' : Heap}

/-- Calls, and the two that go together. -/
def O.apartOnes : O → Bool
  | .vc .. | .pc .. | .pre | .ini .. => true
  | _ => false

/-- A new object of one block, that is none of cells. -/
theorem Sat.allocO {ob : Ob} {x : Obj} {id : Nat} {X : Nat → Prop} (hs : Sat P M H 0 w) (ho : ob? H id = some ob) (hl : M.loc id = none) (hd : ob ≠ .dead)
    (hq : ∀ w' : World, w'.heap[w.heap.size]? = some x → ObSat P (M.lay id w.heap.size 0) w' 0 id ob (some (w.heap.size, 0, 0))) :
    Sat P (M.lay id w.heap.size 0) H 0 (w.alloc x) ∧ FrX X M (M.lay id w.heap.size 0) w (w.alloc x) := by
  have hext := MM.lay_ext (M := M) (id := id) (B := w.heap.size) (n := 0) hl
  have hid : id < H.length := ob?_lt ho
  have hg0 : M.gen id = 0 := (hs.idle id _ ho hl).resolve_left hd
  obtain ⟨hat, hkeep⟩ := MapKept.heap_alloc w x
  refine ⟨⟨hs.n, ?_, ?_, ?_, ?_, ?_, ?_, ?_⟩, ⟨hext, rfl, rfl, rfl, by simp, fun b hb _ _ => hkeep b hb, ?_, fun b o h => .inl h⟩⟩
  · intro j hj
    have := hs.out j hj
    refine ⟨?_, this.2⟩
    simp only [MM.lay]
    rw [if_neg (by have := hs.n; simp only [MM.lay] at hj; omega)]
    exact this.1
  · intro b o hb
    have hb' := hs.imm b o hb
    rw [hkeep b (Array.getElem?_eq_some_iff.1 hb').1]
    exact hb'
  · intro j l hj
    simp only [MM.lay] at hj
    split at hj
    · rename_i e
      subst e
      simp only [Option.some.injEq] at hj
      subst hj
      exact ⟨_, ho, hq _ hat⟩
    · obtain ⟨o', ho', hos⟩ := hs.obj j l hj
      refine ⟨o', ho', hos.keep hext rfl (fun b c d hlb => ?_) (fun b hb => ?_)⟩
      · subst hlb
        exact ⟨hkeep b (hs.block_lt ⟨j, c, d, hj⟩), fun h => h⟩
      · rw [hkeep b (Array.getElem?_eq_some_iff.1 hb).1]; exact hb
  · intro j o' ho' hj
    simp only [MM.lay] at hj
    split at hj
    · cases hj
    · exact hs.idle j o' ho' hj
  · intro j j' b c d c' d' e1 e2
    simp only [MM.lay] at e1 e2
    split at e1 <;> split at e2
    · omega
    · simp only [Option.some.injEq, Prod.mk.injEq] at e1
      have := hs.block_lt ⟨j', c', d', e2⟩
      omega
    · simp only [Option.some.injEq, Prod.mk.injEq] at e2
      have := hs.block_lt ⟨j, c, d, e1⟩
      omega
    · exact hs.inj j j' b c d c' d' e1 e2
  · intro b t hb
    obtain ⟨a, f, hh⟩ := hs.ty b t hb
    exact ⟨a, f, by rw [hkeep b (Array.getElem?_eq_some_iff.1 hh).1]; exact hh⟩
  · intro j b c d hj hg
    simp only [MM.lay] at hj hg
    split at hj
    · rename_i e
      subst e
      rw [hg0] at hg
      exact absurd hg (by decide)
    · exact hs.bty j b c d hj hg
  · rintro b ⟨j, c, d, hj⟩
    simp only [MM.lay] at hj
    split at hj
    · simp only [Option.some.injEq, Prod.mk.injEq] at hj
      exact .inr (.inl (by omega))
    · exact .inl ⟨j, c, d, hj⟩

theorem run_mkc {P : Program} {w : World} {t e : TypeId} {dir : ChanDir} {it : TypeInfo} {kd : IntKind} {m : Nat} (hu : P.underlying t = some (.chan dir e)) (h1 : P.info? e = some it) (hm : m ≤ 1073741824) (hb : it.bytes * m ≤ 1073741824) :
    (Instr.makeChan t (.int kd (m : Int))).run P w = .ok (.chan (some w.heap.size)) (w.alloc (.chan m #[] false 0 0 false)) := by
  have hn1 : ¬ ((m : Int) < 0) := by omega
  have hn2 : ¬ ((m : Int) > IntKind.i64.max) := by
    have : IntKind.i64.max = 9223372036854775807 := rfl
    rw [this]; omega
  have hb' : (it.bytes : Int) * (m : Int) ≤ 1073741824 := by
    rw [← Int.natCast_mul]
    generalize it.bytes * m = p at hb
    omega
  have hn3 : ¬ ((it.bytes : Int) * (m : Int) > 2 ^ 48 - 112) := by omega
  have hc : ¬ ((m : Int) < 0 ∨ (m : Int) > IntKind.i64.max ∨ (it.bytes : Int) * (m : Int) > 2 ^ 48 - 112) := by
    rintro (h | h | h)
    · exact hn1 h
    · exact hn2 h
    · exact hn3 h
  have hti : (typeInfo e).run P w = .ok it w := by simp [typeInfo, h1]
  have hai : (Go.asInt (.int kd (m : Int))).run P w = .ok (m : Int) w := by rfl
  unfold Instr.makeChan
  rw [Sem.run_bind, hai, Result.andThen_ok, Sem.run_bind, run_underlying hu, Result.andThen_ok]
  simp only []
  rw [Sem.run_bind, hti, Result.andThen_ok]
  rw [if_neg hc]
  rfl

/-- A channel made. -/
theorem a_mkc {bytes : Nat} {a : A} {v : V} {n : List Ob} {X : Nat → Prop} (hs : Sat P M H 0 w) (hA : ∀ x a, okA k x a = true → RelV M (lk a) (ρ x)) (hok : okOp P k o (.mkc bytes a) = true) (h : stepP lk Hi (.mkc bytes a) = some (v, n))
    (hch : ∀ cap, n = [.chn cap []] → ob? H Hi.length = some (.chn cap []) ∧ M.loc Hi.length = none) : Did P M H w (execOp ρ o) v (· = Hi.length) X := by
  cases hop : o.op <;> simp only [okOp, hop] at hok <;> try (cases hok; done)
  rename_i t x
  simp only [Bool.and_eq_true] at hok
  obtain ⟨h1, h2⟩ := hok
  split at h1 <;> try (cases h1; done)
  rename_i dir e hu
  simp only [beq_iff_eq, bytes?, Option.map_eq_some_iff] at h1
  obtain ⟨it, h1, rfl⟩ := h1
  have r1 := hA _ _ h2
  simp only [stepP] at h
  split at h <;> try (cases h; done)
  rename_i m hm
  split at h <;> try (cases h; done)
  rename_i hcap
  simp only [Option.some.injEq, Prod.mk.injEq] at h
  obtain ⟨rfl, rfl⟩ := h
  obtain ⟨ho, hl⟩ := hch _ rfl
  obtain ⟨kd, hx⟩ := asNat_rel hm r1
  have hg0 : M.gen Hi.length = 0 := (hs.idle _ _ ho hl).resolve_left (fun h => by cases h)
  obtain ⟨s1, s2⟩ := Sat.allocO (X := X) (x := .chan m #[] false 0 0 false) hs ho hl (fun h => by cases h) fun w' hw => by
    simp only [ObSat]
    exact ⟨hg0, #[], 0, 0, hw, Nat.zero_le _, hs.imm_lt (Nat.le_refl _), rfl, RelDs.nil _ _⟩
  refine ⟨.value (.chan (some w.heap.size)), w.alloc (.chan m #[] false 0 0 false), _, ?_, .inl ⟨_, rfl, ?_⟩, s1, s2, fun id hid => by simp only [MM.lay]; rw [if_neg hid]⟩
  · have := run_mkc (w := w) (kd := kd) hu h1 hcap.1 hcap.2
    rw [← hx] at this
    simp only [execOp, hop, Sem.run_bind, this, Result.andThen_ok, Sem.run_pure]
  · rw [relV_c]
    simp only [RelC]
    exact ⟨show Hi.length < M.n by rw [hs.n]; exact ob?_lt ho, _, rfl, fun _ => ⟨0, 0, by simp [MM.lay]⟩⟩

theorem a_all {p : O} {v : V} {n : List Ob} {X : Nat → Prop} (hs : Sat P M H 0 w) (hsub : noHeap p = false → (∀ g m a, p ≠ .ld g m a) → Sub Hi H)
    (hld : ∀ g m a, p = .ld g m a → ∀ id gen off, lk a = .c (.ptr id gen off) → ∀ o, ob? Hi id = some o → ∃ o', ob? H id = some o' ∧ Same o o')
    (hA : ∀ x a, okA k x a = true → RelV M (lk a) (ρ x)) (hc : ∀ x, ρ (.const x) = x) (hok : okOp P k o p = true) (hpe : p.eff = false) (hpa : p.apartOnes = false)
    (h : stepP lk Hi p = some (v, n)) (hn : ∀ cs g fz, n = [.cells cs g fz] → New M H Hi cs) (hch : ∀ cap, n = [.chn cap []] → ob? H Hi.length = some (.chn cap []) ∧ M.loc Hi.length = none) : Did P M H w (execOp ρ o) v (fun id => n ≠ [] ∧ id = Hi.length) X := by
  cases p with
  | mov a => exact Quiet.did hs (q_mov hA hok h)
  | pick c a b => exact Quiet.did hs (q_pick hA hok h)
  | bin op a b => exact Quiet.did hs (q_bin hA hok h)
  | beq neg a b => exact Quiet.did hs (q_beq hA hok h)
  | isn neg a => exact Quiet.did hs (q_isn hA hc hok h)
  | eqa neg m a b => exact Quiet.did hs (q_eqa hA hok h)
  | un op a => exact Quiet.did hs (q_un hA hok h)
  | cvi kd a => exact Quiet.did hs (q_cvi hA hok h)
  | cvs a => exact Quiet.did hs (q_cvs hA hok h)
  | s2b a => exact (a_s2b hs hA hok h hn).imp (fun id hid => ⟨by intro e; subst e; simp only [stepP] at h; (repeat' split at h) <;> simp at h, hid⟩)
  | b2s a => exact Quiet.did hs (q_b2s hs (hsub rfl (fun _ _ _ e => by cases e)) hA hok h)
  | new z => exact (a_new hs hok h hn).imp (fun id hid => ⟨by intro e; subst e; simp only [stepP] at h; (repeat' split at h) <;> simp at h, hid⟩)
  | newb t => exact (a_newb hs hok h hn).imp (fun id hid => ⟨by intro e; subst e; simp only [stepP] at h; (repeat' split at h) <;> simp at h, hid⟩)
  | box a => exact (a_box hs hA hok h hn).imp (fun id hid => ⟨by intro e; subst e; simp only [stepP] at h; (repeat' split at h) <;> simp at h, hid⟩)
  | pre => cases hpa
  | ini m a => cases hpa
  | apn sz b => exact a_apn hs (hsub rfl (fun _ _ _ e => by cases e)) hA hc hok h hn
  | bld z ps => exact Quiet.did hs (q_bld hA hok h)
  | bsl len sz z ps => exact (a_bsl hs hA hok h hn).imp (fun id hid => ⟨by intro e; subst e; simp only [stepP] at h; (repeat' split at h) <;> simp at h, hid⟩)
  | ld g m a => exact Quiet.did hs (q_ld hs (hld g m a rfl) hA hok h)
  | fa off a => exact Quiet.did hs (q_fa hA hok h)
  | fld g off m a => exact Quiet.did hs (q_fld hA hok h)
  | ixp len sz a i => exact Quiet.did hs (q_ixp hA hok h)
  | ixa sz a i => exact Quiet.did hs (q_ixa hA hok h)
  | ixs a i => exact Quiet.did hs (q_ixs hA hok h)
  | ixg g len sz a i => exact Quiet.did hs (q_ixg hA hok h)
  | sls a lo hi => exact Quiet.did hs (q_sls hA hok h)
  | slc sz a lo hi mx => exact Quiet.did hs (q_slc hA hok h)
  | slp len sz a lo hi mx => exact Quiet.did hs (q_slp hs (hsub rfl (fun _ _ _ e => by cases e)) hA hok h)
  | mks sz b z l c => exact (a_mks hs hA hok h hn).imp (fun id hid => ⟨by intro e; subst e; simp only [stepP] at h; (repeat' split at h) <;> simp at h, hid⟩)
  | ext a i => exact Quiet.did hs (q_ext hA hok h)
  | len a => exact Quiet.did hs (q_len hA hok h)
  | lns a => exact Quiet.did hs (q_lns hA hok h)
  | cap a => exact Quiet.did hs (q_cap hA hok h)
  | mm mx a b => exact Quiet.did hs (q_mm hA hok h)
  | mkf f first caps => exact Quiet.did hs (q_mkf hA hok h)
  | mki a => exact Quiet.did hs (q_mki hA hok h)
  | nlc a =>
    refine Quiet.did hs (q_nlc hA hok h ?_)
    intro id g off x hx r
    rw [hx, relV_c] at r
    simp only [RelC] at r
    obtain ⟨_, _, ⟨B, y, rfl⟩, _⟩ := r
    exact ⟨_, rfl⟩
  | vc f args => cases hpa
  | pc f args => cases hpa
  | st m a b => cases hpe
  | app sz a b => cases hpe
  | apb a b => cases hpe
  | cpy sz a b => cases hpe
  | hc f args => cases hpe
  | bc f a args => cases hpe
  | pan => cases hpe
  | mkm => cases hpe
  | mpu g ks m k v => cases hpe
  | mkc b a =>
    refine (a_mkc hs hA hok h hch).imp fun id hid => ⟨fun e => ?_, hid⟩
    subst e
    simp only [stepP] at h
    split at h <;> try (cases h; done)
    split at h <;> cases h
  | lkp ok z g ks m k => cases hpe
  | mdl g ks m k => cases hpe
  | lnm a => cases hpe
  | rgs a => cases hpe
  | nxs a => cases hpe
  | rgm a => cases hpe
  | ent a => cases hpe
  | clr sz z a => cases hpe
  | ivc tbl a args => cases hpe
  | eqk neg ks a b => exact Quiet.did hs (q_eqk hA hok h)
  | isz kd neg a => exact Quiet.did hs (q_isz hA hc hok h)
  | mkt t a => exact Quiet.did hs (q_mkt hA hok h)
  | tas t m g ok z a => exact Quiet.did hs (q_tas hA hok h)

/-- What a quiet operation lays: nothing, or one object. -/
theorem stepP_news {p : O} {v : V} {n : List Ob} (h : stepP lk Hi p = some (v, n)) : n = [] ∨ (((∃ cs, n = [.cells cs 0 false]) ∨ ∃ cap, n = [.chn cap []]) ∧ noHeap p = false ∧ ∀ g m a, p ≠ .ld g m a) := by
  have none' : ∀ {α : Type} {x : Option α} {f : α → V}, (x.map fun z => (f z, ([] : List Ob))) = some (v, n) → n = [] := by
    intro α x f hx
    simp only [Option.map_eq_some_iff, Prod.mk.injEq] at hx
    obtain ⟨_, _, _, rfl⟩ := hx
    rfl
  cases p with
  | mkc b a =>
    simp only [stepP] at h
    split at h <;> try (cases h; done)
    split at h <;> try (cases h; done)
    simp only [Option.some.injEq, Prod.mk.injEq] at h
    obtain ⟨_, rfl⟩ := h
    exact .inr ⟨.inr ⟨_, rfl⟩, rfl, fun _ _ _ e => by cases e⟩
  | newb t =>
    simp only [stepP, Option.some.injEq, Prod.mk.injEq] at h
    obtain ⟨_, rfl⟩ := h
    exact .inr ⟨.inl ⟨_, rfl⟩, rfl, fun _ _ _ e => by cases e⟩
  | bsl len sz z ps =>
    simp only [stepP, Option.map_eq_some_iff, Prod.mk.injEq] at h
    obtain ⟨cs, _, _, rfl⟩ := h
    exact .inr ⟨.inl ⟨_, rfl⟩, rfl, fun _ _ _ e => by cases e⟩
  | _ =>
    simp only [stepP] at h
    repeat' split at h
    all_goals first
      | (cases h; done)
      | exact .inl (none' h)
      | (simp only [Option.some.injEq, Prod.mk.injEq] at h
         obtain ⟨_, rfl⟩ := h
         first | exact .inl rfl | exact .inr ⟨.inl ⟨_, rfl⟩, rfl, fun _ _ _ e => by cases e⟩)
end
end Mini
end Go.Proofs.YtmcgaakbkgdljaaGreatDoor
