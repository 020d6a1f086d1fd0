/-
  RecordsSame: texts of the proof: E11.
-/
import Derived.Test.YtjnghfhccjogeaaGreatDoorAE10
namespace Go.Proofs.YtjnghfhccjogeaaGreatDoor
namespace Mini
open Go
section
variable {P : Program} {M : MM} {w w' : World} {k : K} {o : Oper} {lk : A → V} {ρ : Operand → Value} {Hi H H' : Heap}
def O.apartOnes : O → Bool
  | .vc .. | .pc .. | .pre | .ini .. => true
  | _ => false
theorem a_all {p : O} {v : V} {n : List Ob} {X : Nat → Prop} (hs : Sat P M H 0 w) (hsub : noHeap p = false → (∀ g m a, p ≠ .ld g m a) → Sub Hi H)
    (hld : ∀ g m a, p = .ld g m a → ∀ id gen off, lk a = .c (.ptr id gen off) → ∀ o, ob? Hi id = some o → ∃ o', ob? H id = some o' ∧ Same o o')
    (hA : ∀ x a, okA k x a = true → RelV M (lk a) (ρ x)) (hc : ∀ x, ρ (.const x) = x) (hok : okOp P k o p = true) (hpe : p.eff = false) (hpa : p.apartOnes = false)
    (h : stepP lk Hi p = some (v, n)) (hn : ∀ cs g fz, n = [.cells cs g fz] → New M H Hi cs) : Did P M H w (execOp ρ o) v (fun id => n ≠ [] ∧ id = Hi.length) X := by
  cases p with
  | mov a => exact Quiet.did hs (q_mov hA hok h)
  | pick c a b => exact Quiet.did hs (q_pick hA hok h)
  | bin op a b => exact Quiet.did hs (q_bin hA hok h)
  | beq neg a b => exact Quiet.did hs (q_beq hA hok h)
  | isn neg a => exact Quiet.did hs (q_isn hA hc hok h)
  | eqa neg m a b => exact Quiet.did hs (q_eqa hA hok h)
  | un op a => exact Quiet.did hs (q_un hA hok h)
  | cvi kd a => exact Quiet.did hs (q_cvi hA hok h)
  | cvs a => exact Quiet.did hs (q_cvs hA hok h)
  | s2b a => exact (a_s2b hs hA hok h hn).imp (fun id hid => ⟨by intro e; subst e; simp only [stepP] at h; (repeat' split at h) <;> simp at h, hid⟩)
  | b2s a => exact Quiet.did hs (q_b2s hs (hsub rfl (fun _ _ _ e => by cases e)) hA hok h)
  | new z => exact (a_new hs hok h hn).imp (fun id hid => ⟨by intro e; subst e; simp only [stepP] at h; (repeat' split at h) <;> simp at h, hid⟩)
  | newb t => exact (a_newb hs hok h hn).imp (fun id hid => ⟨by intro e; subst e; simp only [stepP] at h; (repeat' split at h) <;> simp at h, hid⟩)
  | box a => exact (a_box hs hA hok h hn).imp (fun id hid => ⟨by intro e; subst e; simp only [stepP] at h; (repeat' split at h) <;> simp at h, hid⟩)
  | pre => cases hpa
  | ini m a => cases hpa
  | apn sz b => exact a_apn hs (hsub rfl (fun _ _ _ e => by cases e)) hA hc hok h hn
  | bld z ps => exact Quiet.did hs (q_bld hA hok h)
  | bsl len sz z ps => exact (a_bsl hs hA hok h hn).imp (fun id hid => ⟨by intro e; subst e; simp only [stepP] at h; (repeat' split at h) <;> simp at h, hid⟩)
  | ld g m a => exact Quiet.did hs (q_ld hs (hld g m a rfl) hA hok h)
  | fa off a => exact Quiet.did hs (q_fa hA hok h)
  | fld g off m a => exact Quiet.did hs (q_fld hA hok h)
  | ixp len sz a i => exact Quiet.did hs (q_ixp hA hok h)
  | ixa sz a i => exact Quiet.did hs (q_ixa hA hok h)
  | ixs a i => exact Quiet.did hs (q_ixs hA hok h)
  | ixg g len sz a i => exact Quiet.did hs (q_ixg hA hok h)
  | sls a lo hi => exact Quiet.did hs (q_sls hA hok h)
  | slc sz a lo hi mx => exact Quiet.did hs (q_slc hA hok h)
  | slp len sz a lo hi mx => exact Quiet.did hs (q_slp hs (hsub rfl (fun _ _ _ e => by cases e)) hA hok h)
  | mks sz b z l c => exact (a_mks hs hA hok h hn).imp (fun id hid => ⟨by intro e; subst e; simp only [stepP] at h; (repeat' split at h) <;> simp at h, hid⟩)
  | ext a i => exact Quiet.did hs (q_ext hA hok h)
  | len a => exact Quiet.did hs (q_len hA hok h)
  | lns a => exact Quiet.did hs (q_lns hA hok h)
  | cap a => exact Quiet.did hs (q_cap hA hok h)
  | mm mx a b => exact Quiet.did hs (q_mm hA hok h)
  | mkf f first caps => exact Quiet.did hs (q_mkf hA hok h)
  | mki a => exact Quiet.did hs (q_mki hA hok h)
  | nlc a =>
    refine Quiet.did hs (q_nlc hA hok h ?_)
    intro id g off x hx r
    rw [hx, relV_c] at r
    simp only [RelC] at r
    obtain ⟨_, _, ⟨B, y, rfl⟩, _⟩ := r
    exact ⟨_, rfl⟩
  | vc f args => cases hpa
  | pc f args => cases hpa
  | st m a b => cases hpe
  | app sz a b => cases hpe
  | apb a b => cases hpe
  | cpy sz a b => cases hpe
  | hc f args => cases hpe
  | bc f a args => cases hpe
  | pan => cases hpe
  | mkm => cases hpe
  | mpu g ks m k v => cases hpe
  | lkp ok z g ks m k => cases hpe
  | mdl g ks m k => cases hpe
  | lnm a => cases hpe
  | rgs a => cases hpe
  | nxs a => cases hpe
  | rgm a => cases hpe
  | ent a => cases hpe
  | clr sz z a => cases hpe
  | ivc tbl a args => cases hpe
  | eqk neg ks a b => exact Quiet.did hs (q_eqk hA hok h)
  | isz kd neg a => exact Quiet.did hs (q_isz hA hc hok h)
  | mkt t a => exact Quiet.did hs (q_mkt hA hok h)
  | tas t m g ok z a => exact Quiet.did hs (q_tas hA hok h)
theorem stepP_news {p : O} {v : V} {n : List Ob} (h : stepP lk Hi p = some (v, n)) : n = [] ∨ ((∃ cs, n = [.cells cs 0 false]) ∧ noHeap p = false ∧ ∀ g m a, p ≠ .ld g m a) := by
  have none' : ∀ {α : Type} {x : Option α} {f : α → V}, (x.map fun z => (f z, ([] : List Ob))) = some (v, n) → n = [] := by
    intro α x f hx
    simp only [Option.map_eq_some_iff, Prod.mk.injEq] at hx
    obtain ⟨_, _, _, rfl⟩ := hx
    rfl
  cases p with
  | newb t =>
    simp only [stepP, Option.some.injEq, Prod.mk.injEq] at h
    obtain ⟨_, rfl⟩ := h
    exact .inr ⟨⟨_, rfl⟩, rfl, fun _ _ _ e => by cases e⟩
  | bsl len sz z ps =>
    simp only [stepP, Option.map_eq_some_iff, Prod.mk.injEq] at h
    obtain ⟨cs, _, _, rfl⟩ := h
    exact .inr ⟨⟨_, rfl⟩, rfl, fun _ _ _ e => by cases e⟩
  | _ =>
    simp only [stepP] at h
    repeat' split at h
    all_goals first
      | (cases h; done)
      | exact .inl (none' h)
      | (simp only [Option.some.injEq, Prod.mk.injEq] at h
         obtain ⟨_, rfl⟩ := h
         first | exact .inl rfl | exact .inr ⟨⟨_, rfl⟩, rfl, fun _ _ _ e => by cases e⟩)
end
end Mini
end Go.Proofs.YtjnghfhccjogeaaGreatDoor
