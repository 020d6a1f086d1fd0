/-
  Functions whose maps hand out their entries in whatever order, and functions that use a channel: what they promise.
-/
import Derived.Test.YtmcgaakbkgdljaaGreatDoorMiniE23
namespace Go.Proofs.YtmcgaakbkgdljaaGreatDoor
namespace Mini
open Go

section
variable {P : Program} {X : Ctx} {M M' : MM} {w w' : World} {H : Heap}

theorem envN_ok (hX : CtxOk P X) (n : Nat) : EnvOk P (envN X n) := by
  refine ⟨fun c args H v H' h => callN_ok hX n c args H v H' h, fun f vs r h => ?_, hX.prim⟩
  simp only [envN] at h
  split at h
  · rename_i r' hp
    cases h
    exact hX.prim f vs _ hp
  split at h <;> try (cases h; done)
  rename_i r' H1 hc
  exact ⟨callN_enters hX hc, val_of_heap (callN_ok hX n _ _ _ _ _ hc) h⟩

/-- A call of a function that has a form. -/
def callP1 (X : Ctx) (n : Nat) (c : C) (args : List V) (H : Heap) (R : V → Heap → Prop) : Prop :=
  match c with
  | .d (.fn f first caps) => match X.fns f with
    | some F => runFnP (envN X n) (fun _ _ _ _ => False) n F (first.map (fun x => .c (.d x)) ++ args ++ caps.map (fun x => .c (.d x))) H R
    | none => False
  | .fn f first caps => match X.fns f with
    | some F => runFnP (envN X n) (fun _ _ _ _ => False) n F (first.map .c ++ args ++ caps.map .c) H R
    | none => False
  | _ => False

theorem callP1_ok (hX : CtxOk P X) (n : Nat) (c : C) (args : List V) (H : Heap) (R : V → Heap → Prop) (h : callP1 X n c args H R) : HeapCallP P X.glob c args H R := by
  intro M w cv us hG hcv hargs hlen hs
  have go : ∀ (f : FuncId) (F : Fn) (first caps : List V) (a b : Array Value), X.fns f = some F → RelVs M first a.toList → a.size = first.length → RelVs M caps b.toList → b.size = caps.length → runFnP (envN X n) (fun _ _ _ _ => False) n F (first ++ args ++ caps) H R →
      Enters P f ∧ Calls P f (a ++ us.toArray ++ b) w fun e w' => ∃ v H', R v H' ∧ ∃ v' M', e = .returned v' ∧ RelV M' v v' ∧ Sat P M' H' 0 w' ∧ Fr M M' w w' := by
    intro f F first caps a b hF h1 h2 h3 h4 hrun
    obtain ⟨hent, fn, hfn, hok⟩ := hX.fns f F hF
    refine ⟨hent, ?_⟩
    have hl1 : first.length = a.toList.length := by simp [h2]
    have hl2 : caps.length = b.toList.length := by simp [h4]
    have := runFnP_ok (us := a.toList ++ us ++ b.toList) (envN_ok hX n) (fun _ _ _ _ h => h.elim) hfn hok hrun hG hs (RelVs.append (RelVs.append h1 hl1 hargs) (by simp only [List.length_append]; omega) h3) (by simp only [List.length_append]; omega)
    have e : (a.toList ++ us ++ b.toList).toArray = a ++ us.toArray ++ b := by apply Array.ext'; simp
    rw [e] at this
    exact this
  unfold callP1 at h
  split at h <;> try (exact h.elim)
  · rename_i f first caps
    simp only [RelC, RelD] at hcv
    obtain ⟨a, b, rfl, r1, r2, r3, r4⟩ := hcv
    have q1 : RelVs M (first.map fun x => V.c (.d x)) a.toList := by
      have := RelVs.of_cs (RelCs.of_d.2 r1 : RelCs M (first.map .d) a.toList)
      rw [List.map_map] at this
      exact this
    have q2 : RelVs M (caps.map fun x => V.c (.d x)) b.toList := by
      have := RelVs.of_cs (RelCs.of_d.2 r3 : RelCs M (caps.map .d) b.toList)
      rw [List.map_map] at this
      exact this
    split at h <;> try (exact h.elim)
    rename_i F hF
    obtain ⟨k1, k2⟩ := go f F _ _ a b hF q1 (by simp [r2]) q2 (by simp [r4]) h
    exact ⟨f, a, b, rfl, k1, k2⟩
  · rename_i f first caps
    simp only [RelC] at hcv
    obtain ⟨a, b, rfl, r1, r2, r3, r4⟩ := hcv
    split at h <;> try (exact h.elim)
    rename_i F hF
    obtain ⟨k1, k2⟩ := go f F _ _ a b hF (RelVs.of_cs r1) (by simp [r2]) (RelVs.of_cs r3) (by simp [r4]) h
    exact ⟨f, a, b, rfl, k1, k2⟩

/-- By value: whatever the maps hand out, the result is this one. -/
theorem valP_ok (hX : CtxOk P X) {f : FuncId} {F : Fn} {fn : Func} (hfn : P.funcs[f]? = some fn) (hok : okFn P F fn = true) {n : Nat} {vs : List V} {r : V} (h : runFnP (envN X n) (callP1 X n) n F vs [] fun v H' => deepV H' v = some r) : ValCall P X.glob f vs r := by
  intro I w us hG hI hrel hlen
  refine (runFnP_ok (M := mm I) (envN_ok hX n) (callP1_ok hX n) hfn hok h hG (sat_nil hI) hrel hlen).mono fun e w' hh => ?_
  obtain ⟨v, H', hd, v', M', rfl, k1, k2, k3⟩ := hh
  obtain ⟨ids, hr⟩ := deepV_rel k2 hd k1
  refine ⟨v', immX M' w' ids, rfl, hr, fun B o hB => immX_le B o (k3.ext.imm B o hB), fun B o hB => immX_heap k2 hB, ?_, k3.os, k3.tape, k3.output, k3.size, fun B hB => k3.keep B hB (fun ⟨_, _, _, h⟩ => by cases h)⟩
  intro B o hB
  have own : ∀ B, M'.Owns B → w.heap.size ≤ B := fun B hB => (k3.own B hB).resolve_left (fun ⟨_, _, _, h⟩ => by cases h)
  unfold immX at hB
  split at hB
  · rename_i o' ho'
    cases hB
    rcases k3.imm B _ ho' with h | ⟨_, _, _, h⟩ | h
    · exact .inl h
    · cases h
    · exact .inr h
  · split at hB
    · rename_i hex
      obtain ⟨id, _, b, c, hl⟩ := hex
      exact .inr (own B ⟨id, b, c, hl⟩)
    · cases hB

/-- On the shared heap, with one answer: functions that use a channel. -/
theorem heapC_ok (hX : CtxOk P X) {f : FuncId} {F : Fn} {fn : Func} (hfn : P.funcs[f]? = some fn) (hok : okFn P F fn = true) {n : Nat} {args : List V} {H H' : Heap} {v : V} (h : runFnC (envN X n) n F args H = some (v, H')) : HeapPrim P X.glob f args H v H' := by
  intro M w us hG hrel hlen hs
  refine (runFnP_ok (envN_ok hX n) (callP1_ok hX n) hfn hok (runFnC_P h) hG hs hrel hlen).mono fun e w' hh => ?_
  obtain ⟨v1, H1, ⟨rfl, rfl⟩, hx⟩ := hh
  exact hx

/-- A context with functions that use a channel. -/
def withC (X : Ctx) (n : Nat) (tab : FuncId → Option Fn) : Ctx := { X with hprim := fun f args H => match tab f with
    | some F => runFnC (envN X n) n F args H
    | none => X.hprim f args H }
theorem withC_ok (hX : CtxOk P X) {n : Nat} {tab : FuncId → Option Fn} (ht : ∀ f F, tab f = some F → Enters P f ∧ ∃ fn, P.funcs[f]? = some fn ∧ okFn P F fn = true) : CtxOk P (withC X n tab) := by
  refine ⟨hX.fns, hX.prim, fun f vs H r H' h => ?_⟩
  simp only [withC] at h
  split at h
  · rename_i F hF
    obtain ⟨h1, fn, h2, h3⟩ := ht f F hF
    exact ⟨h1, heapC_ok hX h2 h3 h⟩
  · exact hX.hprim f vs H r H' h

/-! ### One object more, all behind the first ones let go -/
def MM.pick (M : MM) (n m : Nat) : MM := ⟨M.imm, fun id => if id < n then M.loc id else if id = n then M.loc m else none, fun id => if id < n then M.gen id else 0, n + 1, M.ty⟩

theorem pick_ext (n m : Nat) : Ext (M.cut n) (M.pick n m) :=
  ⟨fun _ _ h => h, by simp [MM.cut, MM.pick], fun id hid => by simp only [MM.cut] at hid; simp only [MM.cut, MM.pick]; rw [if_pos hid]; exact Nat.le_refl _, fun id l hid _ hl => by simp only [MM.cut] at hid hl; simp only [MM.pick]; rw [if_pos hid] at hl ⊢; exact hl, fun _ _ h => h⟩

theorem pick_sat (hs : Sat P M H 0 w) {n m : Nat} {ds : List D} (hn : n ≤ m) (hu : ∀ o ∈ H.take n, o.under n = true) (hm : ob? H m = some (.cells (ds.map .d) 0 false)) :
    Sat P (M.pick n m) (H.take n ++ [.cells (ds.map .d) 0 false]) 0 w := by
  have hml : m < H.length := by rw [ob?_eq] at hm; exact (List.getElem?_eq_some_iff.1 hm).1
  have hlen : (H.take n).length = n := by rw [List.length_take]; omega
  have hc := hs.cut (show n ≤ H.length by omega) hu
  have hgm : ∀ l, M.loc m = some l → M.gen m = 0 := fun l hl => by
    obtain ⟨o, ho, hos⟩ := hs.obj m l hl
    rw [hm] at ho
    cases ho
    cases l with
    | none => simp only [ObSat] at hos; exact hos.2
    | some l => obtain ⟨B, b, c⟩ := l; simp only [ObSat] at hos; exact hos.1
  refine ⟨by simp [MM.pick, hlen], ?_, hs.imm, ?_, ?_, ?_, hs.ty, ?_⟩
  · intro id hid
    simp only [MM.pick] at hid ⊢
    rw [if_neg (by omega), if_neg (by omega), if_neg (by omega)]
    exact ⟨rfl, rfl⟩
  · intro id l hid
    simp only [MM.pick] at hid
    split at hid
    · rename_i hlt
      obtain ⟨o, ho, hos⟩ := hc.obj id l (by simp only [MM.cut]; rw [if_pos hlt]; exact hid)
      refine ⟨o, by rw [ob?_eq] at ho ⊢; rw [List.getElem?_append_left (by omega)]; exact ho, ?_⟩
      refine hos.keep (pick_ext n m) (by simp only [MM.cut, MM.pick, if_pos hlt]) (fun B b c _ => ⟨rfl, fun h => h⟩) (fun _ h => h)
    · split at hid
      · rename_i e
        subst e
        refine ⟨.cells (ds.map .d) 0 false, by rw [ob?_eq, List.getElem?_append_right (by omega), hlen]; simp, ?_⟩
        obtain ⟨o, ho, hos⟩ := hs.obj m l hid
        rw [hm] at ho
        cases ho
        cases l with
        | none =>
          simp only [ObSat] at hos ⊢
          exact ⟨hos.1, by simp [MM.pick]⟩
        | some l =>
          obtain ⟨B, b, c⟩ := l
          simp only [ObSat] at hos ⊢
          obtain ⟨_, arr, T, fr, e1, e2, e3, e4, e5⟩ := hos
          exact ⟨by simp [MM.pick], arr, T, fr, e1, e2, e3, RelCs.of_d.2 (show RelDs (M.pick id m).imm ds _ from (RelCs.of_d (M := M)).1 e4), e5⟩
      · cases hid
  · intro id o ho hl'
    by_cases hlt : id < n
    · simp only [MM.pick] at hl'
      rw [if_pos hlt] at hl'
      rw [ob?_eq, List.getElem?_append_left (by omega), ← ob?_eq] at ho
      rcases hc.idle id o ho (by simp only [MM.cut]; rw [if_pos hlt]; exact hl') with h | h
      · exact .inl h
      · right
        simp only [MM.cut, MM.pick] at h ⊢
        rw [if_pos hlt] at h ⊢
        exact h
    · right
      simp only [MM.pick]
      rw [if_neg hlt]
  · intro id id' B b c b' c' e1 e2
    have key : ∀ id, (M.pick n m).loc id ≠ none → ∃ j, (id < n ∧ j = id ∨ id = n ∧ j = m) ∧ (M.pick n m).loc id = M.loc j := by
      intro id hne
      simp only [MM.pick] at hne ⊢
      split
      · rename_i h; exact ⟨id, .inl ⟨h, rfl⟩, rfl⟩
      · rename_i h
        rw [if_neg h] at hne
        split
        · rename_i h'; exact ⟨m, .inr ⟨h', rfl⟩, rfl⟩
        · rename_i h'; rw [if_neg h'] at hne; exact absurd rfl hne
    obtain ⟨j, h1, h2⟩ := key id (by rw [e1]; simp)
    obtain ⟨j', h3, h4⟩ := key id' (by rw [e2]; simp)
    rw [h2] at e1
    rw [h4] at e2
    have := hs.inj j j' B b c b' c' e1 e2
    omega
  · intro id B b c hid hg
    simp only [MM.pick] at hid hg
    split at hid
    · rename_i hlt; rw [if_pos hlt] at hg; exact hs.bty id B b c hid hg
    · rename_i hlt
      rw [if_neg hlt] at hg
      simp [genK] at hg
end
end Mini
end Go.Proofs.YtmcgaakbkgdljaaGreatDoor
