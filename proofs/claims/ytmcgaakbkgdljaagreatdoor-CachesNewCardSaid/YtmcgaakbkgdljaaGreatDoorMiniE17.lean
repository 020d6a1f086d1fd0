/-
  A region, whole.
-/
import Derived.Test.YtmcgaakbkgdljaaGreatDoorMiniE16
namespace Go.Proofs.YtmcgaakbkgdljaaGreatDoor
namespace Mini
open Go

/-! ### What comes ahead of what, on every order -/
theorem foldl_bits {prev : List Nat} {i : Nat} : ∀ (es : List Edge) (m : Nat), (es.foldl (fun m e => if Region.binds .any e then m ||| 2 ^ e.on ||| prev.getD e.on 0 else m) m).testBit i = true →
    m.testBit i = true ∨ ∃ e ∈ es, Region.binds .any e = true ∧ (e.on = i ∨ (prev.getD e.on 0).testBit i = true)
  | [], m, h => .inl h
  | e :: es, m, h => by
    rw [List.foldl_cons] at h
    rcases foldl_bits es _ h with h | ⟨e', h1, h2⟩
    · split at h
      · rename_i hb
        rw [Nat.testBit_or, Nat.testBit_or, Nat.testBit_two_pow, Bool.or_eq_true, Bool.or_eq_true, decide_eq_true_eq] at h
        rcases h with (h | h) | h
        · exact .inl h
        · exact .inr ⟨e, by simp, hb, .inl h⟩
        · exact .inr ⟨e, by simp, hb, .inr h⟩
      · exact .inl h
    · exact .inr ⟨e', by simp [h1], h2⟩

theorem clos_spec : ∀ (os : List Oper) (acc : List Nat), (clos os acc).length = acc.length + os.length ∧ (∀ j, j < acc.length → (clos os acc)[j]? = acc[j]?) ∧
    ∀ j o, os[j]? = some o → (clos os acc)[acc.length + j]? = some (clo1 ((clos os acc).take (acc.length + j)) o)
  | [], acc => ⟨rfl, fun _ _ => rfl, by intro j o h; simp at h⟩
  | o :: os, acc => by
    obtain ⟨h1, h2, h3⟩ := clos_spec os (acc ++ [clo1 acc o])
    simp only [List.length_append, List.length_cons, List.length_nil, Nat.zero_add] at h1 h2 h3
    simp only [clos]
    refine ⟨by rw [h1]; simp only [List.length_cons]; omega, fun j hj => by rw [h2 j (by omega), List.getElem?_append_left hj], fun j o' ho => ?_⟩
    cases j with
    | zero =>
      simp only [List.getElem?_cons_zero, Option.some.injEq] at ho
      subst ho
      rw [Nat.add_zero, h2 _ (by omega), List.getElem?_append_right (Nat.le_refl _), Nat.sub_self]
      simp only [List.getElem?_cons_zero, Option.some.injEq]
      congr 1
      apply List.ext_getElem?
      intro m
      rw [List.getElem?_take]
      split
      · rename_i hm; rw [h2 m (by omega), List.getElem?_append_left hm]
      · rename_i hm; exact List.getElem?_eq_none (by omega)
    | succ j =>
      simp only [List.getElem?_cons_succ] at ho
      have := h3 j o' ho
      rw [show acc.length + 1 + j = acc.length + (j + 1) by omega] at this
      exact this

theorem getD_take (l : List Nat) (j k : Nat) : (l.take j).getD k 0 = if k < j then l.getD k 0 else 0 := by
  rw [List.getD_eq_getElem?_getD, List.getD_eq_getElem?_getD, List.getElem?_take]
  split <;> rfl

section
variable {X : Cx} {E : Env} {regs : List V} {val : Nat → V} {hp : Nat → Heap} {M0 M M' : MM} {w0 w w' : World} {d0 : List Deferred} {S : Nat → Prop} {c : Nat} {a : Act} {rd : Option Nat}

theorem cl_edge {i j : Nat} {o : Oper} (ho : X.ops[j]? = some o) (h : (X.cl.getD j 0).testBit i = true) : ∃ e ∈ o.after, Region.binds .any e = true ∧ (e.on = i ∨ (e.on < j ∧ (X.cl.getD e.on 0).testBit i = true)) := by
  obtain ⟨_, _, h3⟩ := clos_spec X.ops []
  have h4 := h3 j o ho
  simp only [List.length_nil, Nat.zero_add] at h4
  have e : X.cl.getD j 0 = clo1 (X.cl.take j) o := by
    rw [List.getD_eq_getElem?_getD]
    simp only [Cx.cl, h4, Option.getD_some]
  rw [e] at h
  unfold clo1 at h
  rcases foldl_bits _ _ h with h | ⟨e', h1, h2, h5⟩
  · simp at h
  · refine ⟨e', by simpa using h1, h2, ?_⟩
    rcases h5 with h5 | h5
    · exact .inl h5
    · rw [getD_take] at h5
      split at h5
      · rename_i hlt; exact .inr ⟨hlt, h5⟩
      · simp at h5

/-- Whatever an operation waits for has been carried out. -/
def Direct (X : Cx) (S : Nat → Prop) : Prop := ∀ j o, X.ops[j]? = some o → S j → ∀ e ∈ o.after, Region.binds .any e = true → S e.on

theorem Direct.all (h : Direct X S) : ∀ (j : Nat) (o : Oper) (i : Nat), X.ops[j]? = some o → (∀ e ∈ o.after, Region.binds .any e = true → S e.on) → (X.cl.getD j 0).testBit i = true → S i := by
  intro j
  induction j using Nat.strongRecOn with
  | _ j ih =>
    intro o i ho he hb
    obtain ⟨e, h1, h2, h3⟩ := cl_edge ho hb
    rcases h3 with rfl | ⟨hlt, h3⟩
    · exact he e h1 h2
    · have hj : j < X.n := (List.getElem?_eq_some_iff.1 ho).1
      obtain ⟨o', ho'⟩ := ops_of (show e.on < X.n by omega)
      exact ih e.on hlt o' i ho' (h e.on o' ho' (he e h1 h2)) h3

theorem cl_lt {i j : Nat} (h : (X.cl.getD j 0).testBit i = true) : j < X.n := by
  rcases Nat.lt_or_ge j X.n with h' | h'
  · exact h'
  · obtain ⟨h1, _, _⟩ := clos_spec X.ops []
    rw [List.getD_eq_getElem?_getD, List.getElem?_eq_none (by simp only [Cx.cl]; rw [h1]; simpa [Cx.n] using h')] at h
    simp at h

theorem Direct.closed (hd : X.draw = true) (h : Direct X S) : ∀ i j, X.ah i j = true → S j → S i := by
  intro i j hij hj
  simp only [Cx.ah, ahead, hd, Bool.not_true, Bool.false_or, Bool.and_eq_true] at hij
  obtain ⟨o, ho⟩ := ops_of (cl_lt hij.2)
  exact h.all j o i ho (h j o ho hj) hij.2

/-! ### The two kinds of region -/
theorem region_text (hX : Rg X E regs val hp) (hd : X.draw = false) (hE : EnvOk X.P E) (hG : GlobOk E.glob M0.imm) {a0 : Act} (h0 : RelRegs M0 X.tm regs a0.tmps) {Q : Exit → Act → World → Prop}
    (hQ : ∀ c M a w, Inv X regs val hp M0 w0 d0 (fun j => j < X.n) c M a w → Q .normal a w) :
    ∀ (d i : Nat) (c : Nat) (M : MM) (a : Act) (w : World), i + d = X.n → Inv X regs val hp M0 w0 d0 (fun j => j < i) c M a w → wpOpsIn (rnd rd) 0 X.P X.ops.toArray Q (List.range' i d) a w
  | 0, i, c, M, a, w, hi, h => by
    have : i = X.n := by omega
    subst this
    exact hQ c M a w h
  | d + 1, i, c, M, a, w, hi, h => by
    rw [List.range'_succ, wpOpsIn_cons]
    have hah : ∀ i j, X.ah i j = true ↔ i < j := fun i j => by simp [Cx.ah, ahead, hd]
    refine h.step hX hE hG h0 (i := i) (by omega) (by omega) (fun i' j h1 h2 => by have := (hah i' j).1 h1; omega) (fun j h1 => (hah j i).1 h1) fun c' M' a' w' h' => ?_
    refine region_text hX hd hE hG h0 hQ d (i + 1) c' M' a' w' (by omega) ?_
    have : (fun j => j < i ∨ j = i) = (fun j => j < i + 1) := funext fun j => propext (by omega)
    rw [← this]
    exact h'

theorem getD_listed {listed : Array Bool} {i : Nat} (h : i < listed.size) (b : Bool) : listed.getD i b = listed[i] := by simp [Array.getD, h]

theorem region_any (hX : Rg X E regs val hp) (hd : X.draw = true) (hE : EnvOk X.P E) (hG : GlobOk E.glob M0.imm) {a0 : Act} (h0 : RelRegs M0 X.tm regs a0.tmps) {Q : Exit → Act → World → Prop}
    (hQ : ∀ c M a w, Inv X regs val hp M0 w0 d0 (fun j => j < X.n) c M a w → Q .normal a w) :
    ∀ (fuel : Nat) (listed : Array Bool) (c : Nat) (M : MM) (a : Act) (w : World), listed.size = X.n → listed.toList.count false ≤ fuel → Direct X (fun j => listed.getD j false = true) →
      Inv X regs val hp M0 w0 d0 (fun j => listed.getD j false = true) c M a w → wpAnyIn (rnd rd) 0 X.P .any X.ops.toArray Q fuel listed a w := by
  have after : ∀ (listed : Array Bool), listed.size = X.n → Region.ready .any X.ops.toArray listed = [] → ∀ j, j < X.n → listed.getD j false = true := by
    intro listed hsz hnil j
    induction j using Nat.strongRecOn with
    | _ j ih =>
      intro hj
      cases hl : listed.getD j false with
      | true => rfl
      | false =>
        exfalso
        obtain ⟨o, ho⟩ := ops_of hj
        obtain ⟨p, hp'⟩ := ps_of hX hj
        have hm : j ∈ Region.ready .any X.ops.toArray listed := by
          rw [mem_ready]
          refine ⟨by rw [getD_listed (by omega)] at hl ⊢; exact hl, o, by simpa using ho, fun e he hb => ?_⟩
          have hlt := (hX.one j o p ho hp').after e he hb
          exact ih e.on hlt (by omega)
        rw [hnil] at hm
        cases hm
  have fin : ∀ (listed : Array Bool) (c : Nat) (M : MM) (a : Act) (w : World), listed.size = X.n → Region.ready .any X.ops.toArray listed = [] → Inv X regs val hp M0 w0 d0 (fun j => listed.getD j false = true) c M a w → Q .normal a w := by
    intro listed c M a w hsz hnil h
    refine hQ c M a w ?_
    have : (fun j => listed.getD j false = true) = (fun j => j < X.n) := funext fun j => propext ⟨fun hj => ?_, fun hj => after listed hsz hnil j hj⟩
    · rw [← this]; exact h
    · rcases Nat.lt_or_ge j X.n with h' | h'
      · exact h'
      · simp [Array.getD, show ¬ j < listed.size by omega] at hj
  intro fuel
  induction fuel with
  | zero =>
    intro listed c M a w hsz hcount hD h
    have hnil : Region.ready .any X.ops.toArray listed = [] := by
      rw [List.eq_nil_iff_forall_not_mem]
      intro j hj
      obtain ⟨h1, o, ho, _⟩ := mem_ready.1 hj
      have hjn : j < X.n := by simpa [Cx.n] using (Array.getElem?_eq_some_iff.1 ho).1
      rw [getD_listed (by omega)] at h1
      have : false ∈ listed.toList := by rw [← h1]; exact Array.getElem_mem_toList (by omega)
      have := List.count_pos_iff.2 this
      omega
    exact ⟨hnil, fin listed c M a w hsz hnil h⟩
  | succ fuel ih =>
    intro listed c M a w hsz hcount hD h
    refine ⟨fun hnil => fin listed c M a w hsz hnil h, fun i hi => ?_⟩
    obtain ⟨h1, o, ho, h2⟩ := mem_ready.1 hi
    have hin : i < X.n := by simpa [Cx.n] using (Array.getElem?_eq_some_iff.1 ho).1
    have hoi : X.ops[i]? = some o := by simpa using ho
    rw [getD_listed (by omega)] at h1
    have hnS : ¬ (listed.getD i false = true) := by rw [getD_listed (by omega), h1]; simp
    have hset : (fun j => (listed.setIfInBounds i true).getD j false = true) = (fun j => listed.getD j false = true ∨ j = i) := funext fun j => propext (by
      simp only [Array.getD_eq_getD_getElem?, Array.getElem?_setIfInBounds]
      by_cases e : i = j
      · subst e; simp [show i < listed.size by omega]
      · rw [if_neg e]
        exact ⟨.inl, fun h => h.resolve_right (fun h => e h.symm)⟩)
    refine h.step hX hE hG h0 hin hnS (hD.closed hd) (fun j hj => ?_) fun c' M' a' w' h' => ?_
    · simp only [Cx.ah, ahead, hd, Bool.not_true, Bool.false_or, Bool.and_eq_true] at hj
      exact hD.all i o j hoi h2 hj.2
    · refine ih (listed.setIfInBounds i true) c' M' a' w' (by simpa using hsz) ?_ ?_ (by rw [hset]; exact h')
      · rw [Array.toList_setIfInBounds, List.count_set (by simp; omega)]
        have h1' : listed.toList[i]'(by simp; omega) = false := by simpa using h1
        have e1 : (false == false) = true := rfl
        have e2 : (true == false) = false := rfl
        rw [h1', e1, e2, if_pos rfl, if_neg (by simp)]
        omega
      · intro j o' ho' hj e he hb
        have hj' := (congrFun hset j).mp hj
        refine (congrFun hset e.on).mpr (.inl ?_)
        rcases hj' with hj' | rfl
        · exact hD j o' ho' hj' e he hb
        · rw [hoi] at ho'
          cases ho'
          exact h2 e he hb
end

/-- A region that has been checked, carried out. -/
theorem region_ok {P : Program} {E : Env} {tm : List Nat} {nt id : Nat} {draw : Bool} {ops : Array Oper} {ps : List Gp} {exp : List (Nat × Nat)} {aps : List (A × A)} {regs ts : List V} {H H' : Heap} {M : MM} {a : Act} {w : World} {rd : Option Nat} (hE : EnvOk P E) (hG : GlobOk E.glob M.imm)
    (hok : okReg P tm nt draw ops.toList ps exp aps = true) (hrun : runOps E regs ps [] H = some (ts, H')) (hap : ∀ x ∈ aps, apart (look E regs ts x.1) (look E regs ts x.2) = true ∨ ∃ k, x = (.r k, .v .any) ∧ keepsR E regs ps H k = true) (hsat : Sat P M H 0 w) (hregs : RelRegs M tm regs a.tmps) (hsize : a.tmps.size = nt)
    {Q : Exit → Act → World → Prop} (hQ : ∀ M' a' w', Sat P M' H' 0 w' → Fr M M' w w' → RelRegs M' tm (exports regs ts exp) a'.tmps → a'.tmps.size = nt → a'.defers = a.defers → Q .normal a' w') :
    (Code.region id ops draw).wpIn (rnd rd) 0 P Q a w := by
  unfold okReg at hok
  simp only [Bool.and_eq_true] at hok
  obtain ⟨⟨h1, h2⟩, h3⟩ := hok
  let X : Cx := ⟨P, tm, nt, draw, ops.toList, ps, aps⟩
  obtain ⟨hlen, hone⟩ := okAll_get _ _ _ h1
  obtain ⟨val, hp, _, q2, q3, q4, q5⟩ := runOps_ran ps 0 (fun _ => .any) H ts H' hrun
  simp only [Nat.zero_add] at q3 q4 q5
  have hX : Rg X E regs val hp := by
    refine ⟨hlen.symm, fun i o p ho hp' => one_of ?_, q3, ?_⟩
    · have := hone i o p ho hp'
      rw [Nat.zero_add] at this
      exact this
    · intro x hx
      rcases hap x hx with this | ⟨k, h4, h5⟩
      · rw [q4, hlen.symm] at this
        exact .inl this
      · refine .inr ⟨k, h4, fun id g off hk i p hp' hst o ho => ?_⟩
        simp only [keepsR, hk] at h5
        rw [← q2] at h5
        have := keeps_ran (val := val) (hp := hp) ps 0 h5 (fun i p h => by rw [Nat.zero_add]; exact q3 i p h) i p hp' hst o (by rw [Nat.zero_add]; exact ho)
        rwa [Nat.zero_add] at this
  have hfin : ∀ c M' a' w' (w1 : World), Fr M M w w1 → Inv X regs val hp M w1 a.defers (fun j => j < X.n) c M' a' w' → Q .normal a' w' := by
    intro c M' a' w' w1 hf h
    have hs := h.done hX (fun i hi => hi)
    have : H' = hp X.n := by rw [q5, ← hlen]; rfl
    rw [← this] at hs
    refine hQ M' a' w' hs (hf.trans h.fr) ?_ h.size h.dfs
    intro j t hj
    unfold okExp at h2
    simp only [Bool.and_eq_true, List.all_eq_true, List.mem_range] at h2
    obtain ⟨k1, k2⟩ := h2
    refine nth_exports (R := fun v => RelV M' v (a'.tmps.getD t undef)) relV_any exp regs ?_ ?_
    · intro k hk
      have := k1 (j, k) hk
      simp only [decide_eq_true_eq] at this
      obtain ⟨hkn, hm⟩ := this
      rw [hj] at hm
      split at hm <;> try (cases hm; done)
      rename_i t1 t2 e1 e2
      cases e1
      simp only [beq_iff_eq] at hm
      subst hm
      rw [q4, nth_tsOf]
      have hkn' : k < ps.length := by rw [← hlen]; exact hkn
      rw [if_pos hkn']
      have hl : X.loc[ps.length - 1 - k]? = some (some t) := by rw [← hlen]; exact e2
      have hz : ps.length - 1 - k < ops.toList.length := by
        rw [hlen]
        omega
      exact h.vals _ t hz hl
    · have hjl : j < tm.length := (List.getElem?_eq_some_iff.1 hj).1
      have := k2 j hjl
      rw [hj] at this
      simp only [Bool.or_eq_true, Bool.not_eq_true', List.any_eq_true, beq_iff_eq] at this
      rcases this with hn | ⟨⟨j', k⟩, hm, rfl⟩
      · left
        refine h.rg j t hj fun i hi hr => ?_
        have : (X.raw).contains (some t) = true := by
          rw [List.contains_iff_mem, List.mem_iff_getElem?]
          exact ⟨i, hr⟩
        have hn' : (X.raw).contains (some t) = false := hn
        rw [this] at hn'
        cases hn'
      · exact .inr ⟨k, hm⟩
  cases hd : draw with
  | false =>
    refine wpIn_region ?_
    obtain ⟨c, M', hI⟩ := Inv.start (X := X) (E := E) (a := a) (w := w) (M := M) hX (by rw [q2]; exact hsat) hregs hsize
    have hI' : Inv X regs val hp M w a.defers (fun j => j < 0) c M' a w := by
      have : (fun j : Nat => j < 0) = (fun _ => False) := funext fun j => propext ⟨fun h => Nat.not_lt_zero j h, fun h => h.elim⟩
      rw [this]; exact hI
    have key := region_text (X := X) (rd := rd) hX hd hE hG hregs (Q := Q) (w0 := w) (d0 := a.defers) (fun c M' a' w' h => hfin c M' a' w' w (Fr.refl M w) h) X.n 0 c M' a w (Nat.zero_add _) hI'
    rw [List.range_eq_range']
    have e : X.n = ops.size := by simp [Cx.n, X]
    rw [e] at key
    simpa [X] using key
  | true =>
    have hm : P.follows .mixedOrders = true := by
      rw [hd] at h3
      simpa using h3
    refine wpIn_region_any hm ?_
    obtain ⟨c, M', hI⟩ := Inv.start (X := X) (E := E) (a := a) (w := w.drew) (M := M) hX (by rw [q2]; exact hsat.drew) hregs hsize
    have hn : X.n = ops.size := by simp [Cx.n, X]
    have hf : (fun j => (Array.replicate ops.size false).getD j false = true) = (fun _ => False) := funext fun j => propext (by
      simp only [Array.getD_eq_getD_getElem?, Array.getElem?_replicate]
      split <;> simp)
    have key := region_any (X := X) (rd := rd) hX hd hE hG hregs (Q := Q) (w0 := w.drew) (d0 := a.defers) (fun c M' a' w' h => hfin c M' a' w' w.drew (Fr.drew M w) h) ops.size (Array.replicate ops.size false) c M' a w.drew (by rw [hn]; simp)
      (by simp) (by rw [hf]; exact fun _ _ _ h => h.elim) (by rw [hf]; exact hI)
    simpa [X] using key
end Mini
end Go.Proofs.YtmcgaakbkgdljaaGreatDoor
