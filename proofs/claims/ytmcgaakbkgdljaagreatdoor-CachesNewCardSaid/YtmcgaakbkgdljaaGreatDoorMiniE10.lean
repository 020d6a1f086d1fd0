/-
  Places prepared and filled; what is read out for a call by value; calls by value.
-/
import Derived.Test.YtmcgaakbkgdljaaGreatDoorMiniE9
namespace Go.Proofs.YtmcgaakbkgdljaaGreatDoor
namespace Mini
open Go

section
variable {P : Program} {M : MM} {w w' : World} {k : K} {o : Oper} {lk : A → V} {ρ : Operand → Value} {Hi H H' : Heap}

theorem Sat.grown (hs : Sat P M H 0 w) (h : ∀ B : Nat, B < w.heap.size → w'.heap[B]? = w.heap[B]?) : Sat P M H 0 w' where
  n := hs.n
  out := hs.out
  imm := fun B o hB => by
    have := hs.imm B o hB
    rw [h B (Array.getElem?_eq_some_iff.1 this).1]; exact this
  obj := fun id l hl => by
    obtain ⟨o, h1, h2⟩ := hs.obj id l hl
    refine ⟨o, h1, h2.keep (Ext.refl M) rfl (fun B b c e => ?_) (fun B hB => by rw [h B (Array.getElem?_eq_some_iff.1 hB).1]; exact hB)⟩
    subst e
    exact ⟨h B (hs.block_lt ⟨id, b, c, hl⟩), fun x => x⟩
  idle := hs.idle
  inj := hs.inj
  ty := fun B t hb => by
    obtain ⟨a, f, hh⟩ := hs.ty B t hb
    exact ⟨a, f, by rw [h B (Array.getElem?_eq_some_iff.1 hh).1]; exact hh⟩
  bty := hs.bty

theorem Did.imp {x : Sem Next} {v : V} {J J' X : Nat → Prop} (h : Did P M H w x v J X) (hj : ∀ id, J id → J' id) : Did P M H w x v J' X := by
  obtain ⟨nx, w', M', h1, h2, h3, h4, h5⟩ := h
  exact ⟨nx, w', M', h1, h2, h3, h4, fun id hid => h5 id (fun h => hid (hj id h))⟩

/-- A place that waits for its first value. -/
def Waits (M : MM) (w : World) (v : Value) (m B : Nat) : Prop :=
  v = .pointer (some ⟨B, 0, none⟩) ∧ (∃ arr T fr, w.heap[B]? = some (.cells arr T fr) ∧ arr.size = m ∧ Thawed fr m) ∧ ¬ M.Owns B ∧ M.imm B = none

theorem Waits.keep {M' : MM} {X : Nat → Prop} {v : Value} {m B : Nat} (h : Waits M w v m B) (hf : FrX X M M' w w') (hX : ¬ X B) : Waits M' w' v m B := by
  obtain ⟨h1, ⟨arr, T, fr, h2, h3⟩, h4, h5⟩ := h
  have hlt := (Array.getElem?_eq_some_iff.1 h2).1
  refine ⟨h1, ⟨arr, T, fr, by rw [hf.keep B hlt h4 hX]; exact h2, h3⟩, fun ho => ?_, ?_⟩
  · rcases hf.own B ho with h | h | h
    · exact h4 h
    · omega
    · exact hX h
  · cases hi : M'.imm B with
    | none => rfl
    | some o =>
      rcases hf.imm B o hi with h | h | h
      · rw [h5] at h; cases h
      · exact absurd h h4
      · omega

theorem a_pre (hs : Sat P M H 0 w) (hok : okOp P k o .pre = true) : ∃ t vs, o.op = .alloc t ∧ zero? P t = some vs ∧ ∃ v' w', (execOp ρ o).run P w = .ok (.value v') w' ∧ Sat P M H 0 w' ∧ (∀ X, FrX X M M w w') ∧ Waits M w' v' vs.length w.heap.size := by
  cases hop : o.op <;> simp only [okOp, hop] at hok <;> try (cases hok; done)
  rename_i t
  rw [Bool.and_eq_true] at hok
  obtain ⟨hok, _⟩ := hok
  obtain ⟨vs, hz⟩ := Option.isSome_iff_exists.1 hok
  obtain ⟨it, z, e1, e2, e3⟩ := zero?_spec hz
  have hkeep : ∀ B : Nat, B < w.heap.size → (w.alloc (.cells z.cells t)).heap[B]? = w.heap[B]? := fun B hB => by
    show (w.heap.push _)[B]? = _
    rw [Array.getElem?_push, if_neg (Nat.ne_of_lt hB)]
  refine ⟨t, vs, rfl, hz, .pointer (some ⟨w.heap.size, 0, none⟩), w.alloc (.cells z.cells t), by simp [execOp, hop, Instr.alloc, zeroValue, typeInfo, e1, e2, run_newVar], hs.grown hkeep, fun X => ⟨Ext.refl M, rfl, rfl, rfl, ?_, fun B hB _ _ => hkeep B hB, fun B h => .inl h, fun B o h => .inl h⟩, ?_⟩
  · show _ ≤ (w.heap.push _).size; simp
  · refine ⟨rfl, ⟨z.cells, t, (0, 0), ?_, by rw [← Array.length_toList, e3], thawed0 _⟩, fun h => Nat.lt_irrefl _ (hs.block_lt h), hs.imm_lt (Nat.le_refl _)⟩
    show (w.heap.push _)[w.heap.size]? = _
    simp

theorem a_ini {m B : Nat} {a : A} {v : V} {n : List Ob} {t : TypeId} {x y : Operand} (hs : Sat P M H 0 w) (hA : ∀ x a, okA k x a = true → RelV M (lk a) (ρ x)) (hop : o.op = .store t x y) (hy : okA k y a = true) (hsz : size? P t = some m)
    (hw : Waits M w (ρ x) m B) (h : stepP lk Hi (.ini m a) = some (v, n)) (hn : ∀ cs g fz, n = [.cells cs g fz] → New M H Hi cs) :
    ∃ w' M', (execOp ρ o).run P w = .ok .skip w' ∧ RelV M' v (ρ x) ∧ Sat P M' H 0 w' ∧ FrX (· = B) M M' w w' ∧ ∀ id, id ≠ Hi.length → M'.loc id = M.loc id := by
  have r2 := hA _ _ hy
  simp only [stepP] at h
  split at h <;> try (cases h; done)
  rename_i cs hcs
  split at h <;> try (cases h; done)
  rename_i hlen
  simp only [Option.some.injEq, Prod.mk.injEq] at h
  obtain ⟨rfl, rfl⟩ := h
  have hnew := hn _ _ _ rfl
  obtain ⟨c1, c2, c3⟩ := relV_cells hcs r2
  obtain ⟨hv, ⟨arr, T, fr, e1, e2, e3⟩, e4, e5⟩ := hw
  have hlt := (Array.getElem?_eq_some_iff.1 e1).1
  obtain ⟨w', arr', s1, s2, s3, s4, s5, s6, s7, s8, s9⟩ := run_storeCells_spl (P := P) (ρ y).cells.toList 0 0 arr w e1 (by simp only [Array.length_toList]; omega) (by rw [e2]; exact e3) (fun u hu => c3 u (by simpa using hu))
  have harr : arr'.toList = (ρ y).cells.toList := by
    rw [s3]
    unfold spl
    simp only [Nat.add_zero, List.take_zero, List.nil_append, Nat.zero_add, Array.length_toList]
    rw [List.drop_eq_nil_of_le (by simp only [Array.length_toList]; omega), List.append_nil]
  obtain ⟨fz, ho⟩ := hnew.ob
  obtain ⟨p1, p2⟩ := Sat.lay (w' := w') (B := B) hs ho hnew.loc s2 (by omega) (fun b _ hb => s5 b hb) e4 e5 s7 s8 s9 (fun _ => ⟨_, _, _, e1⟩) (by rw [harr]; exact RelCs.mono (MM.lay_ext hnew.loc) c1) (by rw [s4, e2]; exact e3) (by rw [harr]; exact fun u hu => c3 u (by simpa using hu)) (fun a t f h => by rw [e1] at h; cases h; rfl)
  refine ⟨w', _, ?_, by rw [hv]; exact hnew.ptr hs, p1, p2, fun id hid => by simp only [MM.lay]; rw [if_neg hid]⟩
  have hsz' : (ρ y).cells.size = m := by omega
  simp [execOp, hop, hv, Instr.storeAt, Instr.sureAddr, storeVar, run_sizeOf hsz, hsz', s1]

theorem a_apn {sz : Nat} {b : A} {v : V} {n : List Ob} {X : Nat → Prop} (hs : Sat P M H 0 w) (hsub : Sub Hi H) (hA : ∀ x a, okA k x a = true → RelV M (lk a) (ρ x)) (hc : ∀ x, ρ (.const x) = x) (hok : okOp P k o (.apn sz b) = true)
    (h : stepP lk Hi (.apn sz b) = some (v, n)) (hn : ∀ cs g fz, n = [.cells cs g fz] → New M H Hi cs) : Did P M H w (execOp ρ o) v (fun id => n ≠ [] ∧ id = Hi.length) X := by
  cases hop : o.op <;> simp only [okOp, hop] at hok <;> try (cases hok; done)
  rename_i c
  rw [Bool.and_eq_true, Bool.and_eq_true] at hok
  obtain ⟨⟨h1, h2⟩, h3⟩ := hok
  rw [decide_eq_true_eq] at h3
  obtain ⟨t, u, e, d, i, z, hcal, t0, t1, hu, hd, hnd, hi, rfl, hz, hb, hzs, hz1⟩ := app_types h1
  have hsz : size? P e = some i.size := by simp [size?, hi]
  split at h2 <;> try (cases h2; done)
  rename_i y hargs
  have r2 := hA _ _ h2
  have hargs' : c.args.map ρ = #[.slice none 0 0, ρ y] := by apply Array.ext'; simp [hargs, hc]
  simp only [stepP] at h
  split at h <;> try (cases h; done)
  rename_i m new he
  obtain ⟨cells, e1, e2, e3, e4, e5, e6⟩ := elems_rel hs hsub h3 he r2
  obtain ⟨cellsD, f1, f2, f3, f4, f5, f6⟩ := elems_rel hs.drew hsub h3 he r2
  have e6 := e6 m (Nat.le_refl _)
  rw [List.take_of_length_le (by omega)] at e6
  have f6 := f6 m (Nat.le_refl _)
  rw [List.take_of_length_le (by omega)] at f6
  have hexec : ∀ v' w', (Builtin.append_ c.argTypes o.type #[.slice none 0 0, ρ y]).run P w = .ok v' w' → (execOp ρ o).run P w = .ok (.value v') w' := by
    intro v' w' hrun
    exact exec_builtin hop hcal (fun cs => rfl) (by rw [hargs']; exact hrun)
  split at h
  · rename_i hm
    simp only [Option.some.injEq, Prod.mk.injEq] at h
    obtain ⟨rfl, rfl⟩ := h
    subst hm
    exact Quiet.did hs ⟨_, hexec _ _ (run_append_fit t0 hu t1 hd hnd hsz e5 e6 (by omega) rfl), by rw [relV_nils]⟩
  · rename_i hm
    split at h <;> try (cases h; done)
    rename_i hbig
    simp only [Option.some.injEq, Prod.mk.injEq] at h
    obtain ⟨rfl, rfl⟩ := h
    have hnew := hn _ _ _ rfl
    have hrun := run_append_more (ty := o.type) (old := []) (base := Option.none) (sLen := 0) (sCap := 0) t0 hu t1 hd hnd hi hz e5 (by simp [Builtin.firstCells]) f6 (by omega) (by omega) hb
    obtain ⟨g1, g2, g3, g4, g5⟩ := app_new (w := w) (M := M) (sz := i.size) (n0 := 0) (m := m) (_g := 0) (old := []) (oldC := []) (sc := 0) (e := e) (RelCs.nil _ _) (by simp) (by simp) f3 f1 f2 (by simp) f4 hz1 hzs h3 rfl
    simp only [Nat.zero_add] at g4 hrun g3 g1 g2
    exact (did_alloc hs hnew (hexec _ _ hrun) rfl rfl rfl rfl (by simpa using g1) (thawed0 _) g2 (hnew.slice hs g4 (by rw [g3]; exact Nat.le_refl _) (fun k hk => by cases hk))).imp (fun id h => ⟨by simp, h⟩)

/-! ### What is read out -/
theorem mapO_get {α β : Type} {f : α → Option β} : ∀ {xs : List α} {ys : List β}, mapO f xs = some ys → xs.length = ys.length ∧ ∀ (j : Nat) (y : β), ys[j]? = some y → ∃ x, xs[j]? = some x ∧ f x = some y
  | [], ys, h => by simp only [mapO, Option.some.injEq] at h; subst h; simp
  | x :: xs, ys, h => by
    simp only [mapO] at h
    split at h <;> try (cases h; done)
    rename_i y hy
    split at h <;> try (cases h; done)
    rename_i ys' hys
    simp only [Option.some.injEq] at h
    subst h
    obtain ⟨h1, h2⟩ := mapO_get hys
    refine ⟨by simp [h1], fun j z hz => ?_⟩
    cases j with
    | zero => simp only [List.getElem?_cons_zero, Option.some.injEq] at hz ⊢; subst hz; exact ⟨x, rfl, hy⟩
    | succ j => simp only [List.getElem?_cons_succ] at hz ⊢; exact h2 j z hz

open Classical in
/-- The blocks of these objects are held fast too. -/
noncomputable def immX (M : MM) (w : World) (ids : List Nat) : Imm := fun B =>
  match M.imm B with
  | some o => some o
  | none => if ∃ id ∈ ids, ∃ b c, M.loc id = some (some (B, b, c)) then w.heap[B]? else none

theorem immX_le {ids : List Nat} : ∀ B o, M.imm B = some o → immX M w ids B = some o := fun B o h => by simp [immX, h]
theorem immX_heap {ids : List Nat} (hs : Sat P M H 0 w) {B : Nat} {o : Obj} (h : immX M w ids B = some o) : w.heap[B]? = some o := by
  unfold immX at h
  split at h
  · rename_i o' ho'
    cases h
    exact hs.imm B _ ho'
  · split at h
    · exact h
    · cases h
theorem immX_own {ids : List Nat} (hs : Sat P M H 0 w) {id B b c : Nat} {o : Obj} (hid : id ∈ ids) (hl : M.loc id = some (some (B, b, c))) (h : w.heap[B]? = some o) : immX M w ids B = some o := by
  unfold immX
  split
  · rename_i o' ho'
    rw [hs.imm B _ ho'] at h
    exact h
  · rw [if_pos ⟨id, hid, b, c, hl⟩]
    exact h

theorem deepC_rel (hs : Sat P M H 0 w) (hsub : Sub Hi H) {ids : List Nat} : ∀ (k : Nat) (c : C) (v : Value) (d : D), deepC Hi k c = some d → RelC M c v → (∀ id ∈ reachC Hi k c, id ∈ ids) → RelD (immX M w ids) d v
  | k, .d x, v, d, h, r, _ => by
    have : d = x := by cases k <;> simp [deepC] at h <;> exact h.symm
    subst this
    simp only [RelC] at r
    exact RelD.mono immX_le r
  | 0, .ptr _ _ _, _, _, h, _, _ => by simp [deepC] at h
  | 0, .os _ _ _ _ _ _, _, _, h, _, _ => by simp [deepC] at h
  | 0, .fn _ _ _, _, _, h, _, _ => by simp [deepC] at h
  | k, .yld _, _, _, h, _, _ => by cases k <;> simp [deepC] at h
  | k, .bt _ _, _, _, h, _, _ => by cases k <;> simp [deepC] at h
  | k, .mp _, _, _, h, _, _ => by cases k <;> simp [deepC] at h
  | k, .ch _, _, _, h, _, _ => by cases k <;> simp [deepC] at h
  | k + 1, .ptr id g off, v, d, h, r, hid => by
    simp only [deepC] at h
    split at h <;> try (cases h; done)
    rename_i cs g' fz ho
    split at h <;> try (cases h; done)
    rename_i hg
    subst hg
    simp only [Option.map_eq_some_iff] at h
    obtain ⟨ds, hds, rfl⟩ := h
    obtain ⟨B, b0, bs, fz', hl, hv, arr, T, fr, f1, f2, f3, f4, f5⟩ := live_ptr hs hsub ho r
    simp only [reachC, ho] at hid
    simp only [RelD]
    refine ⟨B, b0 + off, arr, T, fr, hv, immX_own hs (hid id (by simp)) hl f1, ?_⟩
    have hr := f4.drop off
    rw [List.drop_drop] at hr
    obtain ⟨_, hget⟩ := mapO_get hds
    rw [RelDs.iff]
    intro j d hd
    obtain ⟨x, hx, hdx⟩ := hget j d hd
    obtain ⟨u, hu, hru⟩ := RelCs.iff.1 hr j x hx
    exact ⟨u, hu, deepC_rel hs hsub k x u d hdx hru (fun id' hid' => hid id' (by simp only [List.mem_cons, List.mem_flatMap]; exact .inr ⟨x, List.mem_of_getElem? hx, hid'⟩))⟩
  | k + 1, .os id g off len sz cap, v, d, h, r, hid => by
    simp only [deepC] at h
    split at h <;> try (cases h; done)
    rename_i cs g' fz ho
    split at h <;> try (cases h; done)
    rename_i hg
    subst hg
    split at h <;> try (cases h; done)
    rename_i hfit
    simp only [Option.map_eq_some_iff] at h
    obtain ⟨ds, hds, rfl⟩ := h
    obtain ⟨hlen, hget⟩ := mapO_get hds
    obtain ⟨a, c, hv, hlc, _, hcase⟩ := live_os hs hsub ho r
    simp only [reachC, ho] at hid
    simp only [RelD]
    refine ⟨a, c, hv, hlc, ?_⟩
    have nil : len * sz = 0 → ds = [] := fun h0 => by
      rw [h0] at hlen
      exact List.eq_nil_of_length_eq_zero (by simpa using hlen.symm)
    rcases hcase with ⟨_, _, rfl, rfl⟩ | ⟨B, b0, bs, fz', hl, ha, hbs, arr, T, fr, f1, f2, f3, f4, f5⟩
    · left
      apply nil
      have : len = 0 := by omega
      simp [this]
    · rcases ha with rfl | rfl
      · left
        apply nil
        have : len = 0 := by omega
        simp [this]
      · right
        refine ⟨B, b0 + off, arr, T, fr, rfl, immX_own hs (hid id (by simp)) hl f1, ?_⟩
        have hr := (f4.drop off).take (len * sz)
        rw [List.drop_drop] at hr
        rw [RelDs.iff]
        intro j d hd
        obtain ⟨x, hx, hdx⟩ := hget j d hd
        obtain ⟨u, hu, hru⟩ := RelCs.iff.1 hr j x hx
        exact ⟨u, hu, deepC_rel hs hsub k x u d hdx hru (fun id' hid' => hid id' (by simp only [List.mem_cons, List.mem_flatMap]; exact .inr ⟨x, List.mem_of_getElem? hx, hid'⟩))⟩
  | k + 1, .fn f first caps, v, d, h, r, hid => by
    simp only [deepC] at h
    split at h <;> try (cases h; done)
    rename_i as bs ha hb
    cases h
    simp only [RelC] at r
    obtain ⟨x, y, rfl, r1, r2, r3, r4⟩ := r
    obtain ⟨la, ga⟩ := mapO_get ha
    obtain ⟨lb, gb⟩ := mapO_get hb
    simp only [reachC] at hid
    simp only [RelD]
    refine ⟨x, y, rfl, ?_, by omega, ?_, by omega⟩
    · rw [RelDs.iff]
      intro j d hd
      obtain ⟨c, hc, hdc⟩ := ga j d hd
      obtain ⟨u, hu, hru⟩ := RelCs.iff.1 r1 j c hc
      exact ⟨u, hu, deepC_rel hs hsub k c u d hdc hru (fun id' hid' => hid id' (by simp only [List.mem_append, List.mem_flatMap]; exact .inl ⟨c, List.mem_of_getElem? hc, hid'⟩))⟩
    · rw [RelDs.iff]
      intro j d hd
      obtain ⟨c, hc, hdc⟩ := gb j d hd
      obtain ⟨u, hu, hru⟩ := RelCs.iff.1 r3 j c hc
      exact ⟨u, hu, deepC_rel hs hsub k c u d hdc hru (fun id' hid' => hid id' (by simp only [List.mem_append, List.mem_flatMap]; exact .inr ⟨c, List.mem_of_getElem? hc, hid'⟩))⟩
end

/-- No local heap: only blocks that are held fast. -/
def mm (I : Imm) : MM := ⟨I, fun _ => none, fun _ => 0, 0, fun _ => none⟩

section
variable {P : Program} {M : MM} {w w' : World} {lk : A → V} {Hi H : Heap}

theorem deepV1_rel (hs : Sat P M H 0 w) (hsub : Sub Hi H) {ids : List Nat} {x y : V} {v : Value} (h : deepV1 Hi x = some y) (r : RelV M x v) (hid : ∀ id ∈ reachV Hi x, id ∈ ids) : RelV (mm (immX M w ids)) y v := by
  cases x with
  | c x =>
    simp only [deepV1, Option.map_eq_some_iff] at h
    obtain ⟨d, hd, rfl⟩ := h
    rw [relV_c] at r
    rw [relV_d]
    exact deepC_rel hs hsub _ _ _ _ hd r hid
  | agg cs =>
    simp only [deepV1, Option.map_eq_some_iff] at h
    obtain ⟨ds, hd, rfl⟩ := h
    rw [relV_agg] at r
    obtain ⟨arr, rfl, r1, r2⟩ := r
    obtain ⟨hl, hget⟩ := mapO_get hd
    rw [relV_agg]
    refine ⟨arr, rfl, by simp; omega, ?_⟩
    rw [RelCs.of_d, RelDs.iff]
    intro j d hdj
    obtain ⟨c, hc, hdc⟩ := hget j d hdj
    obtain ⟨u, hu, hru⟩ := RelCs.iff.1 r2 j c hc
    exact ⟨u, hu, deepC_rel hs hsub _ _ _ _ hdc hru (fun id' hid' => hid id' (by simp only [reachV, List.mem_flatMap]; exact ⟨c, List.mem_of_getElem? hc, hid'⟩))⟩
  | tup vs => simp [deepV1] at h
  | any => simp [deepV1] at h

theorem deepV1s_rel (hs : Sat P M H 0 w) (hsub : Sub Hi H) {ids : List Nat} : ∀ {args : List A} {vs : List V} {us : List Value}, mapO (fun a => deepV1 Hi (lk a)) args = some vs → RelVs M (args.map lk) us → (∀ id ∈ args.flatMap (fun a => reachV Hi (lk a)), id ∈ ids) →
    RelVs (mm (immX M w ids)) vs us
  | [], vs, us, h, _, _ => by simp only [mapO, Option.some.injEq] at h; subst h; exact RelVs.nil _ _
  | a :: args, vs, us, h, r, hid => by
    simp only [mapO] at h
    split at h <;> try (cases h; done)
    rename_i y hy
    split at h <;> try (cases h; done)
    rename_i ys hys
    simp only [Option.some.injEq] at h
    subst h
    cases us with
    | nil => simp [RelVs] at r
    | cons u us =>
      simp only [List.map_cons, RelVs] at r ⊢
      exact ⟨deepV1_rel hs hsub hy r.1 (fun id hi => hid id (by simp [hi])), deepV1s_rel hs hsub hys r.2 (fun id hi => hid id (by simp only [List.flatMap_cons, List.mem_append]; exact .inr hi))⟩

theorem reachC_cells : ∀ (k : Nat) (c : C) (id : Nat), id ∈ reachC Hi k c → ∃ cs g fz, ob? Hi id = some (.cells cs g fz)
  | k, .d x, id, h => by cases k <;> simp [reachC] at h
  | 0, .ptr _ _ _, _, h => by simp [reachC] at h
  | 0, .os _ _ _ _ _ _, _, h => by simp [reachC] at h
  | 0, .fn _ _ _, _, h => by simp [reachC] at h
  | k, .yld _, _, h => by cases k <;> simp [reachC] at h
  | k, .bt _ _, _, h => by cases k <;> simp [reachC] at h
  | k, .mp _, _, h => by cases k <;> simp [reachC] at h
  | k, .ch _, _, h => by cases k <;> simp [reachC] at h
  | k + 1, .ptr j g off, id, h => by
    simp only [reachC] at h
    split at h
    · rename_i cs g' fz ho
      rcases List.mem_cons.1 h with rfl | h
      · exact ⟨_, _, _, ho⟩
      · obtain ⟨c, _, hc⟩ := List.mem_flatMap.1 h; exact reachC_cells k c id hc
    · cases h
  | k + 1, .os j g off len sz cap, id, h => by
    simp only [reachC] at h
    split at h
    · rename_i cs g' fz ho
      rcases List.mem_cons.1 h with rfl | h
      · exact ⟨_, _, _, ho⟩
      · obtain ⟨c, _, hc⟩ := List.mem_flatMap.1 h; exact reachC_cells k c id hc
    · cases h
  | k + 1, .fn f a b, id, h => by
    simp only [reachC, List.mem_append, List.mem_flatMap] at h
    rcases h with ⟨c, _, hc⟩ | ⟨c, _, hc⟩ <;> exact reachC_cells k c id hc
theorem reachV_cells {x : V} {id : Nat} (h : id ∈ reachV Hi x) : ∃ cs g fz, ob? Hi id = some (.cells cs g fz) := by
  cases x with
  | c x => exact reachC_cells _ _ _ h
  | agg cs => simp only [reachV, List.mem_flatMap] at h; obtain ⟨c, _, hc⟩ := h; exact reachC_cells _ _ _ hc
  | tup vs => simp [reachV] at h
  | any => simp [reachV] at h

theorem fz1_wide (H : Heap) (id : Nat) : Wide H (fz1 H id) := by
  unfold fz1
  split
  · rename_i cs g fz ho
    refine ⟨by rw [setOb_length]; exact Nat.le_refl _, fun j o hj => ?_⟩
    by_cases e : j = id
    · subst e
      rw [ho] at hj
      cases hj
      exact ⟨_, ob?_setOb_same ho, by simp [Frz]⟩
    · exact ⟨o, by rw [ob?_setOb_ne e]; exact hj, Frz.refl o⟩
  · exact Wide.refl H
theorem freeze_wide : ∀ (ids : List Nat) (H : Heap), Wide H (freeze H ids)
  | [], H => Wide.refl H
  | id :: ids, H => by
    show Wide H (freeze (fz1 H id) ids)
    exact (fz1_wide H id).trans (freeze_wide ids _)
theorem fz1_length (H : Heap) (id : Nat) : (fz1 H id).length = H.length := by
  unfold fz1
  split
  · exact setOb_length _ _ _
  · rfl
theorem freeze_length : ∀ (ids : List Nat) (H : Heap), (freeze H ids).length = H.length
  | [], _ => rfl
  | id :: ids, H => by
    show (freeze (fz1 H id) ids).length = _
    rw [freeze_length ids, fz1_length]
theorem freeze_marks : ∀ (ids : List Nat) (H : Heap) (id : Nat) (cs : List C) (g : Nat) (fz : Bool), id ∈ ids → ob? (freeze H ids) id = some (.cells cs g fz) → fz = true
  | [], _, _, _, _, _, h, _ => by cases h
  | j :: ids, H, id, cs, g, fz, h, ho => by
    have hw := freeze_wide ids (fz1 H j)
    by_cases hin : id ∈ ids
    · exact freeze_marks ids (fz1 H j) id cs g fz hin ho
    · have hj : id = j := (List.mem_cons.1 h).resolve_right hin
      subst hj
      change ob? (freeze (fz1 H id) ids) id = _ at ho
      cases hob : ob? (fz1 H id) id with
      | none =>
        rw [ob?_eq, List.getElem?_eq_none_iff, fz1_length] at hob
        have := ob?_lt ho
        rw [freeze_length, fz1_length] at this
        omega
      | some q =>
        obtain ⟨o', h1, h2⟩ := hw.ob id q hob
        rw [ho] at h1
        cases h1
        unfold fz1 at hob
        split at hob
        · rename_i cs' g' fz' ho'
          rw [ob?_setOb_same ho'] at hob
          cases hob
          simp only [Frz] at h2
          exact h2.2.2 trivial
        · rename_i hno
          cases q <;> simp [Frz] at h2
          exact absurd hob (hno _ _ _)

/-! ### Calls by value -/
/-- Package-level variables that nobody writes. -/
def GlobOk (G : Nat → Option (List D)) (I : Imm) : Prop := ∀ b cs, G b = some cs → RelD I (.ip cs) (.pointer (some ⟨b, 0, none⟩)) ∧ ∃ arr T fr, I b = some (.cells arr T fr) ∧ arr.size = cs.length
theorem GlobOk.mono {G : Nat → Option (List D)} {I J : Imm} (h : GlobOk G I) (hi : ∀ B o, I B = some o → J B = some o) : GlobOk G J := fun b cs hb => by
  obtain ⟨h1, arr, T, fr, h2, h3⟩ := h b cs hb
  exact ⟨RelD.mono hi h1, arr, T, fr, hi _ _ h2, h3⟩
/-- A variable's block. -/
theorem GlobOk.at {G : Nat → Option (List D)} {I : Imm} (h : GlobOk G I) {b : Nat} {cs : List D} (hb : G b = some cs) : ∃ arr T fr, I b = some (.cells arr T fr) ∧ arr.size = cs.length ∧ RelDs I cs arr.toList := by
  obtain ⟨h1, arr, T, fr, h2, h3⟩ := h b cs hb
  refine ⟨arr, T, fr, h2, h3, ?_⟩
  simp only [RelD] at h1
  obtain ⟨B, o, arr', T', fr', e1, e2, e3⟩ := h1
  simp only [Value.pointer.injEq, Option.some.injEq, Addr.mk.injEq] at e1
  obtain ⟨rfl, rfl, _⟩ := e1
  rw [h2] at e2
  cases e2
  simpa using e3

/-- A call of a function whose arguments hold nothing that is written. -/
def ValCall (P : Program) (G : Nat → Option (List D)) (f : FuncId) (vs : List V) (r : V) : Prop :=
  ∀ (I : Imm) (w : World) (us : List Value), GlobOk G I → (∀ B o, I B = some o → w.heap[B]? = some o) → RelVs (mm I) vs us → vs.length = us.length →
    Calls P f us.toArray w fun e w' => ∃ v' I', e = .returned v' ∧ RelV (mm I') r v' ∧ (∀ B o, I B = some o → I' B = some o) ∧ (∀ B o, I' B = some o → w'.heap[B]? = some o) ∧ (∀ B o, I' B = some o → I B = some o ∨ w.heap.size ≤ B) ∧
      w'.os = w.os ∧ w'.tape = w.tape ∧ w'.output = w.output ∧ w.heap.size ≤ w'.heap.size ∧ ∀ B : Nat, B < w.heap.size → w'.heap[B]? = w.heap[B]?

theorem mm_ext {I _J : Imm} {M : MM} (h : ∀ B o, I B = some o → M.imm B = some o) : Ext (mm I) M := ⟨h, Nat.zero_le _, fun _ h => absurd h (Nat.not_lt_zero _), fun _ _ h => absurd h (Nat.not_lt_zero _), fun _ _ h => by cases h⟩

theorem D.flat_rel {I J : Imm} {d : D} {v : Value} (h : d.flat = true) (r : RelD I d v) : RelD J d v := by
  cases d
  case ifv t g cs =>
    simp only [D.flat, List.isEmpty_iff] at h
    subst h
    cases g <;> simp only [RelD] at r ⊢
    · obtain ⟨x, _, h, _⟩ := r; simp at h
    · obtain ⟨arr, h1, h2, _⟩ := r; exact ⟨arr, h1, h2, RelDs.nil _ _⟩
  all_goals (simp only [RelD] at r ⊢; first | exact r | skip)
  · simp [D.flat] at h
  · rename_i cs n
    simp only [D.flat, List.isEmpty_iff] at h
    subst h
    obtain ⟨a, c, h1, h2, _⟩ := r
    exact ⟨a, c, h1, h2, .inl rfl⟩
  · rename_i f a b
    simp only [D.flat, Bool.and_eq_true, List.isEmpty_iff] at h
    obtain ⟨rfl, rfl⟩ := h
    obtain ⟨x, y, h1, _, h2, _, h3⟩ := r
    exact ⟨x, y, h1, RelDs.nil _ _, h2, RelDs.nil _ _, h3⟩
theorem C.flat_rel {M M' : MM} {c : C} {v : Value} (h : c.flat = true) (r : RelC M c v) : RelC M' c v := by
  cases c with
  | d x => simp only [RelC] at r ⊢; exact D.flat_rel (by simpa [C.flat] using h) r
  | _ => simp [C.flat] at h
theorem V.flat1_rel {M M' : MM} {x : V} {v : Value} (h : x.flat1 = true) (r : RelV M x v) : RelV M' x v := by
  cases x with
  | c x => rw [relV_c] at r ⊢; exact C.flat_rel (by simpa [V.flat1] using h) r
  | agg cs =>
    rw [relV_agg] at r ⊢
    obtain ⟨arr, h1, h2, h3⟩ := r
    refine ⟨arr, h1, h2, ?_⟩
    rw [RelCs.iff] at h3 ⊢
    intro j d hd
    obtain ⟨u, hu, hr⟩ := h3 j d hd
    simp only [V.flat1, List.all_eq_true] at h
    exact ⟨u, hu, C.flat_rel (h d (List.mem_of_getElem? hd)) hr⟩
  | tup vs => simp [V.flat1] at h
  | any => simp [V.flat1] at h
theorem V.flat_rel {M M' : MM} {x : V} {v : Value} (h : x.flat = true) (r : RelV M x v) : RelV M' x v := by
  cases x with
  | tup vs =>
    rw [relV_tup] at r ⊢
    obtain ⟨arr, h1, h2, h3⟩ := r
    refine ⟨arr, h1, h2, ?_⟩
    rw [RelVs.iff] at h3 ⊢
    intro j d hd
    obtain ⟨u, hu, hr⟩ := h3 j d hd
    simp only [V.flat, List.all_eq_true] at h
    exact ⟨u, hu, V.flat1_rel (h d (List.mem_of_getElem? hd)) hr⟩
  | c x => exact V.flat1_rel h r
  | agg cs => exact V.flat1_rel h r
  | any => exact V.flat1_rel h r

theorem vcall_step {G : Nat → Option (List D)} (hG : GlobOk G M.imm) {f : List V → Option V} {fid : FuncId} {args : List A} {us : List Value} {r : V} {H1 : Heap} (hs : Sat P M H 0 w) (hsub : Sub Hi H) (h : byValue f lk Hi args = some (r, H1)) (hf : ∀ vs r, f vs = some r → ValCall P G fid vs r)
    (hargs : RelVs M (args.map lk) us) (hlen : args.length = us.length) (hw : Wide H1 H) :
    Calls P fid us.toArray w fun e w' => ∃ v' M', e = .returned v' ∧ RelV M' r v' ∧ Sat P M' H 0 w' ∧ Fr M M' w w' ∧ M'.loc = M.loc := by
  unfold byValue at h
  split at h <;> try (cases h; done)
  rename_i vs hvs
  split at h <;> try (cases h; done)
  rename_i r' hr
  simp only [Option.some.injEq, Prod.mk.injEq] at h
  obtain ⟨rfl, hH1⟩ := h
  let ids := args.flatMap fun a => reachV Hi (lk a)
  have hrel := deepV1s_rel (ids := ids) hs hsub hvs hargs (fun _ h => h)
  have hvl : vs.length = us.length := by rw [← (mapO_get hvs).1]; exact hlen
  refine (hf vs r' hr (immX M w ids) w us (hG.mono immX_le) (fun B o hB => immX_heap hs hB) hrel hvl).mono fun e w' hh => ?_
  obtain ⟨v', I', rfl, h1, h2, h3, h4, h5, h6, h7, h8, h9⟩ := hh
  by_cases hflat : r'.flat = true
  · refine ⟨v', M, rfl, V.flat_rel hflat h1, hs.grown h9, ⟨Ext.refl M, h5, h6, h7, h8, fun B hB _ => h9 B hB, fun B h => .inl h, fun B o h => .inl h⟩, rfl⟩
  · rw [if_neg hflat] at hH1
    have hext : Ext M { M with imm := I' } := ⟨fun B o hB => h2 B o (immX_le B o hB), Nat.le_refl _, fun _ _ => Nat.le_refl _, fun _ _ _ _ h => h, fun _ _ h => h⟩
    have hmarks : ∀ id ∈ ids, ∃ cs g, ob? H id = some (.cells cs g true) := by
      intro id hid
      obtain ⟨a, _, ha⟩ := List.mem_flatMap.1 hid
      obtain ⟨cs, g, fz, ho⟩ := reachV_cells ha
      obtain ⟨o1, k1, k2⟩ := (freeze_wide ids Hi).ob id _ ho
      cases o1 <;> simp only [Frz] at k2 <;> try (cases k2; done)
      rename_i cs1 g1 fz1
      have := freeze_marks ids Hi id _ _ _ hid k1
      subst this
      have hH1' : freeze Hi ids = H1 := hH1
      rw [hH1'] at k1
      obtain ⟨o2, k3, k4⟩ := hw.ob id _ k1
      cases o2 <;> simp only [Frz] at k4 <;> try (cases k4; done)
      rename_i cs2 g2 fz2
      have := k4.2.2 trivial
      subst this
      exact ⟨_, _, k3⟩
    -- a block that is held fast now, and belongs to an object
    have held : ∀ id B b c o, M.loc id = some (some (B, b, c)) → I' B = some o → M.imm B = some o ∨ (M.imm B = none ∧ id ∈ ids ∧ w.heap[B]? = some o) := by
      intro id B b c o hl hB
      have hlt := hs.block_lt ⟨id, b, c, hl⟩
      rcases h4 B o hB with hi | hi
      · unfold immX at hi
        split at hi
        · rename_i o' ho'
          cases hi
          exact .inl ho'
        · rename_i hn
          split at hi
          · rename_i hex
            obtain ⟨id', hid', b', c', hl'⟩ := hex
            have := hs.inj id' id B b' c' b c hl' hl
            subst this
            exact .inr ⟨hn, hid', hi⟩
          · cases hi
      · omega
    refine ⟨v', { M with imm := I' }, rfl, RelV.mono (mm_ext (_J := I') (fun _ _ h => h)) h1, ⟨hs.n, hs.out, h3, ?_, hs.idle, hs.inj, fun B t hb => by
      obtain ⟨a, f, hh⟩ := hs.ty B t hb
      exact ⟨a, f, by rw [h9 B (Array.getElem?_eq_some_iff.1 hh).1]; exact hh⟩, hs.bty⟩, ⟨hext, h5, h6, h7, h8, fun B hB _ => h9 B hB, fun B h => .inl h, ?_⟩, rfl⟩
    · intro id l hl
      obtain ⟨o, ho, hos⟩ := hs.obj id l hl
      refine ⟨o, ho, ?_⟩
      by_cases hb : ∀ B b c, l = some (B, b, c) → M.imm B = none → I' B = none
      · refine hos.keep hext rfl (fun B b c e => ?_) (fun B hB => by rw [h9 B (Array.getElem?_eq_some_iff.1 hB).1]; exact hB)
        subst e
        exact ⟨h9 B (hs.block_lt ⟨id, b, c, hl⟩), hb B b c rfl⟩
      · simp only [Classical.not_forall] at hb
        obtain ⟨B, b, c, rfl, hi, hne⟩ := hb
        cases hI : I' B with
        | none => exact absurd hI hne
        | some q =>
          rcases held id B b c q hl hI with hq | ⟨_, hid, hq⟩
          · rw [hi] at hq; cases hq
          · obtain ⟨cs, g, hob⟩ := hmarks id hid
            rw [ho] at hob
            cases hob
            simp only [ObSat] at hos ⊢
            obtain ⟨hg, arr, T, fr, e1, e2, e3, e4, _⟩ := hos
            rw [hq] at e1
            cases e1
            refine ⟨hg, arr, T, fr, by rw [h9 B (hs.block_lt ⟨id, b, c, hl⟩)]; exact hq, e2, e3, RelCs.mono hext e4, .inr ⟨rfl, hI⟩⟩
    · intro B o hB
      rcases h4 B o hB with hi | hi
      · unfold immX at hi
        split at hi
        · rename_i o' ho'
          cases hi
          exact .inl ho'
        · split at hi
          · rename_i hex
            obtain ⟨id', _, b', c', hl'⟩ := hex
            exact .inr (.inl ⟨id', b', c', hl'⟩)
          · cases hi
      · exact .inr (.inr hi)
end
end Mini
end Go.Proofs.YtmcgaakbkgdljaaGreatDoor
