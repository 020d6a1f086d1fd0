/-
  JournalsKnown: texts of the proof, part 8.
-/
import Derived.Test.YtgjlofpfbhioaaaGreatDoorLX06
namespace Go.Proofs.YtgjlofpfbhioaaaGreatDoor
namespace Mini
open Go
section
variable {P : Program} {M : MM} {w w' : World} {k : K} {o : Oper} {lk : A → V} {ρ : Operand → Value} {Hi H H' : Heap}
theorem Sat.grown (hs : Sat P M H 0 w) (h : ∀ B : Nat, B < w.heap.size → w'.heap[B]? = w.heap[B]?) : Sat P M H 0 w' where
  n := hs.n
  out := hs.out
  imm := fun B o hB => by
    have := hs.imm B o hB
    rw [h B (Array.getElem?_eq_some_iff.1 this).1]; exact this
  obj := fun id l hl => by
    obtain ⟨o, h1, h2⟩ := hs.obj id l hl
    refine ⟨o, h1, h2.keep (Ext.refl M) rfl (fun B b c e => ?_) (fun B hB => by rw [h B (Array.getElem?_eq_some_iff.1 hB).1]; exact hB)⟩
    subst e
    exact ⟨h B (hs.block_lt ⟨id, b, c, hl⟩), fun x => x⟩
  idle := hs.idle
  inj := hs.inj
  ty := fun B t hb => by
    obtain ⟨a, f, hh⟩ := hs.ty B t hb
    exact ⟨a, f, by rw [h B (Array.getElem?_eq_some_iff.1 hh).1]; exact hh⟩
  bty := hs.bty
theorem Did.imp {x : Sem Next} {v : V} {J J' X : Nat → Prop} (h : Did P M H w x v J X) (hj : ∀ id, J id → J' id) : Did P M H w x v J' X := by
  obtain ⟨nx, w', M', h1, h2, h3, h4, h5⟩ := h
  exact ⟨nx, w', M', h1, h2, h3, h4, fun id hid => h5 id (fun h => hid (hj id h))⟩
def Waits (M : MM) (w : World) (v : Value) (m B : Nat) : Prop :=
  v = .pointer (some ⟨B, 0, none⟩) ∧ (∃ arr T fr, w.heap[B]? = some (.cells arr T fr) ∧ arr.size = m ∧ Thawed fr m) ∧ ¬ M.Owns B ∧ M.imm B = none
theorem Waits.keep {M' : MM} {X : Nat → Prop} {v : Value} {m B : Nat} (h : Waits M w v m B) (hf : FrX X M M' w w') (hX : ¬ X B) : Waits M' w' v m B := by
  obtain ⟨h1, ⟨arr, T, fr, h2, h3⟩, h4, h5⟩ := h
  have hlt := (Array.getElem?_eq_some_iff.1 h2).1
  refine ⟨h1, ⟨arr, T, fr, by rw [hf.keep B hlt h4 hX]; exact h2, h3⟩, fun ho => ?_, ?_⟩
  · rcases hf.own B ho with h | h | h
    · exact h4 h
    · omega
    · exact hX h
  · cases hi : M'.imm B with
    | none => rfl
    | some o =>
      rcases hf.imm B o hi with h | h | h
      · rw [h5] at h; cases h
      · exact absurd h h4
      · omega
theorem a_pre (hs : Sat P M H 0 w) (hok : okOp P k o .pre = true) : ∃ t vs, o.op = .alloc t ∧ zero? P t = some vs ∧ ∃ v' w', (execOp ρ o).run P w = .ok (.value v') w' ∧ Sat P M H 0 w' ∧ (∀ X, FrX X M M w w') ∧ Waits M w' v' vs.length w.heap.size := by
  cases hop : o.op <;> simp only [okOp, hop] at hok <;> try (cases hok; done)
  rename_i t
  rw [Bool.and_eq_true] at hok
  obtain ⟨hok, _⟩ := hok
  obtain ⟨vs, hz⟩ := Option.isSome_iff_exists.1 hok
  obtain ⟨it, z, e1, e2, e3⟩ := zero?_spec hz
  have hkeep : ∀ B : Nat, B < w.heap.size → (w.alloc (.cells z.cells t)).heap[B]? = w.heap[B]? := fun B hB => by
    show (w.heap.push _)[B]? = _
    rw [Array.getElem?_push, if_neg (Nat.ne_of_lt hB)]
  refine ⟨t, vs, rfl, hz, .pointer (some ⟨w.heap.size, 0, none⟩), w.alloc (.cells z.cells t), by simp [execOp, hop, Instr.alloc, zeroValue, typeInfo, e1, e2, run_newVar], hs.grown hkeep, fun X => ⟨Ext.refl M, rfl, rfl, rfl, ?_, fun B hB _ _ => hkeep B hB, fun B h => .inl h, fun B o h => .inl h⟩, ?_⟩
  · show _ ≤ (w.heap.push _).size; simp
  · refine ⟨rfl, ⟨z.cells, t, (0, 0), ?_, by rw [← Array.length_toList, e3], thawed0 _⟩, fun h => Nat.lt_irrefl _ (hs.block_lt h), hs.imm_lt (Nat.le_refl _)⟩
    show (w.heap.push _)[w.heap.size]? = _
    simp
theorem a_ini {m B : Nat} {a : A} {v : V} {n : List Ob} {t : TypeId} {x y : Operand} (hs : Sat P M H 0 w) (hA : ∀ x a, okA k x a = true → RelV M (lk a) (ρ x)) (hop : o.op = .store t x y) (hy : okA k y a = true) (hsz : size? P t = some m)
    (hw : Waits M w (ρ x) m B) (h : stepP lk Hi (.ini m a) = some (v, n)) (hn : ∀ cs g fz, n = [.cells cs g fz] → New M H Hi cs) :
    ∃ w' M', (execOp ρ o).run P w = .ok .skip w' ∧ RelV M' v (ρ x) ∧ Sat P M' H 0 w' ∧ FrX (· = B) M M' w w' ∧ ∀ id, id ≠ Hi.length → M'.loc id = M.loc id := by
  have r2 := hA _ _ hy
  simp only [stepP] at h
  split at h <;> try (cases h; done)
  rename_i cs hcs
  split at h <;> try (cases h; done)
  rename_i hlen
  simp only [Option.some.injEq, Prod.mk.injEq] at h
  obtain ⟨rfl, rfl⟩ := h
  have hnew := hn _ _ _ rfl
  obtain ⟨c1, c2, c3⟩ := relV_cells hcs r2
  obtain ⟨hv, ⟨arr, T, fr, e1, e2, e3⟩, e4, e5⟩ := hw
  have hlt := (Array.getElem?_eq_some_iff.1 e1).1
  obtain ⟨w', arr', s1, s2, s3, s4, s5, s6, s7, s8, s9⟩ := run_storeCells_spl (P := P) (ρ y).cells.toList 0 0 arr w e1 (by simp only [Array.length_toList]; omega) (by rw [e2]; exact e3) (fun u hu => c3 u (by simpa using hu))
  have harr : arr'.toList = (ρ y).cells.toList := by
    rw [s3]
    unfold spl
    simp only [Nat.add_zero, List.take_zero, List.nil_append, Nat.zero_add, Array.length_toList]
    rw [List.drop_eq_nil_of_le (by simp only [Array.length_toList]; omega), List.append_nil]
  obtain ⟨fz, ho⟩ := hnew.ob
  obtain ⟨p1, p2⟩ := Sat.lay (w' := w') (B := B) hs ho hnew.loc s2 (by omega) (fun b _ hb => s5 b hb) e4 e5 s7 s8 s9 (fun _ => ⟨_, _, _, e1⟩) (by rw [harr]; exact RelCs.mono (MM.lay_ext hnew.loc) c1) (by rw [s4, e2]; exact e3) (by rw [harr]; exact fun u hu => c3 u (by simpa using hu)) (fun a t f h => by rw [e1] at h; cases h; rfl)
  refine ⟨w', _, ?_, by rw [hv]; exact hnew.ptr hs, p1, p2, fun id hid => by simp only [MM.lay]; rw [if_neg hid]⟩
  have hsz' : (ρ y).cells.size = m := by omega
  simp [execOp, hop, hv, Instr.storeAt, Instr.sureAddr, storeVar, run_sizeOf hsz, hsz', s1]
theorem a_apn {sz : Nat} {b : A} {v : V} {n : List Ob} {X : Nat → Prop} (hs : Sat P M H 0 w) (hsub : Sub Hi H) (hA : ∀ x a, okA k x a = true → RelV M (lk a) (ρ x)) (hc : ∀ x, ρ (.const x) = x) (hok : okOp P k o (.apn sz b) = true)
    (h : stepP lk Hi (.apn sz b) = some (v, n)) (hn : ∀ cs g fz, n = [.cells cs g fz] → New M H Hi cs) : Did P M H w (execOp ρ o) v (fun id => n ≠ [] ∧ id = Hi.length) X := by
  cases hop : o.op <;> simp only [okOp, hop] at hok <;> try (cases hok; done)
  rename_i c
  rw [Bool.and_eq_true, Bool.and_eq_true] at hok
  obtain ⟨⟨h1, h2⟩, h3⟩ := hok
  rw [decide_eq_true_eq] at h3
  obtain ⟨t, u, e, d, i, z, hcal, t0, t1, hu, hd, hnd, hi, rfl, hz, hb, hzs, hz1⟩ := app_types h1
  have hsz : size? P e = some i.size := by simp [size?, hi]
  split at h2 <;> try (cases h2; done)
  rename_i y hargs
  have r2 := hA _ _ h2
  have hargs' : c.args.map ρ = #[.slice none 0 0, ρ y] := by apply Array.ext'; simp [hargs, hc]
  simp only [stepP] at h
  split at h <;> try (cases h; done)
  rename_i m new he
  obtain ⟨cells, e1, e2, e3, e4, e5, e6⟩ := elems_rel hs hsub h3 he r2
  obtain ⟨cellsD, f1, f2, f3, f4, f5, f6⟩ := elems_rel hs.drew hsub h3 he r2
  have e6 := e6 m (Nat.le_refl _)
  rw [List.take_of_length_le (by omega)] at e6
  have f6 := f6 m (Nat.le_refl _)
  rw [List.take_of_length_le (by omega)] at f6
  have hexec : ∀ v' w', (Builtin.append_ c.argTypes o.type #[.slice none 0 0, ρ y]).run P w = .ok v' w' → (execOp ρ o).run P w = .ok (.value v') w' := by
    intro v' w' hrun
    exact exec_builtin hop hcal (fun cs => rfl) (by rw [hargs']; exact hrun)
  split at h
  · rename_i hm
    simp only [Option.some.injEq, Prod.mk.injEq] at h
    obtain ⟨rfl, rfl⟩ := h
    subst hm
    exact Quiet.did hs ⟨_, hexec _ _ (run_append_fit t0 hu t1 hd hnd hsz e5 e6 (by omega) rfl), by rw [relV_nils]⟩
  · rename_i hm
    split at h <;> try (cases h; done)
    rename_i hbig
    simp only [Option.some.injEq, Prod.mk.injEq] at h
    obtain ⟨rfl, rfl⟩ := h
    have hnew := hn _ _ _ rfl
    have hrun := run_append_more (ty := o.type) (old := []) (base := Option.none) (sLen := 0) (sCap := 0) t0 hu t1 hd hnd hi hz e5 (by simp [Builtin.firstCells]) f6 (by omega) (by omega) hb
    obtain ⟨g1, g2, g3, g4, g5⟩ := app_new (w := w) (M := M) (sz := i.size) (n0 := 0) (m := m) (_g := 0) (old := []) (oldC := []) (sc := 0) (e := e) (RelCs.nil _ _) (by simp) (by simp) f3 f1 f2 (by simp) f4 hz1 hzs h3 rfl
    simp only [Nat.zero_add] at g4 hrun g3 g1 g2
    exact (did_alloc hs hnew (hexec _ _ hrun) rfl rfl rfl rfl (by simpa using g1) (thawed0 _) g2 (hnew.slice hs g4 (by rw [g3]; exact Nat.le_refl _) (fun k hk => by cases hk))).imp (fun id h => ⟨by simp, h⟩)
theorem mapO_get {α β : Type} {f : α → Option β} : ∀ {xs : List α} {ys : List β}, mapO f xs = some ys → xs.length = ys.length ∧ ∀ (j : Nat) (y : β), ys[j]? = some y → ∃ x, xs[j]? = some x ∧ f x = some y
  | [], ys, h => by simp only [mapO, Option.some.injEq] at h; subst h; simp
  | x :: xs, ys, h => by
    simp only [mapO] at h
    split at h <;> try (cases h; done)
    rename_i y hy
    split at h <;> try (cases h; done)
    rename_i ys' hys
    simp only [Option.some.injEq] at h
    subst h
    obtain ⟨h1, h2⟩ := mapO_get hys
    refine ⟨by simp [h1], fun j z hz => ?_⟩
    cases j with
    | zero => simp only [List.getElem?_cons_zero, Option.some.injEq] at hz ⊢; subst hz; exact ⟨x, rfl, hy⟩
    | succ j => simp only [List.getElem?_cons_succ] at hz ⊢; exact h2 j z hz
open Classical in
noncomputable def immX (M : MM) (w : World) (ids : List Nat) : Imm := fun B =>
  match M.imm B with
  | some o => some o
  | none => if ∃ id ∈ ids, ∃ b c, M.loc id = some (some (B, b, c)) then w.heap[B]? else none
theorem immX_le {ids : List Nat} : ∀ B o, M.imm B = some o → immX M w ids B = some o := fun B o h => by simp [immX, h]
theorem immX_heap {ids : List Nat} (hs : Sat P M H 0 w) {B : Nat} {o : Obj} (h : immX M w ids B = some o) : w.heap[B]? = some o := by
  unfold immX at h
  split at h
  · rename_i o' ho'
    cases h
    exact hs.imm B _ ho'
  · split at h
    · exact h
    · cases h
theorem immX_own {ids : List Nat} (hs : Sat P M H 0 w) {id B b c : Nat} {o : Obj} (hid : id ∈ ids) (hl : M.loc id = some (some (B, b, c))) (h : w.heap[B]? = some o) : immX M w ids B = some o := by
  unfold immX
  split
  · rename_i o' ho'
    rw [hs.imm B _ ho'] at h
    exact h
  · rw [if_pos ⟨id, hid, b, c, hl⟩]
    exact h
theorem deepC_rel (hs : Sat P M H 0 w) (hsub : Sub Hi H) {ids : List Nat} : ∀ (k : Nat) (c : C) (v : Value) (d : D), deepC Hi k c = some d → RelC M c v → (∀ id ∈ reachC Hi k c, id ∈ ids) → RelD (immX M w ids) d v
  | k, .d x, v, d, h, r, _ => by
    have : d = x := by cases k <;> simp [deepC] at h <;> exact h.symm
    subst this
    simp only [RelC] at r
    exact RelD.mono immX_le r
  | 0, .ptr _ _ _, _, _, h, _, _ => by simp [deepC] at h
  | 0, .os _ _ _ _ _ _, _, _, h, _, _ => by simp [deepC] at h
  | 0, .fn _ _ _, _, _, h, _, _ => by simp [deepC] at h
  | k, .yld _, _, _, h, _, _ => by cases k <;> simp [deepC] at h
  | k, .bt _ _, _, _, h, _, _ => by cases k <;> simp [deepC] at h
  | k + 1, .ptr id g off, v, d, h, r, hid => by
    simp only [deepC] at h
    split at h <;> try (cases h; done)
    rename_i cs g' fz ho
    split at h <;> try (cases h; done)
    rename_i hg
    subst hg
    simp only [Option.map_eq_some_iff] at h
    obtain ⟨ds, hds, rfl⟩ := h
    obtain ⟨B, b0, bs, fz', hl, hv, arr, T, fr, f1, f2, f3, f4, f5⟩ := live_ptr hs hsub ho r
    simp only [reachC, ho] at hid
    simp only [RelD]
    refine ⟨B, b0 + off, arr, T, fr, hv, immX_own hs (hid id (by simp)) hl f1, ?_⟩
    have hr := f4.drop off
    rw [List.drop_drop] at hr
    obtain ⟨_, hget⟩ := mapO_get hds
    rw [RelDs.iff]
    intro j d hd
    obtain ⟨x, hx, hdx⟩ := hget j d hd
    obtain ⟨u, hu, hru⟩ := RelCs.iff.1 hr j x hx
    exact ⟨u, hu, deepC_rel hs hsub k x u d hdx hru (fun id' hid' => hid id' (by simp only [List.mem_cons, List.mem_flatMap]; exact .inr ⟨x, List.mem_of_getElem? hx, hid'⟩))⟩
  | k + 1, .os id g off len sz cap, v, d, h, r, hid => by
    simp only [deepC] at h
    split at h <;> try (cases h; done)
    rename_i cs g' fz ho
    split at h <;> try (cases h; done)
    rename_i hg
    subst hg
    split at h <;> try (cases h; done)
    rename_i hfit
    simp only [Option.map_eq_some_iff] at h
    obtain ⟨ds, hds, rfl⟩ := h
    obtain ⟨hlen, hget⟩ := mapO_get hds
    obtain ⟨a, c, hv, hlc, _, hcase⟩ := live_os hs hsub ho r
    simp only [reachC, ho] at hid
    simp only [RelD]
    refine ⟨a, c, hv, hlc, ?_⟩
    have nil : len * sz = 0 → ds = [] := fun h0 => by
      rw [h0] at hlen
      exact List.eq_nil_of_length_eq_zero (by simpa using hlen.symm)
    rcases hcase with ⟨_, _, rfl, rfl⟩ | ⟨B, b0, bs, fz', hl, ha, hbs, arr, T, fr, f1, f2, f3, f4, f5⟩
    · left
      apply nil
      have : len = 0 := by omega
      simp [this]
    · rcases ha with rfl | rfl
      · left
        apply nil
        have : len = 0 := by omega
        simp [this]
      · right
        refine ⟨B, b0 + off, arr, T, fr, rfl, immX_own hs (hid id (by simp)) hl f1, ?_⟩
        have hr := (f4.drop off).take (len * sz)
        rw [List.drop_drop] at hr
        rw [RelDs.iff]
        intro j d hd
        obtain ⟨x, hx, hdx⟩ := hget j d hd
        obtain ⟨u, hu, hru⟩ := RelCs.iff.1 hr j x hx
        exact ⟨u, hu, deepC_rel hs hsub k x u d hdx hru (fun id' hid' => hid id' (by simp only [List.mem_cons, List.mem_flatMap]; exact .inr ⟨x, List.mem_of_getElem? hx, hid'⟩))⟩
  | k + 1, .fn f first caps, v, d, h, r, hid => by
    simp only [deepC] at h
    split at h <;> try (cases h; done)
    rename_i as bs ha hb
    cases h
    simp only [RelC] at r
    obtain ⟨x, y, rfl, r1, r2, r3, r4⟩ := r
    obtain ⟨la, ga⟩ := mapO_get ha
    obtain ⟨lb, gb⟩ := mapO_get hb
    simp only [reachC] at hid
    simp only [RelD]
    refine ⟨x, y, rfl, ?_, by omega, ?_, by omega⟩
    · rw [RelDs.iff]
      intro j d hd
      obtain ⟨c, hc, hdc⟩ := ga j d hd
      obtain ⟨u, hu, hru⟩ := RelCs.iff.1 r1 j c hc
      exact ⟨u, hu, deepC_rel hs hsub k c u d hdc hru (fun id' hid' => hid id' (by simp only [List.mem_append, List.mem_flatMap]; exact .inl ⟨c, List.mem_of_getElem? hc, hid'⟩))⟩
    · rw [RelDs.iff]
      intro j d hd
      obtain ⟨c, hc, hdc⟩ := gb j d hd
      obtain ⟨u, hu, hru⟩ := RelCs.iff.1 r3 j c hc
      exact ⟨u, hu, deepC_rel hs hsub k c u d hdc hru (fun id' hid' => hid id' (by simp only [List.mem_append, List.mem_flatMap]; exact .inr ⟨c, List.mem_of_getElem? hc, hid'⟩))⟩
end
def mm (I : Imm) : MM := ⟨I, fun _ => none, fun _ => 0, 0, fun _ => none⟩
section
variable {P : Program} {M : MM} {w w' : World} {lk : A → V} {Hi H : Heap}
theorem deepV1_rel (hs : Sat P M H 0 w) (hsub : Sub Hi H) {ids : List Nat} {x y : V} {v : Value} (h : deepV1 Hi x = some y) (r : RelV M x v) (hid : ∀ id ∈ reachV Hi x, id ∈ ids) : RelV (mm (immX M w ids)) y v := by
  cases x with
  | c x =>
    simp only [deepV1, Option.map_eq_some_iff] at h
    obtain ⟨d, hd, rfl⟩ := h
    rw [relV_c] at r
    rw [relV_d]
    exact deepC_rel hs hsub _ _ _ _ hd r hid
  | agg cs =>
    simp only [deepV1, Option.map_eq_some_iff] at h
    obtain ⟨ds, hd, rfl⟩ := h
    rw [relV_agg] at r
    obtain ⟨arr, rfl, r1, r2⟩ := r
    obtain ⟨hl, hget⟩ := mapO_get hd
    rw [relV_agg]
    refine ⟨arr, rfl, by simp; omega, ?_⟩
    rw [RelCs.of_d, RelDs.iff]
    intro j d hdj
    obtain ⟨c, hc, hdc⟩ := hget j d hdj
    obtain ⟨u, hu, hru⟩ := RelCs.iff.1 r2 j c hc
    exact ⟨u, hu, deepC_rel hs hsub _ _ _ _ hdc hru (fun id' hid' => hid id' (by simp only [reachV, List.mem_flatMap]; exact ⟨c, List.mem_of_getElem? hc, hid'⟩))⟩
  | tup vs => simp [deepV1] at h
  | any => simp [deepV1] at h
theorem deepV1s_rel (hs : Sat P M H 0 w) (hsub : Sub Hi H) {ids : List Nat} : ∀ {args : List A} {vs : List V} {us : List Value}, mapO (fun a => deepV1 Hi (lk a)) args = some vs → RelVs M (args.map lk) us → (∀ id ∈ args.flatMap (fun a => reachV Hi (lk a)), id ∈ ids) →
    RelVs (mm (immX M w ids)) vs us
  | [], vs, us, h, _, _ => by simp only [mapO, Option.some.injEq] at h; subst h; exact RelVs.nil _ _
  | a :: args, vs, us, h, r, hid => by
    simp only [mapO] at h
    split at h <;> try (cases h; done)
    rename_i y hy
    split at h <;> try (cases h; done)
    rename_i ys hys
    simp only [Option.some.injEq] at h
    subst h
    cases us with
    | nil => simp [RelVs] at r
    | cons u us =>
      simp only [List.map_cons, RelVs] at r ⊢
      exact ⟨deepV1_rel hs hsub hy r.1 (fun id hi => hid id (by simp [hi])), deepV1s_rel hs hsub hys r.2 (fun id hi => hid id (by simp only [List.flatMap_cons, List.mem_append]; exact .inr hi))⟩
theorem reachC_cells : ∀ (k : Nat) (c : C) (id : Nat), id ∈ reachC Hi k c → ∃ cs g fz, ob? Hi id = some (.cells cs g fz)
  | k, .d x, id, h => by cases k <;> simp [reachC] at h
  | 0, .ptr _ _ _, _, h => by simp [reachC] at h
  | 0, .os _ _ _ _ _ _, _, h => by simp [reachC] at h
  | 0, .fn _ _ _, _, h => by simp [reachC] at h
  | k, .yld _, _, h => by cases k <;> simp [reachC] at h
  | k, .bt _ _, _, h => by cases k <;> simp [reachC] at h
  | k + 1, .ptr j g off, id, h => by
    simp only [reachC] at h
    split at h
    · rename_i cs g' fz ho
      rcases List.mem_cons.1 h with rfl | h
      · exact ⟨_, _, _, ho⟩
      · obtain ⟨c, _, hc⟩ := List.mem_flatMap.1 h; exact reachC_cells k c id hc
    · cases h
  | k + 1, .os j g off len sz cap, id, h => by
    simp only [reachC] at h
    split at h
    · rename_i cs g' fz ho
      rcases List.mem_cons.1 h with rfl | h
      · exact ⟨_, _, _, ho⟩
      · obtain ⟨c, _, hc⟩ := List.mem_flatMap.1 h; exact reachC_cells k c id hc
    · cases h
  | k + 1, .fn f a b, id, h => by
    simp only [reachC, List.mem_append, List.mem_flatMap] at h
    rcases h with ⟨c, _, hc⟩ | ⟨c, _, hc⟩ <;> exact reachC_cells k c id hc
theorem reachV_cells {x : V} {id : Nat} (h : id ∈ reachV Hi x) : ∃ cs g fz, ob? Hi id = some (.cells cs g fz) := by
  cases x with
  | c x => exact reachC_cells _ _ _ h
  | agg cs => simp only [reachV, List.mem_flatMap] at h; obtain ⟨c, _, hc⟩ := h; exact reachC_cells _ _ _ hc
  | tup vs => simp [reachV] at h
  | any => simp [reachV] at h
theorem fz1_wide (H : Heap) (id : Nat) : Wide H (fz1 H id) := by
  unfold fz1
  split
  · rename_i cs g fz ho
    refine ⟨by rw [setOb_length]; exact Nat.le_refl _, fun j o hj => ?_⟩
    by_cases e : j = id
    · subst e
      rw [ho] at hj
      cases hj
      exact ⟨_, ob?_setOb_same ho, by simp [Frz]⟩
    · exact ⟨o, by rw [ob?_setOb_ne e]; exact hj, Frz.refl o⟩
  · exact Wide.refl H
theorem freeze_wide : ∀ (ids : List Nat) (H : Heap), Wide H (freeze H ids)
  | [], H => Wide.refl H
  | id :: ids, H => by
    show Wide H (freeze (fz1 H id) ids)
    exact (fz1_wide H id).trans (freeze_wide ids _)
theorem fz1_length (H : Heap) (id : Nat) : (fz1 H id).length = H.length := by
  unfold fz1
  split
  · exact setOb_length _ _ _
  · rfl
theorem freeze_length : ∀ (ids : List Nat) (H : Heap), (freeze H ids).length = H.length
  | [], _ => rfl
  | id :: ids, H => by
    show (freeze (fz1 H id) ids).length = _
    rw [freeze_length ids, fz1_length]
theorem freeze_marks : ∀ (ids : List Nat) (H : Heap) (id : Nat) (cs : List C) (g : Nat) (fz : Bool), id ∈ ids → ob? (freeze H ids) id = some (.cells cs g fz) → fz = true
  | [], _, _, _, _, _, h, _ => by cases h
  | j :: ids, H, id, cs, g, fz, h, ho => by
    have hw := freeze_wide ids (fz1 H j)
    by_cases hin : id ∈ ids
    · exact freeze_marks ids (fz1 H j) id cs g fz hin ho
    · have hj : id = j := (List.mem_cons.1 h).resolve_right hin
      subst hj
      change ob? (freeze (fz1 H id) ids) id = _ at ho
      cases hob : ob? (fz1 H id) id with
      | none =>
        rw [ob?_eq, List.getElem?_eq_none_iff, fz1_length] at hob
        have := ob?_lt ho
        rw [freeze_length, fz1_length] at this
        omega
      | some q =>
        obtain ⟨o', h1, h2⟩ := hw.ob id q hob
        rw [ho] at h1
        cases h1
        unfold fz1 at hob
        split at hob
        · rename_i cs' g' fz' ho'
          rw [ob?_setOb_same ho'] at hob
          cases hob
          simp only [Frz] at h2
          exact h2.2.2 trivial
        · rename_i hno
          cases q <;> simp [Frz] at h2
          exact absurd hob (hno _ _ _)
def GlobOk (G : Nat → Option (List D)) (I : Imm) : Prop := ∀ b cs, G b = some cs → RelD I (.ip cs) (.pointer (some ⟨b, 0, none⟩)) ∧ ∃ arr T fr, I b = some (.cells arr T fr) ∧ arr.size = cs.length
theorem GlobOk.mono {G : Nat → Option (List D)} {I J : Imm} (h : GlobOk G I) (hi : ∀ B o, I B = some o → J B = some o) : GlobOk G J := fun b cs hb => by
  obtain ⟨h1, arr, T, fr, h2, h3⟩ := h b cs hb
  exact ⟨RelD.mono hi h1, arr, T, fr, hi _ _ h2, h3⟩
theorem GlobOk.at {G : Nat → Option (List D)} {I : Imm} (h : GlobOk G I) {b : Nat} {cs : List D} (hb : G b = some cs) : ∃ arr T fr, I b = some (.cells arr T fr) ∧ arr.size = cs.length ∧ RelDs I cs arr.toList := by
  obtain ⟨h1, arr, T, fr, h2, h3⟩ := h b cs hb
  refine ⟨arr, T, fr, h2, h3, ?_⟩
  simp only [RelD] at h1
  obtain ⟨B, o, arr', T', fr', e1, e2, e3⟩ := h1
  simp only [Value.pointer.injEq, Option.some.injEq, Addr.mk.injEq] at e1
  obtain ⟨rfl, rfl, _⟩ := e1
  rw [h2] at e2
  cases e2
  simpa using e3
def ValCall (P : Program) (G : Nat → Option (List D)) (f : FuncId) (vs : List V) (r : V) : Prop :=
  ∀ (I : Imm) (w : World) (us : List Value), GlobOk G I → (∀ B o, I B = some o → w.heap[B]? = some o) → RelVs (mm I) vs us → vs.length = us.length →
    Calls P f us.toArray w fun e w' => ∃ v' I', e = .returned v' ∧ RelV (mm I') r v' ∧ (∀ B o, I B = some o → I' B = some o) ∧ (∀ B o, I' B = some o → w'.heap[B]? = some o) ∧ (∀ B o, I' B = some o → I B = some o ∨ w.heap.size ≤ B) ∧
      w'.os = w.os ∧ w'.tape = w.tape ∧ w'.output = w.output ∧ w.heap.size ≤ w'.heap.size ∧ ∀ B : Nat, B < w.heap.size → w'.heap[B]? = w.heap[B]?
theorem mm_ext {I _J : Imm} {M : MM} (h : ∀ B o, I B = some o → M.imm B = some o) : Ext (mm I) M := ⟨h, Nat.zero_le _, fun _ h => absurd h (Nat.not_lt_zero _), fun _ _ h => absurd h (Nat.not_lt_zero _), fun _ _ h => by cases h⟩
theorem D.flat_rel {I J : Imm} {d : D} {v : Value} (h : d.flat = true) (r : RelD I d v) : RelD J d v := by
  cases d <;> simp only [RelD] at r ⊢ <;> first | exact r | skip
  · simp [D.flat] at h
  · rename_i cs n
    simp only [D.flat, List.isEmpty_iff] at h
    subst h
    obtain ⟨a, c, h1, h2, _⟩ := r
    exact ⟨a, c, h1, h2, .inl rfl⟩
  · rename_i f a b
    simp only [D.flat, Bool.and_eq_true, List.isEmpty_iff] at h
    obtain ⟨rfl, rfl⟩ := h
    obtain ⟨x, y, h1, _, h2, _, h3⟩ := r
    exact ⟨x, y, h1, RelDs.nil _ _, h2, RelDs.nil _ _, h3⟩
theorem C.flat_rel {M M' : MM} {c : C} {v : Value} (h : c.flat = true) (r : RelC M c v) : RelC M' c v := by
  cases c with
  | d x => simp only [RelC] at r ⊢; exact D.flat_rel (by simpa [C.flat] using h) r
  | _ => simp [C.flat] at h
theorem V.flat1_rel {M M' : MM} {x : V} {v : Value} (h : x.flat1 = true) (r : RelV M x v) : RelV M' x v := by
  cases x with
  | c x => rw [relV_c] at r ⊢; exact C.flat_rel (by simpa [V.flat1] using h) r
  | agg cs =>
    rw [relV_agg] at r ⊢
    obtain ⟨arr, h1, h2, h3⟩ := r
    refine ⟨arr, h1, h2, ?_⟩
    rw [RelCs.iff] at h3 ⊢
    intro j d hd
    obtain ⟨u, hu, hr⟩ := h3 j d hd
    simp only [V.flat1, List.all_eq_true] at h
    exact ⟨u, hu, C.flat_rel (h d (List.mem_of_getElem? hd)) hr⟩
  | tup vs => simp [V.flat1] at h
  | any => simp [V.flat1] at h
theorem V.flat_rel {M M' : MM} {x : V} {v : Value} (h : x.flat = true) (r : RelV M x v) : RelV M' x v := by
  cases x with
  | tup vs =>
    rw [relV_tup] at r ⊢
    obtain ⟨arr, h1, h2, h3⟩ := r
    refine ⟨arr, h1, h2, ?_⟩
    rw [RelVs.iff] at h3 ⊢
    intro j d hd
    obtain ⟨u, hu, hr⟩ := h3 j d hd
    simp only [V.flat, List.all_eq_true] at h
    exact ⟨u, hu, V.flat1_rel (h d (List.mem_of_getElem? hd)) hr⟩
  | c x => exact V.flat1_rel h r
  | agg cs => exact V.flat1_rel h r
  | any => exact V.flat1_rel h r
theorem vcall_step {G : Nat → Option (List D)} (hG : GlobOk G M.imm) {f : List V → Option V} {fid : FuncId} {args : List A} {us : List Value} {r : V} {H1 : Heap} (hs : Sat P M H 0 w) (hsub : Sub Hi H) (h : byValue f lk Hi args = some (r, H1)) (hf : ∀ vs r, f vs = some r → ValCall P G fid vs r)
    (hargs : RelVs M (args.map lk) us) (hlen : args.length = us.length) (hw : Wide H1 H) :
    Calls P fid us.toArray w fun e w' => ∃ v' M', e = .returned v' ∧ RelV M' r v' ∧ Sat P M' H 0 w' ∧ Fr M M' w w' ∧ M'.loc = M.loc := by
  unfold byValue at h
  split at h <;> try (cases h; done)
  rename_i vs hvs
  split at h <;> try (cases h; done)
  rename_i r' hr
  simp only [Option.some.injEq, Prod.mk.injEq] at h
  obtain ⟨rfl, hH1⟩ := h
  let ids := args.flatMap fun a => reachV Hi (lk a)
  have hrel := deepV1s_rel (ids := ids) hs hsub hvs hargs (fun _ h => h)
  have hvl : vs.length = us.length := by rw [← (mapO_get hvs).1]; exact hlen
  refine (hf vs r' hr (immX M w ids) w us (hG.mono immX_le) (fun B o hB => immX_heap hs hB) hrel hvl).mono fun e w' hh => ?_
  obtain ⟨v', I', rfl, h1, h2, h3, h4, h5, h6, h7, h8, h9⟩ := hh
  by_cases hflat : r'.flat = true
  · refine ⟨v', M, rfl, V.flat_rel hflat h1, hs.grown h9, ⟨Ext.refl M, h5, h6, h7, h8, fun B hB _ => h9 B hB, fun B h => .inl h, fun B o h => .inl h⟩, rfl⟩
  · rw [if_neg hflat] at hH1
    have hext : Ext M { M with imm := I' } := ⟨fun B o hB => h2 B o (immX_le B o hB), Nat.le_refl _, fun _ _ => Nat.le_refl _, fun _ _ _ _ h => h, fun _ _ h => h⟩
    have hmarks : ∀ id ∈ ids, ∃ cs g, ob? H id = some (.cells cs g true) := by
      intro id hid
      obtain ⟨a, _, ha⟩ := List.mem_flatMap.1 hid
      obtain ⟨cs, g, fz, ho⟩ := reachV_cells ha
      obtain ⟨o1, k1, k2⟩ := (freeze_wide ids Hi).ob id _ ho
      cases o1 <;> simp only [Frz] at k2 <;> try (cases k2; done)
      rename_i cs1 g1 fz1
      have := freeze_marks ids Hi id _ _ _ hid k1
      subst this
      have hH1' : freeze Hi ids = H1 := hH1
      rw [hH1'] at k1
      obtain ⟨o2, k3, k4⟩ := hw.ob id _ k1
      cases o2 <;> simp only [Frz] at k4 <;> try (cases k4; done)
      rename_i cs2 g2 fz2
      have := k4.2.2 trivial
      subst this
      exact ⟨_, _, k3⟩
    have held : ∀ id B b c o, M.loc id = some (some (B, b, c)) → I' B = some o → M.imm B = some o ∨ (M.imm B = none ∧ id ∈ ids ∧ w.heap[B]? = some o) := by
      intro id B b c o hl hB
      have hlt := hs.block_lt ⟨id, b, c, hl⟩
      rcases h4 B o hB with hi | hi
      · unfold immX at hi
        split at hi
        · rename_i o' ho'
          cases hi
          exact .inl ho'
        · rename_i hn
          split at hi
          · rename_i hex
            obtain ⟨id', hid', b', c', hl'⟩ := hex
            have := hs.inj id' id B b' c' b c hl' hl
            subst this
            exact .inr ⟨hn, hid', hi⟩
          · cases hi
      · omega
    refine ⟨v', { M with imm := I' }, rfl, RelV.mono (mm_ext (_J := I') (fun _ _ h => h)) h1, ⟨hs.n, hs.out, h3, ?_, hs.idle, hs.inj, fun B t hb => by
      obtain ⟨a, f, hh⟩ := hs.ty B t hb
      exact ⟨a, f, by rw [h9 B (Array.getElem?_eq_some_iff.1 hh).1]; exact hh⟩, hs.bty⟩, ⟨hext, h5, h6, h7, h8, fun B hB _ => h9 B hB, fun B h => .inl h, ?_⟩, rfl⟩
    · intro id l hl
      obtain ⟨o, ho, hos⟩ := hs.obj id l hl
      refine ⟨o, ho, ?_⟩
      by_cases hb : ∀ B b c, l = some (B, b, c) → M.imm B = none → I' B = none
      · refine hos.keep hext rfl (fun B b c e => ?_) (fun B hB => by rw [h9 B (Array.getElem?_eq_some_iff.1 hB).1]; exact hB)
        subst e
        exact ⟨h9 B (hs.block_lt ⟨id, b, c, hl⟩), hb B b c rfl⟩
      · simp only [Classical.not_forall] at hb
        obtain ⟨B, b, c, rfl, hi, hne⟩ := hb
        cases hI : I' B with
        | none => exact absurd hI hne
        | some q =>
          rcases held id B b c q hl hI with hq | ⟨_, hid, hq⟩
          · rw [hi] at hq; cases hq
          · obtain ⟨cs, g, hob⟩ := hmarks id hid
            rw [ho] at hob
            cases hob
            simp only [ObSat] at hos ⊢
            obtain ⟨hg, arr, T, fr, e1, e2, e3, e4, _⟩ := hos
            rw [hq] at e1
            cases e1
            refine ⟨hg, arr, T, fr, by rw [h9 B (hs.block_lt ⟨id, b, c, hl⟩)]; exact hq, e2, e3, RelCs.mono hext e4, .inr ⟨rfl, hI⟩⟩
    · intro B o hB
      rcases h4 B o hB with hi | hi
      · unfold immX at hi
        split at hi
        · rename_i o' ho'
          cases hi
          exact .inl ho'
        · split at hi
          · rename_i hex
            obtain ⟨id', _, b', c', hl'⟩ := hex
            exact .inr (.inl ⟨id', b', c', hl'⟩)
          · cases hi
      · exact .inr (.inr hi)
end
end Mini
end Go.Proofs.YtgjlofpfbhioaaaGreatDoor
namespace Go.Proofs.YtgjlofpfbhioaaaGreatDoor
namespace Mini
open Go
section
variable {P : Program} {M : MM} {w w' : World} {k : K} {o : Oper} {lk : A → V} {ρ : Operand → Value} {Hi H H' : Heap}
def O.apartOnes : O → Bool
  | .vc .. | .pc .. | .pre | .ini .. => true
  | _ => false
theorem a_all {p : O} {v : V} {n : List Ob} {X : Nat → Prop} (hs : Sat P M H 0 w) (hsub : noHeap p = false → (∀ g m a, p ≠ .ld g m a) → Sub Hi H)
    (hld : ∀ g m a, p = .ld g m a → ∀ id gen off, lk a = .c (.ptr id gen off) → ∀ o, ob? Hi id = some o → ∃ o', ob? H id = some o' ∧ Same o o')
    (hA : ∀ x a, okA k x a = true → RelV M (lk a) (ρ x)) (hc : ∀ x, ρ (.const x) = x) (hok : okOp P k o p = true) (hpe : p.eff = false) (hpa : p.apartOnes = false)
    (h : stepP lk Hi p = some (v, n)) (hn : ∀ cs g fz, n = [.cells cs g fz] → New M H Hi cs) : Did P M H w (execOp ρ o) v (fun id => n ≠ [] ∧ id = Hi.length) X := by
  cases p with
  | mov a => exact Quiet.did hs (q_mov hA hok h)
  | pick c a b => exact Quiet.did hs (q_pick hA hok h)
  | bin op a b => exact Quiet.did hs (q_bin hA hok h)
  | beq neg a b => exact Quiet.did hs (q_beq hA hok h)
  | isn neg a => exact Quiet.did hs (q_isn hA hc hok h)
  | eqa neg m a b => exact Quiet.did hs (q_eqa hA hok h)
  | un op a => exact Quiet.did hs (q_un hA hok h)
  | cvi kd a => exact Quiet.did hs (q_cvi hA hok h)
  | cvs a => exact Quiet.did hs (q_cvs hA hok h)
  | s2b a => exact (a_s2b hs hA hok h hn).imp (fun id hid => ⟨by intro e; subst e; simp only [stepP] at h; (repeat' split at h) <;> simp at h, hid⟩)
  | b2s a => exact Quiet.did hs (q_b2s hs (hsub rfl (fun _ _ _ e => by cases e)) hA hok h)
  | new z => exact (a_new hs hok h hn).imp (fun id hid => ⟨by intro e; subst e; simp only [stepP] at h; (repeat' split at h) <;> simp at h, hid⟩)
  | newb t => exact (a_newb hs hok h hn).imp (fun id hid => ⟨by intro e; subst e; simp only [stepP] at h; (repeat' split at h) <;> simp at h, hid⟩)
  | box a => exact (a_box hs hA hok h hn).imp (fun id hid => ⟨by intro e; subst e; simp only [stepP] at h; (repeat' split at h) <;> simp at h, hid⟩)
  | pre => cases hpa
  | ini m a => cases hpa
  | apn sz b => exact a_apn hs (hsub rfl (fun _ _ _ e => by cases e)) hA hc hok h hn
  | bld z ps => exact Quiet.did hs (q_bld hA hok h)
  | bsl len sz z ps => exact (a_bsl hs hA hok h hn).imp (fun id hid => ⟨by intro e; subst e; simp only [stepP] at h; (repeat' split at h) <;> simp at h, hid⟩)
  | ld g m a => exact Quiet.did hs (q_ld hs (hld g m a rfl) hA hok h)
  | fa off a => exact Quiet.did hs (q_fa hA hok h)
  | fld g off m a => exact Quiet.did hs (q_fld hA hok h)
  | ixp len sz a i => exact Quiet.did hs (q_ixp hA hok h)
  | ixa sz a i => exact Quiet.did hs (q_ixa hA hok h)
  | ixs a i => exact Quiet.did hs (q_ixs hA hok h)
  | ixg g len sz a i => exact Quiet.did hs (q_ixg hA hok h)
  | sls a lo hi => exact Quiet.did hs (q_sls hA hok h)
  | slc sz a lo hi mx => exact Quiet.did hs (q_slc hA hok h)
  | slp len sz a lo hi mx => exact Quiet.did hs (q_slp hs (hsub rfl (fun _ _ _ e => by cases e)) hA hok h)
  | mks sz b z l c => exact (a_mks hs hA hok h hn).imp (fun id hid => ⟨by intro e; subst e; simp only [stepP] at h; (repeat' split at h) <;> simp at h, hid⟩)
  | ext a i => exact Quiet.did hs (q_ext hA hok h)
  | len a => exact Quiet.did hs (q_len hA hok h)
  | lns a => exact Quiet.did hs (q_lns hA hok h)
  | cap a => exact Quiet.did hs (q_cap hA hok h)
  | mm mx a b => exact Quiet.did hs (q_mm hA hok h)
  | mkf f first caps => exact Quiet.did hs (q_mkf hA hok h)
  | mki a => exact Quiet.did hs (q_mki hA hok h)
  | nlc a =>
    refine Quiet.did hs (q_nlc hA hok h ?_)
    intro id g off x hx r
    rw [hx, relV_c] at r
    simp only [RelC] at r
    obtain ⟨_, _, ⟨B, y, rfl⟩, _⟩ := r
    exact ⟨_, rfl⟩
  | vc f args => cases hpa
  | pc f args => cases hpa
  | st m a b => cases hpe
  | app sz a b => cases hpe
  | apb a b => cases hpe
  | cpy sz a b => cases hpe
  | hc f args => cases hpe
  | bc f a args => cases hpe
  | pan => cases hpe
theorem stepP_news {p : O} {v : V} {n : List Ob} (h : stepP lk Hi p = some (v, n)) : n = [] ∨ ((∃ cs, n = [.cells cs 0 false]) ∧ noHeap p = false ∧ ∀ g m a, p ≠ .ld g m a) := by
  have none' : ∀ {α : Type} {x : Option α} {f : α → V}, (x.map fun z => (f z, ([] : List Ob))) = some (v, n) → n = [] := by
    intro α x f hx
    simp only [Option.map_eq_some_iff, Prod.mk.injEq] at hx
    obtain ⟨_, _, _, rfl⟩ := hx
    rfl
  cases p with
  | newb t =>
    simp only [stepP, Option.some.injEq, Prod.mk.injEq] at h
    obtain ⟨_, rfl⟩ := h
    exact .inr ⟨⟨_, rfl⟩, rfl, fun _ _ _ e => by cases e⟩
  | bsl len sz z ps =>
    simp only [stepP, Option.map_eq_some_iff, Prod.mk.injEq] at h
    obtain ⟨cs, _, _, rfl⟩ := h
    exact .inr ⟨⟨_, rfl⟩, rfl, fun _ _ _ e => by cases e⟩
  | _ =>
    simp only [stepP] at h
    repeat' split at h
    all_goals first
      | (cases h; done)
      | exact .inl (none' h)
      | (simp only [Option.some.injEq, Prod.mk.injEq] at h
         obtain ⟨_, rfl⟩ := h
         first | exact .inl rfl | exact .inr ⟨⟨_, rfl⟩, rfl, fun _ _ _ e => by cases e⟩)
end
end Mini
end Go.Proofs.YtgjlofpfbhioaaaGreatDoor
namespace Go.Proofs.YtgjlofpfbhioaaaGreatDoor
namespace Mini
open Go
def tsOf (val : Nat → V) : Nat → List V
  | 0 => []
  | i + 1 => val i :: tsOf val i
theorem nth_tsOf (val : Nat → V) : ∀ (i k : Nat), nth (tsOf val i) k = if k < i then val (i - 1 - k) else .any
  | 0, k => by simp [tsOf, nth]
  | i + 1, 0 => by simp [tsOf, nth]
  | i + 1, k + 1 => by
    simp only [tsOf, nth, nth_tsOf val i k]
    by_cases h : k < i
    · rw [if_pos h, if_pos (by omega)]; congr 1; omega
    · rw [if_neg h, if_neg (by omega)]
theorem tsOf_congr {val val' : Nat → V} : ∀ (i : Nat), (∀ j, j < i → val j = val' j) → tsOf val i = tsOf val' i
  | 0, _ => rfl
  | i + 1, h => by simp only [tsOf]; rw [h i (by omega), tsOf_congr i (fun j hj => h j (by omega))]
def Ran1 (E : Env) (regs : List V) (val : Nat → V) (hp : Nat → Heap) (i : Nat) (p : Gp) : Prop :=
  (wants (tsOf val i) p.guard = some false ∧ val i = .tup [] ∧ hp (i + 1) = hp i) ∨
  (wants (tsOf val i) p.guard = some true ∧ step E (look E regs (tsOf val i)) (hp i) p.op = some (val i, hp (i + 1)))
theorem runOps_ran {E : Env} {regs : List V} : ∀ (ps : List Gp) (i0 : Nat) (val0 : Nat → V) (H : Heap) (ts' : List V) (H' : Heap), runOps E regs ps (tsOf val0 i0) H = some (ts', H') →
    ∃ (val : Nat → V) (hp : Nat → Heap), (∀ j, j < i0 → val j = val0 j) ∧ hp i0 = H ∧ (∀ i p, ps[i]? = some p → Ran1 E regs val hp (i0 + i) p) ∧ ts' = tsOf val (i0 + ps.length) ∧ H' = hp (i0 + ps.length)
  | [], i0, val0, H, ts', H', h => by
    simp only [runOps, Option.some.injEq, Prod.mk.injEq] at h
    exact ⟨val0, fun _ => H, fun _ _ => rfl, rfl, by simp, h.1.symm, h.2.symm⟩
  | p :: ps, i0, val0, H, ts', H', h => by
    have key : ∀ (v : V) (H1 : Heap), runOps E regs ps (v :: tsOf val0 i0) H1 = some (ts', H') →
        ((wants (tsOf val0 i0) p.guard = some false ∧ v = .tup [] ∧ H1 = H) ∨ (wants (tsOf val0 i0) p.guard = some true ∧ step E (look E regs (tsOf val0 i0)) H p.op = some (v, H1))) →
        ∃ (val : Nat → V) (hp : Nat → Heap), (∀ j, j < i0 → val j = val0 j) ∧ hp i0 = H ∧ (∀ i p', (p :: ps)[i]? = some p' → Ran1 E regs val hp (i0 + i) p') ∧ ts' = tsOf val (i0 + (p :: ps).length) ∧ H' = hp (i0 + (p :: ps).length) := by
      intro v H1 hrun hstep
      have e : v :: tsOf val0 i0 = tsOf (fun j => if j = i0 then v else val0 j) (i0 + 1) := by
        simp only [tsOf, if_true]
        rw [tsOf_congr i0 (val := val0) (val' := fun j => if j = i0 then v else val0 j) (fun j hj => (if_neg (by omega)).symm)]
      rw [e] at hrun
      obtain ⟨val, hp, h1, h2, h3, h4, h5⟩ := runOps_ran ps (i0 + 1) _ H1 ts' H' hrun
      have hv : val i0 = v := by rw [h1 i0 (by omega), if_pos rfl]
      have hts : tsOf val i0 = tsOf val0 i0 := tsOf_congr i0 (fun j hj => by rw [h1 j (by omega), if_neg (by omega)])
      refine ⟨val, fun j => if j = i0 then H else hp j, fun j hj => by rw [h1 j (by omega), if_neg (by omega)], by simp, ?_, ?_, ?_⟩
      · intro i p' hp'
        cases i with
        | zero =>
          simp only [List.getElem?_cons_zero, Option.some.injEq] at hp'
          subst hp'
          simp only [Ran1, Nat.add_zero, hts, hv, if_true]
          rw [if_neg (by omega), h2]
          exact hstep
        | succ i =>
          simp only [List.getElem?_cons_succ] at hp'
          have := h3 i p' hp'
          simp only [Ran1] at this ⊢
          rw [if_neg (by omega), if_neg (by omega), show i0 + (i + 1) = i0 + 1 + i by omega]
          exact this
      · rw [h4]; congr 1; simp only [List.length_cons]; omega
      · simp only [List.length_cons]; rw [if_neg (by omega), h5]; congr 1; omega
    simp only [runOps] at h
    split at h <;> try (cases h; done)
    · rename_i hw
      exact key _ _ h (.inl ⟨hw, rfl, rfl⟩)
    · rename_i hw
      split at h <;> try (cases h; done)
      rename_i v H1 hs
      exact key _ _ h (.inr ⟨hw, hs⟩)
theorem okAll_get {P : Program} {tm : List Nat} {nt : Nat} {draw : Bool} {cl : List Nat} {ops : List Oper} {ps : List Gp} {loc raw : List (Option Nat)} {aps : List (A × A)} : ∀ (os : List Oper) (qs : List Gp) (i0 : Nat), okAll P tm nt draw cl ops ps loc raw aps i0 os qs = true →
    os.length = qs.length ∧ ∀ (i : Nat) (o : Oper) (p : Gp), os[i]? = some o → qs[i]? = some p → okOne P tm nt draw cl ops ps loc raw aps (i0 + i) o p = true
  | [], [], _, _ => ⟨rfl, by intro i o p h; simp at h⟩
  | [], _ :: _, _, h => by simp [okAll] at h
  | _ :: _, [], _, h => by simp [okAll] at h
  | o :: os, p :: qs, i0, h => by
    simp only [okAll, Bool.and_eq_true] at h
    obtain ⟨h1, h2⟩ := okAll_get os qs (i0 + 1) h.2
    refine ⟨by simp [h1], fun i o' p' ho hp => ?_⟩
    cases i with
    | zero => simp only [List.getElem?_cons_zero, Option.some.injEq] at ho hp; subst ho; subst hp; exact h.1
    | succ i => simp only [List.getElem?_cons_succ] at ho hp; rw [show i0 + (i + 1) = i0 + 1 + i by omega]; exact h2 i o' p' ho hp
structure Cx where
  P : Program
  tm : List Nat
  nt : Nat
  draw : Bool
  ops : List Oper
  ps : List Gp
  aps : List (A × A)
namespace Cx
variable (X : Cx)
def n : Nat := X.ops.length
def cl : List Nat := clos X.ops []
def loc : List (Option Nat) := (List.range X.n).map (locOf X.ops X.ps)
def raw : List (Option Nat) := X.ops.map (·.dst)
def ah (i j : Nat) : Bool := ahead X.draw X.cl i j
def k (i : Nat) : K := ⟨i, X.tm, X.loc, X.raw, fun j => X.ah j i⟩
end Cx
structure One (X : Cx) (i : Nat) (o : Oper) (p : Gp) : Prop where
  body : (∀ m a, p.op ≠ .ini m a) → okOp X.P (X.k i) o p.op = true
  ini : ∀ m a, p.op = .ini m a → ∃ j t x y o' t', partner X.ops X.ps i = some j ∧ 0 < m ∧ o.op = .store t x y ∧ size? X.P t = some m ∧ okA (X.k i) y a = true ∧ o.guard = none ∧ X.ah j i = true ∧
    (∀ i', i' < X.n → partner X.ops X.ps i' = some j → i' = i) ∧ X.ops[j]? = some o' ∧ o'.op = .alloc t' ∧ size? X.P t' = some m ∧ (∀ vs, zero? X.P t' = some vs → vs.length = m) ∧ o'.guard = none
  guard0 : p.guard = none → o.guard = none
  guard1 : ∀ g b, p.guard = some (g, b) → o.guard = some (i - 1 - g, b) ∧ g < i ∧ X.ah (i - 1 - g) i = true ∧ ∃ o' t, X.ops[i - 1 - g]? = some o' ∧ o'.dst = some t ∧ X.loc[i - 1 - g]? = some (some t)
  dst : ∀ t, o.dst = some t → t < X.nt ∧ ∀ j, j < i → X.raw[j]? ≠ some (some t)
  reads : ∀ t, .tmp t ∈ o.op.operands → ∀ j, j < X.n → j = i ∨ X.raw[j]? ≠ some (some t) ∨ X.ah j i = true ∨ X.ah i j = true
  after : ∀ e ∈ o.after, Region.binds .any e = true → e.on < i
  sel : ∀ cs b, o.op ≠ .select cs b
  dfr : ∀ c, o.op ≠ .defer c
  eff : p.op.eff = true → ∀ j q, X.ps[j]? = some q → j < X.n → j = i ∨ noHeap q.op = true ∨ X.ah i j = true ∨ X.ah j i = true ∨ inAps X.n j i q.op p.op X.aps = true
theorem mem_regsOf : ∀ {xs : List Operand} {t : Nat}, .tmp t ∈ xs → t ∈ regsOf xs
  | x :: xs, t, h => by
    rcases List.mem_cons.1 h with h | h
    · subst h; simp [regsOf]
    · have := mem_regsOf h
      cases x <;> simp [regsOf, this]
theorem one_of {X : Cx} {i : Nat} {o : Oper} {p : Gp} (h : okOne X.P X.tm X.nt X.draw X.cl X.ops X.ps X.loc X.raw X.aps i o p = true) : One X i o p := by
  unfold okOne at h
  simp only [Bool.and_eq_true] at h
  obtain ⟨⟨⟨⟨⟨⟨⟨h1, h2⟩, h3⟩, h4⟩, h5⟩, h6⟩, h7⟩, h8⟩ := h
  refine ⟨?_, ?_, ?_, ?_, ?_, ?_, ?_, fun cs b e => (by rw [e] at h7; cases h7), fun c e => (by rw [e] at h7; cases h7), ?_⟩
  · intro hne
    split at h1
    · rename_i m a he; exact absurd he (hne m a)
    · exact h1
  · intro m a he
    rw [he] at h1
    simp only at h1
    split at h1 <;> try (cases h1; done)
    rename_i j hj
    simp only [Bool.and_eq_true, decide_eq_true_eq] at h1
    obtain ⟨⟨⟨⟨⟨a1, a2⟩, a3⟩, a4⟩, a5⟩, a6⟩ := h1
    split at a2 <;> try (cases a2; done)
    rename_i t x y hop
    simp only [Bool.and_eq_true, beq_iff_eq] at a2
    split at a6 <;> try (cases a6; done)
    rename_i o' ho'
    simp only [Bool.and_eq_true] at a6
    obtain ⟨a6, a7⟩ := a6
    split at a6 <;> try (cases a6; done)
    rename_i t1 t2 x2 y2 hop1 hop2
    rw [hop] at hop2
    cases hop2
    simp only [Bool.and_eq_true, beq_iff_eq] at a6
    obtain ⟨a8, a9⟩ := a6
    refine ⟨j, t, x, y, o', t1, hj, a1, hop, a2.1, a2.2, by simpa using a3, a4, ?_, ho', hop1, by rw [a8]; exact a2.1, ?_, by simpa using a7⟩
    · intro i' hi' hp'
      simp only [List.all_eq_true, List.mem_range] at a5
      have := a5 i' hi'
      simp only [Bool.or_eq_true, beq_iff_eq, bne_iff_ne, ne_eq] at this
      rcases this with h | h
      · exact h
      · exact absurd hp' h
    · intro vs hvs
      rw [hvs] at a9
      simp only [beq_iff_eq] at a9
      rw [a8, a2.1] at a9
      exact Option.some.inj a9
  · intro hg
    rw [hg] at h2
    unfold okGuard at h2
    split at h2 <;> first | rfl | (cases h2; done) | skip
    · assumption
    · rename_i hh; cases hh
  · intro g b hg
    rw [hg] at h2 h3
    simp only [Bool.and_eq_true] at h3
    obtain ⟨h3, h9⟩ := h3
    unfold okGuard at h2
    split at h2 <;> try (cases h2; done)
    · rename_i hh; cases hh
    · rename_i g' b' k' b'' hog hpg
      cases hpg
      simp only [Bool.and_eq_true, decide_eq_true_eq, beq_iff_eq] at h2
      obtain ⟨⟨k1, k2⟩, k3⟩ := h2
      subst k2 k3
      split at h9 <;> try (cases h9; done)
      rename_i o' ho'
      split at h9 <;> try (cases h9; done)
      rename_i l hl
      simp only [Bool.and_eq_true, beq_iff_eq] at h9
      obtain ⟨t, rfl⟩ := Option.isSome_iff_exists.1 h9.1
      exact ⟨hog, k1, h3, o', t, ho', h9.2, hl⟩
  · intro t ht
    rw [ht] at h4
    simp only [Bool.and_eq_true, decide_eq_true_eq, List.all_eq_true, bne_iff_ne, ne_eq] at h4
    refine ⟨h4.1, fun j hj hr => ?_⟩
    refine h4.2 (some t) ?_ rfl
    rw [List.mem_iff_getElem?]
    exact ⟨j, by rw [List.getElem?_take, if_pos hj]; exact hr⟩
  · intro t ht j hj
    simp only [List.all_eq_true, List.mem_range] at h5
    have := h5 t (mem_regsOf (by simpa using ht)) j hj
    simp only [Bool.or_eq_true, beq_iff_eq, Bool.not_eq_true', beq_eq_false_iff_ne, ne_eq] at this
    rcases this with ((h | h) | h) | h
    · exact .inl h
    · refine .inr (.inl fun he => h ?_)
      rw [List.getD_eq_getElem?_getD, he]
      rfl
    · exact .inr (.inr (.inl h))
    · exact .inr (.inr (.inr h))
  · intro e he hb
    simp only [Array.all_eq_true', Bool.or_eq_true, Bool.not_eq_true', decide_eq_true_eq] at h6
    rcases h6 e he with h | h
    · rw [h] at hb; cases hb
    · exact h
  · intro he j q hq hj
    rw [if_pos he] at h8
    simp only [List.all_eq_true, List.mem_range] at h8
    have := h8 j hj
    rw [hq] at this
    simp only [Bool.or_eq_true, beq_iff_eq] at this
    rcases this with h | ((h | h) | h) | h
    · exact .inl h
    · exact .inr (.inl h)
    · exact .inr (.inr (.inl h))
    · exact .inr (.inr (.inr (.inl h)))
    · exact .inr (.inr (.inr (.inr h)))
theorem ah_lt {X : Cx} {i j : Nat} (h : X.ah i j = true) : i < j := by
  simp only [Cx.ah, ahead, Bool.and_eq_true, decide_eq_true_eq] at h
  exact h.1
end Mini
end Go.Proofs.YtgjlofpfbhioaaaGreatDoor
namespace Go.Proofs.YtgjlofpfbhioaaaGreatDoor
namespace Mini
open Go
def Enters (P : Program) (f : FuncId) : Prop := ∃ fn, P.funcs[f]? = some fn ∧ (fn.name == "runtime.NumGoroutine") = false ∧ fn.body.isNone = false
def HeapCall (P : Program) (G : Nat → Option (List D)) (c : C) (args : List V) (H : Heap) (v : V) (H' : Heap) : Prop :=
  ∀ (M : MM) (w : World) (cv : Value) (us : List Value), GlobOk G M.imm → RelC M c cv → RelVs M args us → args.length = us.length → Sat P M H 0 w →
    (∃ f first caps, cv = .func (.func f) first caps ∧ Enters P f ∧ Calls P f (first ++ us.toArray ++ caps) w fun e w' => ∃ v' M', e = .returned v' ∧ RelV M' v v' ∧ Sat P M' H' 0 w' ∧ Fr M M' w w') ∨
    (∃ l f tmps asg body, cv = .func (.yield l) #[] #[] ∧ (Instr.yield l us.toArray).run P w = .ok (.round l f tmps asg body) w ∧
      RoundIn Fence.wide 0 P l f tmps asg body w fun e w' => ∃ v' M', e = .returned v' ∧ RelV M' v v' ∧ Sat P M' H' 0 w' ∧ Fr M M' w w')
def rnd (r : Option Nat) : Fence := { Fence.wide with round := r }
structure EnvOk (P : Program) (E : Env) : Prop where
  call : ∀ c args H v H', E.call c args H = some (v, H') → HeapCall P E.glob c args H v H'
  vcall : ∀ f vs r, E.vcall f vs = some r → Enters P f ∧ ValCall P E.glob f vs r
  prim : ∀ f vs r, E.prim f vs = some r → Enters P f ∧ ValCall P E.glob f vs r
structure Rg (X : Cx) (E : Env) (regs : List V) (val : Nat → V) (hp : Nat → Heap) : Prop where
  len : X.ps.length = X.n
  one : ∀ i o p, X.ops[i]? = some o → X.ps[i]? = some p → One X i o p
  ran : ∀ i p, X.ps[i]? = some p → Ran1 E regs val hp i p
  apt : ∀ x ∈ X.aps, apart (look E regs (tsOf val X.n) x.1) (look E regs (tsOf val X.n) x.2) = true
structure Inv (X : Cx) (regs : List V) (val : Nat → V) (hp : Nat → Heap) (M0 : MM) (w0 : World) (d0 : List Deferred) (S : Nat → Prop) (c : Nat) (M : MM) (a : Act) (w : World) : Prop where
  size : a.tmps.size = X.nt
  dfs : a.defers = d0
  cle : c ≤ X.n
  cS : ∀ e p, e < c → X.ps[e]? = some p → p.op.eff = true → S e
  cN : ∀ p, X.ps[c]? = some p → p.op.eff = true ∧ ¬ S c
  sat : Sat X.P M (hp c) 0 w
  fr : Fr M0 M w0 w
  vals : ∀ i t, S i → X.loc[i]? = some (some t) → RelV M (val i) (a.tmps.getD t undef)
  rg : ∀ j t, X.tm[j]? = some t → (∀ i, S i → X.raw[i]? ≠ some (some t)) → RelV M (nth regs j) (a.tmps.getD t undef)
  todo : ∀ i, i < c → ¬ S i → (hp i).length < (hp (i + 1)).length → M.loc (hp i).length = none
  pend : ∀ j k, partner X.ops X.ps k = some j → S j → ¬ S k → ∃ t m a' q B, X.raw[j]? = some (some t) ∧ X.ps[k]? = some q ∧ q.op = .ini m a' ∧ Waits M w (a.tmps.getD t undef) m B ∧ w0.heap.size ≤ B
  pinj : ∀ j k j' k' t t', partner X.ops X.ps k = some j → partner X.ops X.ps k' = some j' → S j → S j' → ¬ S k → ¬ S k' → X.raw[j]? = some (some t) → X.raw[j']? = some (some t') → a.tmps.getD t undef = a.tmps.getD t' undef → j = j'
section
variable {X : Cx} {E : Env} {regs : List V} {val : Nat → V} {hp : Nat → Heap} {M0 M M' : MM} {w0 w w' : World} {d0 : List Deferred} {S : Nat → Prop} {c : Nat} {a : Act}
theorem getD_put_ne {a : Act} {d : Option Tmp} {v : Value} {t : Nat} (h : d ≠ some t) : (a.put d v).tmps.getD t undef = a.tmps.getD t undef := by
  cases d with
  | none => rfl
  | some d =>
    have : d ≠ t := fun e => h (by rw [e])
    simp only [Act.put, Array.getD_eq_getD_getElem?]
    rw [Array.getElem?_setIfInBounds_ne this]
theorem getD_put_same {a : Act} {v : Value} {t : Nat} (h : t < a.tmps.size) : (a.put (some t) v).tmps.getD t undef = v := by
  simp [Act.put, Array.getD, h]
theorem raw_at {i : Nat} {o : Oper} (h : X.ops[i]? = some o) : X.raw[i]? = some o.dst := by simp [Cx.raw, h]
theorem raw_lt {i : Nat} {x : Option Nat} (h : X.raw[i]? = some x) : i < X.n := by
  have := (List.getElem?_eq_some_iff.1 h).1
  simpa [Cx.raw, Cx.n] using this
theorem ops_of {i : Nat} (h : i < X.n) : ∃ o, X.ops[i]? = some o := ⟨X.ops[i]'h, List.getElem?_eq_getElem (show i < X.ops.length from h)⟩
theorem ps_of (hX : Rg X E regs val hp) {i : Nat} (h : i < X.n) : ∃ p, X.ps[i]? = some p := ⟨X.ps[i]'(by rw [hX.len]; exact h), List.getElem?_eq_getElem (by rw [hX.len]; exact h)⟩
theorem ps_lt (hX : Rg X E regs val hp) {i : Nat} {p : Gp} (h : X.ps[i]? = some p) : i < X.n := by
  have := (List.getElem?_eq_some_iff.1 h).1
  rw [hX.len] at this; exact this
theorem raw_inj (hX : Rg X E regs val hp) {i j t : Nat} (hi : X.raw[i]? = some (some t)) (hj : X.raw[j]? = some (some t)) : i = j := by
  have key : ∀ i j : Nat, X.raw[i]? = some (some t) → X.raw[j]? = some (some t) → ¬ j < i := by
    intro i j hi hj hlt
    have hin := raw_lt hi
    obtain ⟨o, ho⟩ := ops_of hin
    obtain ⟨p, hp⟩ := ps_of hX hin
    rw [raw_at ho] at hi
    exact ((hX.one i o p ho hp).dst t (Option.some.inj hi)).2 j hlt hj
  have h1 := key i j hi hj
  have h2 := key j i hj hi
  omega
theorem partner_spec {j k : Nat} (h : partner X.ops X.ps k = some j) : ∃ o p t T y m b o' p', X.ops[k]? = some o ∧ X.ps[k]? = some p ∧ o.op = .store T (.tmp t) y ∧ p.op = .ini m b ∧ X.ops[j]? = some o' ∧ X.ps[j]? = some p' ∧ o'.dst = some t ∧ p'.op = .pre ∧ j < k := by
  unfold partner at h
  split at h <;> try (cases h; done)
  rename_i o p ho hp
  split at h <;> try (cases h; done)
  rename_i T t y m b h1 h2
  have hp1 := List.find?_some h
  have hp2 := List.mem_of_find?_eq_some h
  split at hp1 <;> try (cases hp1; done)
  rename_i o' p' ho' hp'
  simp only [Bool.and_eq_true, beq_iff_eq] at hp1
  obtain ⟨q1, q2⟩ := hp1
  split at q2 <;> try (cases q2; done)
  rename_i hpre
  exact ⟨o, p, t, T, y, m, b, o', p', ho, hp, h1, h2, ho', hp', q1, hpre, by simpa using hp2⟩
theorem loc_spec {i t : Nat} (h : X.loc[i]? = some (some t)) : (∃ o, X.ops[i]? = some o ∧ o.dst = some t ∧ ∀ p, X.ps[i]? = some p → p.op ≠ .pre) ∨
    (∃ j o', partner X.ops X.ps i = some j ∧ X.ops[j]? = some o' ∧ o'.dst = some t) := by
  simp only [Cx.loc, List.getElem?_map, Option.map_eq_some_iff] at h
  obtain ⟨i', hi', h⟩ := h
  have : i' = i := by
    have := List.getElem?_eq_some_iff.1 hi'
    obtain ⟨_, e⟩ := this
    simpa using e.symm
  subst this
  unfold locOf at h
  split at h <;> try (cases h; done)
  rename_i o p ho hp
  split at h
  · cases h
  · rename_i m b hop
    split at h <;> try (cases h; done)
    rename_i j hj
    split at h <;> try (cases h; done)
    rename_i o' ho'
    exact .inr ⟨j, o', hj, ho', h⟩
  · rename_i hpre hini
    refine .inl ⟨o, ho, h, fun p' hp' e => ?_⟩
    rw [hp] at hp'
    cases hp'
    exact hpre e
theorem loc_at {i : Nat} {o : Oper} {p : Gp} (ho : X.ops[i]? = some o) (hp : X.ps[i]? = some p) (h1 : p.op ≠ .pre) (h2 : ∀ m b, p.op ≠ .ini m b) : X.loc[i]? = some o.dst := by
  have hi : i < X.n := (List.getElem?_eq_some_iff.1 ho).1
  have e : locOf X.ops X.ps i = o.dst := by
    unfold locOf
    simp only [ho, hp]
  simp only [Cx.loc, List.getElem?_map, List.getElem?_range hi, Option.map_some, e]
theorem Inv.upd (h : Inv X regs val hp M0 w0 d0 S c M a w) (hX : Rg X E regs val hp) {i : Nat} {o : Oper} {v' : Value} {c' : Nat} {Xb : Nat → Prop} (ho : X.ops[i]? = some o) (hS : ¬ S i) (hcl : ∀ i j, X.ah i j = true → S j → S i)
    (hsat : Sat X.P M' (hp c') 0 w') (hfr : FrX Xb M M' w w') (hXb : ∀ B, Xb B → w0.heap.size ≤ B)
    (hcle : c' ≤ X.n) (hcS : ∀ e p, e < c' → X.ps[e]? = some p → p.op.eff = true → S e ∨ e = i) (hcN : ∀ p, X.ps[c']? = some p → p.op.eff = true ∧ ¬ S c' ∧ c' ≠ i)
    (hval : ∀ t, X.loc[i]? = some (some t) → RelV M' (val i) ((a.put o.dst v').tmps.getD t undef))
    (htodo : ∀ j, j < c' → ¬ S j → j ≠ i → (hp j).length < (hp (j + 1)).length → M'.loc (hp j).length = none)
    (hpend : ∀ j k, partner X.ops X.ps k = some j → (S j ∨ j = i) → ¬ S k → k ≠ i → ∃ t m a' q B, X.raw[j]? = some (some t) ∧ X.ps[k]? = some q ∧ q.op = .ini m a' ∧ Waits M' w' ((a.put o.dst v').tmps.getD t undef) m B ∧ w0.heap.size ≤ B)
    (hpinj : ∀ j k j' k' t t', partner X.ops X.ps k = some j → partner X.ops X.ps k' = some j' → (S j ∨ j = i) → (S j' ∨ j' = i) → ¬ S k → k ≠ i → ¬ S k' → k' ≠ i → X.raw[j]? = some (some t) → X.raw[j']? = some (some t') →
      (a.put o.dst v').tmps.getD t undef = (a.put o.dst v').tmps.getD t' undef → j = j') :
    Inv X regs val hp M0 w0 d0 (fun j => S j ∨ j = i) c' M' (a.put o.dst v') w' where
  size := by rw [← h.size]; cases o.dst <;> simp [Act.put]
  dfs := by rw [← h.dfs]; cases o.dst <;> rfl
  cle := hcle
  cS := hcS
  cN := fun p hp' => by
    obtain ⟨h1, h2, h3⟩ := hcN p hp'
    exact ⟨h1, fun h => h.elim h2 h3⟩
  sat := hsat
  fr := h.fr.transX hfr hXb
  vals := fun j t hj hl => by
    by_cases e : j = i
    · subst e; exact hval t hl
    · have hSj := hj.resolve_right e
      rw [getD_put_ne (fun hd => ?_)]
      · exact RelV.mono hfr.ext (h.vals j t hSj hl)
      · have hri : X.raw[i]? = some (some t) := by rw [raw_at ho, hd]
        rcases loc_spec hl with ⟨oj, hoj, hdj, _⟩ | ⟨k, ok, hk, hok, hdk⟩
        · exact e (raw_inj hX (by rw [raw_at hoj, hdj]) hri)
        · have hki : k = i := raw_inj hX (by rw [raw_at hok, hdk]) hri
          subst hki
          obtain ⟨o1, p1, t1, T, y, m, b, o2, p2, q1, q2, q3, q4, q5, q6, q7, q8, q9⟩ := partner_spec hk
          obtain ⟨j', t', x', y', o'', t'', r1, r2, r3, r4, r5, r6, r7, r8, r9⟩ := (hX.one j o1 p1 q1 q2).ini m b q4
          rw [hk] at r1
          cases r1
          exact hS (hcl _ _ r7 hSj)
  rg := fun j t hj hn => by
    rw [getD_put_ne (fun hd => hn i (.inr rfl) (by rw [raw_at ho, hd]))]
    exact RelV.mono hfr.ext (h.rg j t hj (fun k hk => hn k (.inl hk)))
  todo := fun j hj hn hl => htodo j hj (fun h => hn (.inl h)) (fun h => hn (.inr h)) hl
  pend := fun j k hk hj hn => hpend j k hk hj (fun h => hn (.inl h)) (fun h => hn (.inr h))
  pinj := fun j k j' k' t t' h1 h2 h3 h4 h5 h6 h7 h8 h9 => hpinj j k j' k' t t' h1 h2 h3 h4 (fun h => h5 (.inl h)) (fun h => h5 (.inr h)) (fun h => h6 (.inl h)) (fun h => h6 (.inr h)) h7 h8 h9
theorem Inv.plain (h : Inv X regs val hp M0 w0 d0 S c M a w) (hX : Rg X E regs val hp) {i : Nat} {o : Oper} {p : Gp} {v' : Value} {c' : Nat} (ho : X.ops[i]? = some o) (hpi : X.ps[i]? = some p) (hS : ¬ S i) (hcl : ∀ i j, X.ah i j = true → S j → S i)
    (hnp : ∀ k, partner X.ops X.ps k ≠ some i) (hini : ∀ m b, p.op ≠ .ini m b) (hsat : Sat X.P M' (hp c') 0 w') (hfr : FrX (fun _ => False) M M' w w')
    (hcle : c' ≤ X.n) (hcS : ∀ e p, e < c' → X.ps[e]? = some p → p.op.eff = true → S e ∨ e = i) (hcN : ∀ p, X.ps[c']? = some p → p.op.eff = true ∧ ¬ S c' ∧ c' ≠ i)
    (hval : RelV M' (val i) v')
    (htodo : ∀ j, j < c' → ¬ S j → j ≠ i → (hp j).length < (hp (j + 1)).length → M'.loc (hp j).length = none) :
    Inv X regs val hp M0 w0 d0 (fun j => S j ∨ j = i) c' M' (a.put o.dst v') w' := by
  have hin : i < X.n := (List.getElem?_eq_some_iff.1 ho).1
  have far : ∀ j k t, partner X.ops X.ps k = some j → X.raw[j]? = some (some t) → (S j ∨ j = i) → S j ∧ (a.put o.dst v').tmps.getD t undef = a.tmps.getD t undef := by
    intro j k t hk hr hj
    have hne : j ≠ i := fun e => hnp k (e ▸ hk)
    refine ⟨hj.resolve_right hne, getD_put_ne fun hd => hne (raw_inj hX hr (by rw [raw_at ho, hd]))⟩
  refine h.upd hX ho hS hcl hsat hfr (fun _ h => h.elim) hcle hcS hcN ?_ htodo ?_ ?_
  · intro t ht
    have hd : o.dst = some t := by
      rcases loc_spec ht with ⟨o1, ho1, hd1, _⟩ | ⟨j, o1, hj, _⟩
      · rw [ho] at ho1; cases ho1; exact hd1
      · obtain ⟨o1, p1, t1, T, y, m, b, o2, p2, q1, q2, q3, q4, _⟩ := partner_spec hj
        rw [hpi] at q2
        cases q2
        exact absurd q4 (hini m b)
    rw [hd, getD_put_same (by rw [h.size]; exact ((hX.one i o p ho hpi).dst t hd).1)]
    exact hval
  · intro j k hk hj hnk hki
    have hSj : S j := (by
      obtain ⟨o1, p1, t1, T, y, m, b, o2, p2, q1, q2, q3, q4, q5, q6, q7, q8, q9⟩ := partner_spec hk
      exact (far j k t1 hk (by rw [raw_at q5, q7]) hj).1)
    obtain ⟨t, m, a', q, B, e1, e2, e3, e4, e5⟩ := h.pend j k hk hSj hnk
    exact ⟨t, m, a', q, B, e1, e2, e3, by rw [(far j k t hk e1 hj).2]; exact e4.keep hfr (fun h => h), e5⟩
  · intro j k j' k' t t' h1 h2 h3 h4 h5 _ h6 _ h7 h8 h9
    obtain ⟨s1, e1⟩ := far j k t h1 h7 h3
    obtain ⟨s2, e2⟩ := far j' k' t' h2 h8 h4
    rw [e1, e2] at h9
    exact h.pinj j k j' k' t t' h1 h2 s1 s2 h5 h6 h7 h8 h9
theorem Inv.operand (h : Inv X regs val hp M0 w0 d0 S c M a w) (hX : Rg X E regs val hp) (hG : GlobOk E.glob M0.imm) {i : Nat} {o : Oper} {p : Gp} (ho : X.ops[i]? = some o) (hpi : X.ps[i]? = some p) (hS : ¬ S i) (hcl : ∀ i j, X.ah i j = true → S j → S i) (hr : ∀ j, X.ah j i = true → S j)
    {x : Operand} (hx : ∀ t, x = .tmp t → .tmp t ∈ o.op.operands) {b : A} (hok : okA (X.k i) x b = true) : RelV M (look E regs (tsOf val i) b) (a.eval x) := by
  unfold okA at hok
  split at hok <;> try (cases hok; done)
  · rename_i t j
    simp only [Bool.and_eq_true, beq_iff_eq, Cx.k] at hok
    obtain ⟨⟨h1, h2⟩, h3⟩ := hok
    simp only [look, nth_tsOf, Act.eval]
    rw [if_pos (of_decide_eq_true h1)]
    exact h.vals _ t (hr _ h3) h2
  · rename_i t j
    simp only [Bool.and_eq_true, beq_iff_eq, Bool.not_eq_true', Cx.k] at hok
    obtain ⟨h1, h2⟩ := hok
    simp only [look, Act.eval]
    refine h.rg j t h1 fun k hk hrk => ?_
    have hkn := raw_lt hrk
    rcases (hX.one i o p ho hpi).reads t (hx t rfl) k hkn with e | e | e | e
    · subst e; exact hS hk
    · exact e hrk
    · have hlt := ah_lt e
      have : (X.raw.take i).contains (some t) = true := by
        rw [List.contains_iff_mem, List.mem_iff_getElem?]
        exact ⟨k, by rw [List.getElem?_take, if_pos hlt]; exact hrk⟩
      rw [this] at h2
      cases h2
    · exact hS (hcl _ _ e hk)
  · simp only [look, Act.eval]; exact okV_rel hok
  · rename_i g b'
    simp only [beq_iff_eq] at hok
    subst hok
    simp only [look, Act.eval]
    split
    · rename_i cs hg
      rw [relV_d]
      exact RelD.mono h.fr.ext.imm (hG _ _ hg).1
    · exact relV_any
  · rename_i f f'
    simp only [beq_iff_eq] at hok
    subst hok
    simp only [look, Act.eval]
    rw [relV_d]
    simp only [RelD]
    exact ⟨#[], #[], rfl, RelDs.nil _ _, rfl, RelDs.nil _ _, rfl⟩
theorem Inv.wanted (h : Inv X regs val hp M0 w0 d0 S c M a w) (hX : Rg X E regs val hp) {i : Nat} {o : Oper} {p : Gp} {b : Bool} (ho : X.ops[i]? = some o) (hpi : X.ps[i]? = some p) (hr : ∀ j, X.ah j i = true → S j)
    (hw : wants (tsOf val i) p.guard = some b) : Region.wanted o (yielded X.ops.toArray a.tmps) = b := by
  have hone := hX.one i o p ho hpi
  cases hg : p.guard with
  | none =>
    rw [hg] at hw
    simp only [wants, Option.some.injEq] at hw
    subst hw
    simp [Region.wanted, hone.guard0 hg]
  | some gb =>
    obtain ⟨g, b'⟩ := gb
    obtain ⟨h1, h2, h3, o', t, h4, h5, h6⟩ := hone.guard1 g b' hg
    have hv := h.vals _ t (hr _ h3) h6
    rw [hg] at hw
    simp only [wants, nth_tsOf, if_pos h2] at hw
    have hin : i - 1 - g < X.n := (List.getElem?_eq_some_iff.1 h4).1
    obtain ⟨p', hp'⟩ := ps_of hX hin
    have hlt : t < a.tmps.size := by rw [h.size]; exact ((hX.one _ o' p' h4 hp').dst t h5).1
    have hget : a.tmps.getD t undef = a.tmps[t] := by simp [Array.getD, hlt]
    rw [hget] at hv
    have hy : yielded X.ops.toArray a.tmps (i - 1 - g) = (match a.tmps[t] with | .bool b => some b | _ => none) := by
      have e : ((X.ops.toArray[i - 1 - g]?).bind (·.dst)).bind (a.tmps[·]?) = some a.tmps[t] := by simp [h4, h5, hlt]
      unfold yielded
      rw [e]
      cases a.tmps[t] <;> rfl
    simp only [Region.wanted, h1, hy]
    split at hw <;> try (cases hw; done)
    · rename_i t0 hval
      rw [hval, relV_bool] at hv
      simp only [Option.some.injEq] at hw
      subst hw
      rw [hv]
      simp
    · rename_i hval
      rw [hval, relV_tup] at hv
      obtain ⟨arr, hv, _⟩ := hv
      simp only [Option.some.injEq] at hw
      subst hw
      rw [hv]
      simp
end
end Mini
end Go.Proofs.YtgjlofpfbhioaaaGreatDoor
