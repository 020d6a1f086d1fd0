/-
  The quiet operations, on: aggregates, bytes; the cells of a slice, read.
-/
import Derived.Test.YtmcgaakbkgdljaaGreatDoorMiniE5
import Derived.Laws.Tables
import Derived.Laws.BytesString
namespace Go.Proofs.YtmcgaakbkgdljaaGreatDoor
namespace Mini
open Go

/-! ### Rows of cells -/
/-- Cells from 'off' on become 'new'. -/
def spl (vs : List Value) (off : Nat) (new : List Value) : List Value := vs.take off ++ new ++ vs.drop (off + new.length)

theorem spl_length {vs : List Value} {off : Nat} {new : List Value} (h : off + new.length ≤ vs.length) : (spl vs off new).length = vs.length := by
  simp only [spl, List.length_append, List.length_take, List.length_drop]; omega
theorem splice_length {cs : List C} {off : Nat} {new : List C} (h : off + new.length ≤ cs.length) : (splice cs off new).length = cs.length := by
  simp only [splice, List.length_append, List.length_take, List.length_drop]; omega
theorem RelCs.splice {M : MM} {cs new : List C} {vs us : List Value} {off : Nat} (h : RelCs M cs vs) (k : RelCs M new us) (hl : new.length = us.length) (ho : off + new.length ≤ cs.length) :
    RelCs M (Mini.splice cs off new) (spl vs off us) := by
  have hlen := h.length
  unfold Mini.splice spl
  rw [← hl]
  refine RelCs.append (RelCs.append (h.take' off) (by simp only [List.length_take]; omega) k) ?_ (h.drop _)
  simp only [List.length_append, List.length_take]; omega

theorem spl_get {vs : List Value} {off : Nat} {new : List Value} (h : off + new.length ≤ vs.length) (m : Nat) :
    (spl vs off new)[m]? = if off ≤ m ∧ m < off + new.length then new[m - off]? else vs[m]? := by
  unfold spl
  have hl : (vs.take off).length = off := by rw [List.length_take]; omega
  split
  · rename_i hm
    rw [List.getElem?_append_left (by simp only [List.length_append, hl]; omega), List.getElem?_append_right (by omega), hl]
  · rename_i hm
    by_cases h1 : m < off
    · rw [List.append_assoc, List.getElem?_append_left (by omega), List.getElem?_take, if_pos h1]
    · rw [List.getElem?_append_right (by simp only [List.length_append, hl]; omega), List.getElem?_drop]
      congr 1
      simp only [List.length_append, hl]
      omega

theorem foldl_set (off : Nat) : ∀ (xs : List Value) (k : Nat) (cells : Array Value), off + k + xs.length ≤ cells.size →
    ((xs.zipIdx k).foldl (fun cs x => cs.setIfInBounds (off + x.2) x.1) cells).toList = spl cells.toList (off + k) xs
  | [], k, cells, h => by simp [spl]
  | x :: xs, k, cells, h => by
    simp only [List.length_cons] at h
    rw [List.zipIdx_cons, List.foldl_cons, foldl_set off xs (k + 1) _ (by simp only [Array.size_setIfInBounds]; omega)]
    apply List.ext_getElem?
    intro m
    rw [spl_get (by simp only [Array.length_toList, Array.size_setIfInBounds]; omega), spl_get (by simp only [Array.length_toList, List.length_cons]; omega)]
    simp only [Array.getElem?_toList, Array.getElem?_setIfInBounds, List.length_cons]
    by_cases h1 : m = off + k
    · subst h1
      rw [if_neg (by omega), if_pos rfl, if_pos (by omega), if_pos (by omega)]
      simp
    · by_cases h2 : off + k ≤ m ∧ m < off + k + (xs.length + 1)
      · rw [if_pos (by omega), if_pos h2]
        obtain ⟨d, rfl⟩ : ∃ d, m = off + k + 1 + d := ⟨m - (off + k + 1), by omega⟩
        rw [show off + k + 1 + d - (off + (k + 1)) = d by omega, show off + k + 1 + d - (off + k) = d + 1 by omega]
        simp
      · rw [if_neg (by omega), if_neg (by omega), if_neg h2]

section
variable {P : Program} {M : MM} {w : World} {k : K} {o : Oper} {lk : A → V} {ρ : Operand → Value} {Hi H : Heap} {base : Nat}

/-- The cells of a value. -/
theorem relV_cells {x : V} {v : Value} {cs : List C} (h : x.cells = some cs) (r : RelV M x v) : RelCs M cs v.cells.toList ∧ v.cells.size = cs.length ∧ ∀ u ∈ v.cells, u.oneCell' = true := by
  have key : ∀ {vs : List Value}, RelCs M cs vs → vs.length = cs.length → ∀ u ∈ vs, u.oneCell' = true := by
    intro vs hr hl u hu
    obtain ⟨j, hj, rfl⟩ := List.mem_iff_getElem.1 hu
    obtain ⟨v', hv', hr'⟩ := RelCs.iff.1 hr j cs[j] (by simp)
    rw [List.getElem?_eq_getElem hj] at hv'
    cases hv'
    exact hr'.oneCell
  cases x with
  | c x =>
    simp only [V.cells, Option.some.injEq] at h
    subst h
    rw [relV_c] at r
    rw [r.cells]
    refine ⟨by simp only [RelCs]; exact ⟨r, trivial⟩, rfl, fun u hu => ?_⟩
    simp at hu
    subst hu
    exact r.oneCell
  | agg cs' =>
    simp only [V.cells, Option.some.injEq] at h
    subst h
    rw [relV_agg] at r
    obtain ⟨arr, rfl, h1, h2⟩ := r
    refine ⟨h2, h1, fun u hu => key h2 (by simpa using h1) u (by simpa [Value.cells] using hu)⟩
  | tup vs => simp [V.cells] at h
  | any => simp [V.cells] at h

theorem fill_lay {place : Nat → Option (Nat × Nat)} : ∀ (ps : List (Nat × Value)) (as : List (Nat × Nat × V)) (cells : Array Value) (cs out : List C),
    ps.length = as.length → (∀ (j i off m : Nat) (x : Value) (a : V), ps[j]? = some (i, x) → as[j]? = some (off, m, a) → place i = some (off, m) ∧ RelV M a x) →
    RelCs M cs cells.toList → cells.size = cs.length → lay cs as = some out →
    ∃ cells', Instr.fill place cells ps = some cells' ∧ RelCs M out cells'.toList ∧ cells'.size = out.length ∧ out.length = cs.length
  | [], [], cells, cs, out, _, _, hr, hs, h => by
    simp only [lay, Option.some.injEq] at h
    subst h
    exact ⟨cells, rfl, hr, hs, rfl⟩
  | [], _ :: _, _, _, _, hl, _, _, _, _ => by simp at hl
  | _ :: _, [], _, _, _, hl, _, _, _, _ => by simp at hl
  | (i, x) :: ps, (off, m, a) :: as, cells, cs, out, hl, hp, hr, hs, h => by
    simp only [lay] at h
    split at h <;> try (cases h; done)
    rename_i new hnew
    split at h <;> try (cases h; done)
    rename_i hb
    obtain ⟨hb1, hb2⟩ := hb
    obtain ⟨p1, p2⟩ := hp 0 i off m x a (by simp) (by simp)
    obtain ⟨c1, c2, c3⟩ := relV_cells hnew p2
    have hfold := foldl_set off x.cells.toList 0 cells (by simp only [Array.length_toList]; omega)
    have hr2 : RelCs M (splice cs off new) (x.cells.zipIdx.foldl (fun cs y => cs.setIfInBounds (off + y.2) y.1) cells).toList := by
      have e : (x.cells.zipIdx.foldl (fun cs y => cs.setIfInBounds (off + y.2) y.1) cells) = ((x.cells.toList.zipIdx 0).foldl (fun cs y => cs.setIfInBounds (off + y.2) y.1) cells) := by
        rw [← Array.foldl_toList, Array.toList_zipIdx]
      rw [e, hfold, Nat.add_zero]
      exact RelCs.splice hr c1 (by simpa using c2.symm) (by omega)
    have hsz : (x.cells.zipIdx.foldl (fun cs y => cs.setIfInBounds (off + y.2) y.1) cells).size = (splice cs off new).length := by
      have e : (x.cells.zipIdx.foldl (fun cs y => cs.setIfInBounds (off + y.2) y.1) cells) = ((x.cells.toList.zipIdx 0).foldl (fun cs y => cs.setIfInBounds (off + y.2) y.1) cells) := by
        rw [← Array.foldl_toList, Array.toList_zipIdx]
      rw [e, ← Array.length_toList, hfold, splice_length (by omega), spl_length (by simp only [Array.length_toList]; omega)]
      simpa using hs
    obtain ⟨cells', f1, f2, f3, f4⟩ := fill_lay ps as _ _ out (by simpa using hl) (fun j i off m x a h1 h2 => hp (j + 1) i off m x a (by simpa using h1) (by simpa using h2)) hr2 hsz h
    refine ⟨cells', ?_, f2, f3, by rw [f4, splice_length (by omega)]⟩
    simp only [Instr.fill, p1]
    rw [if_neg (by simp only [Bool.or_eq_true, decide_eq_true_eq, not_or]; omega)]
    exact f1

/-- The parts of a literal. -/
theorem okParts_rel {t : TypeId} {place : Nat → Option (Nat × Nat)} (hA : ∀ x a, okA k x a = true → RelV M (lk a) (ρ x)) : ∀ (ps : List (Nat × Operand)) (as : List (Nat × Nat × A)), okParts P k t ps as = true →
    (∀ i y off m, (i, y) ∈ ps → place? P t i = some (off, m) → place i = some (off, m)) →
    (ps.map fun (i, x) => (i, ρ x)).length = (as.map fun (i, n, a) => (i, n, lk a)).length ∧
    ∀ (j i off m : Nat) (x : Value) (a : V), (ps.map fun (i, x) => (i, ρ x))[j]? = some (i, x) → (as.map fun (i, n, a) => (i, n, lk a))[j]? = some (off, m, a) → place i = some (off, m) ∧ RelV M a x
  | [], [], _, _ => ⟨rfl, by intro j i off m x a h; simp at h⟩
  | [], _ :: _, h, _ => by simp [okParts] at h
  | _ :: _, [], h, _ => by simp [okParts] at h
  | (i, x) :: ps, (off, m, a) :: as, h, hp => by
    simp only [okParts, Bool.and_eq_true, beq_iff_eq] at h
    obtain ⟨⟨h1, h2⟩, h3⟩ := h
    obtain ⟨r1, r2⟩ := okParts_rel hA ps as h3 (fun i y off m hm => hp i y off m (by simp [hm]))
    refine ⟨by simpa using r1, fun j => ?_⟩
    cases j with
    | zero =>
      intro i' off' m' x' a' e1 e2
      simp only [List.map_cons, List.getElem?_cons_zero, Option.some.injEq, Prod.mk.injEq] at e1 e2
      obtain ⟨rfl, rfl⟩ := e1
      obtain ⟨rfl, rfl, rfl⟩ := e2
      exact ⟨hp i x off m (by simp) h1, hA _ _ h2⟩
    | succ j =>
      intro i' off' m' x' a' e1 e2
      simp only [List.map_cons, List.getElem?_cons_succ] at e1 e2
      exact r2 j i' off' m' x' a' e1 e2

theorem zero?_spec {t : TypeId} {vs : List Value} (h : zero? P t = some vs) : ∃ i z, P.info? t = some i ∧ i.zero = some z ∧ z.cells.toList = vs := by
  unfold zero? at h
  cases hi : P.info? t with
  | none => simp [hi] at h
  | some i =>
    cases hz : i.zero with
    | none => simp [hi, hz] at h
    | some z => simp only [hi, hz, Option.bind_some, Option.map_some, Option.some.injEq] at h; exact ⟨i, z, rfl, hz, h⟩

theorem mapM_get {α β : Type} {f : α → Option β} : ∀ {l : List α} {ys : List β}, l.mapM f = some ys → ∀ (i : Nat) (x : α) (y : β), l[i]? = some x → f x = some y → ys[i]? = some y
  | [], ys, _, i, x, y, h1, _ => by simp at h1
  | a :: l, ys, h, i, x, y, h1, h2 => by
    simp only [List.mapM_cons, Option.bind_eq_bind, Option.pure_def] at h
    cases hf : f a with
    | none => simp [hf] at h
    | some b =>
      cases hr : l.mapM f with
      | none => simp [hf, hr] at h
      | some zs =>
        simp only [hf, hr, Option.bind_some, Option.some.injEq] at h
        subst h
        cases i with
        | zero => simp only [List.getElem?_cons_zero, Option.some.injEq] at h1 ⊢; subst h1; rw [hf] at h2; exact Option.some.inj h2
        | succ i => simp only [List.getElem?_cons_succ] at h1 ⊢; exact mapM_get hr i x y h1 h2

theorem q_bld {zero : List D} {parts : List (Nat × Nat × A)} {v : V} {n : List Ob} (hA : ∀ x a, okA k x a = true → RelV M (lk a) (ρ x)) (hok : okOp P k o (.bld zero parts) = true) (h : stepP lk Hi (.bld zero parts) = some (v, n)) : Quiet P M w (execOp ρ o) v := by
  cases hop : o.op <;> simp only [okOp, hop] at hok <;> try (cases hok; done)
  rename_i t ps
  simp only [Bool.and_eq_true] at hok
  obtain ⟨⟨⟨⟨h1, h2⟩, h3⟩, h4⟩, h5⟩ := hok
  split at h1 <;> try (cases h1; done)
  rename_i vs hz
  obtain ⟨it, z, e1, e2, e3⟩ := zero?_spec hz
  obtain ⟨z1, z2⟩ := okDs_rel (I := M.imm) h1
  simp only [stepP, Option.map_eq_some_iff] at h
  obtain ⟨cs, hlay, hv⟩ := h
  simp only [Prod.mk.injEq] at hv
  obtain ⟨rfl, rfl⟩ := hv
  have hrz : RelCs M (zero.map .d) z.cells.toList := by rw [e3]; exact RelCs.of_d.2 z1
  have hsz : z.cells.size = (zero.map C.d).length := by rw [← Array.length_toList, e3, z2]; simp
  have fin : ∀ place : Nat → Option (Nat × Nat), (∀ i y off m, (i, y) ∈ ps.toList → place? P t i = some (off, m) → place i = some (off, m)) →
      ∃ cells', Instr.fill place z.cells (ps.map fun (i, x) => (i, ρ x)).toList = some cells' ∧ RelV M (.agg cs) (.agg cells') := by
    intro place hp
    obtain ⟨p1, p2⟩ := okParts_rel hA ps.toList parts h2 hp
    obtain ⟨cells', f1, f2, f3, _⟩ := fill_lay (place := place) _ _ z.cells _ cs p1 p2 hrz hsz hlay
    exact ⟨cells', by rw [Array.toList_map]; exact f1, by rw [relV_agg]; exact ⟨_, rfl, f3, f2⟩⟩
  have done : ∀ cells', P.built t (ps.map fun (i, x) => (i, ρ x)).toList = some cells' → RelV M (.agg cs) (.agg cells') → Quiet P M w (execOp ρ o) (.agg cs) := by
    intro cells' hb hr
    exact quiet_of (by simp only [execOp, hop]) (run_build w t _ cells' hb) hr
  unfold isAggT agg? at h3
  cases hu : P.underlying t with
  | none => simp [hu] at h3
  | some d =>
    cases d <;> simp [hu] at h3
    · rename_i len e
      simp only [sized, hu, Option.isSome_iff_exists] at h4
      obtain ⟨nn, hn⟩ := h4
      obtain ⟨inf, hi, rfl⟩ := size?_spec hn
      obtain ⟨cells', f1, f2⟩ := fin (fun i => some (i * inf.size, inf.size)) (by
        intro i y off m _ hp
        simp only [place?, hu, hn, Option.map_some, Option.some.injEq] at hp
        rw [hp])
      exact done cells' (by simp only [Program.built, e1, e2, hu, hi]; exact f1) f2
    · rename_i fs
      simp only [sized, hu, Option.isSome_iff_exists] at h4
      obtain ⟨places, hpl⟩ := h4
      obtain ⟨cells', f1, f2⟩ := fin (places.toArray[·]?) (by
        intro i y off m _ hp
        simp only [place?, hu, Option.bind_eq_some_iff] at hp
        obtain ⟨f, hf, hp⟩ := hp
        simp only [Option.map_eq_some_iff, Prod.mk.injEq] at hp
        obtain ⟨nn, hn, rfl, rfl⟩ := hp
        obtain ⟨inf, hi, rfl⟩ := size?_spec hn
        simp only [List.getElem?_toArray]
        exact mapM_get hpl i f _ (by simpa using hf) (by simp [hi]))
      exact done cells' (by simp only [Program.built, e1, e2, hu, hpl]; exact f1) f2

/-! ### The cells of a slice -/
theorem relCs_one {cs : List C} {vs : List Value} (hr : RelCs M cs vs) (hl : vs.length = cs.length) : ∀ u ∈ vs, u.oneCell' = true := by
  intro u hu
  obtain ⟨j, hj, rfl⟩ := List.mem_iff_getElem.1 hu
  obtain ⟨v', hv', hr'⟩ := RelCs.iff.1 hr j cs[j] (by simp)
  rw [List.getElem?_eq_getElem hj] at hv'
  cases hv'
  exact hr'.oneCell

theorem seg_len {cs : List C} {off n : Nat} (h : off + n ≤ cs.length) : ((cs.drop off).take n).length = n := by simp only [List.length_take, List.length_drop]; omega

theorem elems_rel {sz m : Nat} {x : V} {v : Value} {new : List C} (hs : Sat P M H base w) (hsub : Sub Hi H) (hsz : 0 < sz) (h : elems Hi sz x = some (m, new)) (r : RelV M x v) :
    ∃ cells : List Value, cells.length = m * sz ∧ new.length = m * sz ∧ RelCs M new cells ∧ (∀ u ∈ cells, u.oneCell' = true) ∧ (Builtin.lenOf v).run P w = .ok m w ∧
      ∀ m', m' ≤ m → (Builtin.firstCells sz m' v).run P w = .ok (cells.take (m' * sz)).toArray w := by
  unfold elems at h
  split at h <;> try (cases h; done)
  · simp only [Option.some.injEq, Prod.mk.injEq] at h
    obtain ⟨rfl, rfl⟩ := h
    rw [relV_nils] at r
    subst r
    exact ⟨[], by simp, by simp, RelCs.nil _ _, by simp, rfl, by intro m' _; simp [Builtin.firstCells]⟩
  · rename_i cs len
    split at h <;> try (cases h; done)
    rename_i hlen
    simp only [Option.some.injEq, Prod.mk.injEq] at h
    obtain ⟨rfl, rfl⟩ := h
    rw [relV_d] at r
    simp only [RelD] at r
    obtain ⟨a, cap, rfl, hc, hr⟩ := r
    rcases hr with rfl | ⟨B, o', arr, T, fr, rfl, hB, hr⟩
    · have : len = 0 := by
        rcases Nat.eq_zero_or_pos len with h' | h'
        · exact h'
        · have := Nat.mul_pos h' hsz; simp at hlen; omega
      subst this
      refine ⟨[], by simp, by simp, RelCs.nil _ _, by simp, rfl, ?_⟩
      intro m' hm'
      have : m' = 0 := by omega
      subst this
      cases a <;> simp [Builtin.firstCells, loadCells, loadCellsFrom]
    · have hb := hs.imm _ _ hB
      have hle : cs.length ≤ arr.size - o' := by have := hr.length; simpa using this
      rw [hlen] at hle
      have hfull : ∀ m', m' ≤ len → (loadCells ⟨B, o', none⟩ (m' * sz)).run P w = .ok ((((arr.toList.drop o').take (len * sz)).take (m' * sz))).toArray w := by
        intro m' hm'
        have hmul : m' * sz ≤ len * sz := Nat.mul_le_mul_right _ hm'
        have hpos : o' + m' * sz ≤ arr.size ∨ m' * sz = 0 := by omega
        rcases hpos with hpos | hpos
        · rw [run_row hb hpos, List.take_take, Nat.min_eq_left hmul]
        · rw [hpos]; simp [loadCells, loadCellsFrom]
      have hlen2 : ((arr.toList.drop o').take (len * sz)).length = len * sz := by
        simp only [List.length_take, List.length_drop, Array.length_toList]
        omega
      have hrel : RelCs M (cs.map .d) ((arr.toList.drop o').take (len * sz)) := by
        have := (relDs_map rfl hr : RelCs M _ _).take' (len * sz)
        rwa [List.take_of_length_le (by simp; omega)] at this
      refine ⟨(arr.toList.drop o').take (len * sz), hlen2, by simpa using hlen, hrel, relCs_one hrel (by simp [hlen2, hlen]), rfl, fun m' hm' => ?_⟩
      simp only [Builtin.firstCells]
      exact hfull m' hm'
  · rename_i s
    split at h <;> try (cases h; done)
    rename_i hone
    subst hone
    simp only [Option.some.injEq, Prod.mk.injEq] at h
    obtain ⟨rfl, rfl⟩ := h
    rw [relV_str] at r
    obtain ⟨bs, rfl, rfl⟩ := r
    have hrel : RelCs M (ofBytes (bs.data.toList.map UInt8.toNat)) (bs.data.toList.map fun b => Value.int .u8 b.toNat) := by
      rw [RelCs.iff]
      intro j d hd
      simp only [ofBytes, List.map_map, List.getElem?_map, Option.map_eq_some_iff] at hd
      obtain ⟨b, hb, rfl⟩ := hd
      refine ⟨_, by rw [List.getElem?_map, hb]; rfl, ?_⟩
      simp [RelC, RelD]
    refine ⟨bs.data.toList.map fun b => Value.int .u8 b.toNat, by simp, by simp [ofBytes], hrel, by intro u hu; simp at hu; obtain ⟨b, _, rfl⟩ := hu; rfl, ?_, ?_⟩
    · simp only [Builtin.lenOf, Sem.run_pure, List.length_map, Array.length_toList]; rfl
    · intro m' hm'
      simp only [Builtin.firstCells, Sem.run_pure, Nat.mul_one]
      congr 1
      apply Array.ext'
      simp [ByteArray.data_extract, List.extract_eq_take_drop]
  · rename_i id g off len sz' cap
    split at h <;> try (cases h; done)
    rename_i cs g' fz ho
    split at h <;> try (cases h; done)
    rename_i hc
    obtain ⟨rfl, rfl, hc⟩ := hc
    simp only [Option.some.injEq, Prod.mk.injEq] at h
    obtain ⟨rfl, rfl⟩ := h
    rw [relV_c] at r
    obtain ⟨a, c, rfl, hlc, _, hcase⟩ := live_os hs hsub ho r
    rcases hcase with ⟨_, rfl, rfl, rfl⟩ | ⟨B, b0, bs, fz', hl, ha, hbs, arr, T, fr, f1, f2, f3, f4, f5⟩
    · have : len = 0 := by omega
      subst this
      refine ⟨[], by simp, by simp, by simpa using RelCs.nil _ _, by simp, rfl, ?_⟩
      intro m' hm'
      simp [Builtin.firstCells]
    · have hmul : len * sz' ≤ c * sz' := Nat.mul_le_mul_right _ hlc
      have hrel : RelCs M ((cs.drop off).take (len * sz')) ((arr.toList.drop (b0 + off)).take (len * sz')) := by
        have := (f4.drop off).take' (len * sz')
        rwa [List.drop_drop] at this
      have hl2 : ((arr.toList.drop (b0 + off)).take (len * sz')).length = len * sz' := by
        simp only [List.length_take, List.length_drop, Array.length_toList]
        omega
      refine ⟨_, hl2, seg_len hc, hrel, relCs_one hrel (by rw [hl2, seg_len hc]), rfl, fun m' hm' => ?_⟩
      have hmul2 : m' * sz' ≤ len * sz' := Nat.mul_le_mul_right _ hm'
      rcases ha with rfl | rfl
      · have : len = 0 := by omega
        subst this
        have : m' = 0 := by omega
        subst this
        cases a <;> simp [Builtin.firstCells, loadCells, loadCellsFrom]
      · simp only [Builtin.firstCells]
        rw [run_row f1 (by omega), List.take_take, Nat.min_eq_left hmul2]

theorem bytesOf_rel : ∀ {cs : List C} {vs : List Value} {s : List Nat}, bytesOf cs = some s → RelCs M cs vs → vs.length = cs.length →
    ∃ ns : List Int, vs = ns.map (Value.int .u8) ∧ s = ns.map fun n => n.toNat % 256
  | [], vs, s, h, _, hl => by
    simp only [bytesOf, mapO, Option.some.injEq] at h
    subst h
    have : vs = [] := List.eq_nil_of_length_eq_zero (by simpa using hl)
    subst this
    exact ⟨[], rfl, rfl⟩
  | c :: cs, [], s, _, _, hl => by simp at hl
  | c :: cs, v :: vs, s, h, hr, hl => by
    simp only [bytesOf, mapO] at h
    split at h <;> try (cases h; done)
    rename_i y hy
    split at h <;> try (cases h; done)
    rename_i ys hys
    simp only [Option.some.injEq] at h
    subst h
    simp only [RelCs] at hr
    obtain ⟨ns, h1, h2⟩ := bytesOf_rel hys hr.2 (by simpa using hl)
    unfold byteOf at hy
    split at hy <;> try (cases hy; done)
    rename_i b
    simp only [Option.some.injEq] at hy
    subst hy
    have hv : v = .int .u8 b := by simpa [RelC, RelD] using hr.1
    exact ⟨b :: ns, by simp [hv, h1], by simp [h2]⟩

theorem foldl_push (ns : List Int) : ∀ s : ByteArray, (ns.foldl (fun r n => r.push (UInt8.ofNat n.toNat)) s).data.toList.map UInt8.toNat = s.data.toList.map UInt8.toNat ++ ns.map fun n => n.toNat % 256 := by
  induction ns with
  | nil => intro s; simp
  | cons n ns ih => intro s; rw [List.foldl_cons, ih]; simp [ByteArray.push]

theorem q_b2s {a : A} {v : V} {n : List Ob} (hs : Sat P M H base w) (hsub : Sub Hi H) (hA : ∀ x a, okA k x a = true → RelV M (lk a) (ρ x)) (hok : okOp P k o (.b2s a) = true) (h : stepP lk Hi (.b2s a) = some (v, n)) : Quiet P M w (execOp ρ o) v := by
  cases hop : o.op <;> simp only [okOp, hop] at hok <;> try (cases hok; done)
  rename_i src dst x
  simp only [Bool.and_eq_true] at hok
  obtain ⟨h1, h2⟩ := hok
  have r1 := hA _ _ h2
  split at h1 <;> try (cases h1; done)
  rename_i e hu1 hu2
  split at h1 <;> try (cases h1; done)
  rename_i hu3
  simp only [stepP] at h
  split at h <;> try (cases h; done)
  rename_i hns
  split at h <;> try (cases h; done)
  rename_i m cs he
  simp only [Option.map_eq_some_iff, Prod.mk.injEq] at h
  obtain ⟨s, hb, rfl, rfl⟩ := h
  obtain ⟨cells, e1, e2, e3, e4, e5, e6⟩ := elems_rel hs hsub (by decide) he r1
  obtain ⟨ns, rfl, rfl⟩ := bytesOf_rel hb e3 (by omega)
  have e6 := e6 m (Nat.le_refl _)
  rw [List.take_of_length_le (by omega)] at e6
  refine quiet_of' (by simp only [execOp, hop]; rfl) ?_
  -- the value is a slice
  have hslice : ∃ a len c, ρ x = .slice a len c := by
    unfold elems at he
    split at he <;> try (cases he; done)
    · rename_i hx; rw [hx, relV_nils] at r1; exact ⟨_, _, _, r1⟩
    · rename_i hx; rw [hx, relV_d] at r1; simp only [RelD] at r1; obtain ⟨a, c, hv, _⟩ := r1; exact ⟨_, _, _, hv⟩
    · rename_i hx; exact absurd hx (hns _)
    · rename_i hx; rw [hx, relV_c] at r1; simp only [RelC] at r1; obtain ⟨_, _, a, c, hv, _⟩ := r1; exact ⟨_, _, _, hv⟩
  obtain ⟨ad, len, c, hv⟩ := hslice
  rw [hv] at e5 e6 ⊢
  rw [run_convert_bytes_string w src dst e ad len c hu1 hu3 hu2]
  simp only [Builtin.lenOf, Sem.run_pure, Result.ok.injEq, and_true] at e5
  subst e5
  cases ad with
  | none =>
    simp only [Builtin.firstCells, Sem.run_pure, Result.ok.injEq, and_true] at e6
    have : ns = [] := by
      have := congrArg Array.size e6
      simp at this
      exact List.eq_nil_of_length_eq_zero this.symm
    subst this
    exact ⟨.string .empty, by simp [Conv.bytesToString], by rw [relV_str]; exact ⟨_, rfl, by simp⟩⟩
  | some ad =>
    simp only [Builtin.firstCells, Nat.mul_one] at e6
    exact ⟨_, run_bytesToString w ad len c ns e6, by rw [relV_str]; exact ⟨_, rfl, by rw [foldl_push]; simp⟩⟩
end
end Mini
end Go.Proofs.YtmcgaakbkgdljaaGreatDoor
