/-
  Primitives on the shared heap: a builder's check, a builder's text, digits laid into a row.
-/
import Derived.Test.YtgjlofpfbhioaaaGreatDoorMiniL5
namespace Go.Proofs.YtgjlofpfbhioaaaGreatDoor
namespace Mini
open Go Go.Shelf Go.Proofs Go.RowKit Go.Sort

section
variable {P : Program} {M : MM} {H : Heap} {w w' : World}

/-- A row, written. -/
theorem row_write (hs : Sat P M H 0 w) {id B b0 bs g off : Nat} {cs new : List C} {us : List Value} (ho : ob? H id = some (.cells cs g false)) (hl : M.loc id = some (some (B, b0, bs)))
    (hr : RelCs M new us) (hn : new.length = us.length) (hoff : off ≤ cs.length) (hfit : b0 + off + us.length ≤ bs) (h1 : ∀ u ∈ us, u.oneCell' = true) {arr arr' : Array Value} {T : TypeId} {fr : Nat × Nat} (e1 : w.heap[B]? = some (.cells arr T fr))
    (r2 : w'.heap[B]? = some (.cells arr' T fr)) (r3 : arr'.toList = spl arr.toList (b0 + off) us) (r5 : ∀ b : Nat, b ≠ B → w'.heap[b]? = w.heap[b]?) (rs : w'.heap.size = w.heap.size) (r7 : w'.os = w.os) (r8 : w'.tape = w.tape) (r9 : w'.output = w.output) :
    ∃ M', Sat P M' (setOb H id (.cells (splice cs off new) g false)) 0 w' ∧ Fr M M' w w' := by
  obtain ⟨hg, arr0, T0, fr0, e1', e2, e3, e4, e5, e6⟩ := hs.open ho hl
  rw [e1] at e1'
  cases e1'
  have hsz : arr'.size = arr.size := by
    rw [← Array.length_toList, ← Array.length_toList, r3]
    exact spl_length (by simp only [Array.length_toList]; omega)
  obtain ⟨s1, s2⟩ := Sat.write (w' := w') (B1 := B) (b1 := b0) (bs1 := bs) (g1 := g) (cs' := splice cs off new) hs ho hl hg (.inl ⟨rfl, rfl, rfl, rfl⟩) r2 (.inl rfl) (fun b _ hb => r5 b hb) (by omega) r7 r8 r9 (by omega)
    (by rw [splice_len2 hoff]; omega) (by rw [r3, spl_drop (by simp only [Array.length_toList]; omega)]; exact RelCs.splice2 e4 hr hn hoff) e5 (by rw [r3]; exact spl_one e6 h1) (tyKeep e1 r2 (fun b hb => r5 b hb)) (fun hK => by
      obtain ⟨q1, q2⟩ := hs.bty id B b0 bs hl (by rw [hg]; exact hK)
      obtain ⟨a, f, hh⟩ := hs.ty _ _ q1
      rw [e1] at hh
      cases hh
      exact ⟨rfl, q2⟩)
  exact ⟨_, s1, s2⟩

theorem mapBlock_at {B : Nat} {f : Array Value → Array Value} {arr : Array Value} {T : TypeId} {fr : Nat × Nat} (h : w.heap[B]? = some (.cells arr T fr)) : (mapBlock w B f).heap[B]? = some (.cells (f arr) T fr) := by
  simp [mapBlock, Array.getElem?_modify, h, onCells]
theorem mapBlock_ne {B k : Nat} {f : Array Value → Array Value} (h : k ≠ B) : (mapBlock w B f).heap[k]? = w.heap[k]? := by
  simp [mapBlock, Array.getElem?_modify, Ne.symm h]
theorem mapBlock_size {B : Nat} {f : Array Value → Array Value} : (mapBlock w B f).heap.size = w.heap.size := by simp [mapBlock]

/-- An object let go, its block turned as it may. -/
theorem Sat.drop {id B b c : Nat} (hs : Sat P M H 0 w) (hl : M.loc id = some (some (B, b, c))) (hi : M.imm B = none) {q : Ob} (ho : ob? H id = some q) (hk : ∀ k : Nat, k ≠ B → w'.heap[k]? = w.heap[k]?) (hsz : w'.heap.size = w.heap.size)
    (hty : ∀ a t f, w.heap[B]? = some (.cells a t f) → ∃ a' f', w'.heap[B]? = some (.cells a' t f')) (h1 : w'.os = w.os) (h2 : w'.tape = w.tape) (h3 : w'.output = w.output) :
    ∃ M', Sat P M' (setOb H id .dead) 0 w' ∧ Fr M M' w w' := by
  have hidn := hs.id_lt hl
  refine ⟨{ M with loc := fun j => if j = id then none else M.loc j, gen := fun j => if j = id then M.gen id + 1 else M.gen j }, ?_⟩
  have hext : Ext M { M with loc := fun j => if j = id then none else M.loc j, gen := fun j => if j = id then M.gen id + 1 else M.gen j } := ⟨fun _ _ h => h, Nat.le_refl _, fun j _ => by
    simp only
    split
    · rename_i e; subst e; omega
    · exact Nat.le_refl _, fun j l _ hgj hlj => by
    simp only at hgj ⊢
    split at hgj
    · rename_i e; subst e; omega
    · rename_i e; rw [if_neg e]; exact hlj, fun _ _ h => h⟩
  refine ⟨⟨by rw [setOb_length]; exact hs.n, ?_, ?_, ?_, ?_, ?_, ?_, ?_⟩, ⟨hext, h1, h2, h3, by omega, fun k _ hno => hk k (fun e => hno ⟨id, b, c, by rw [e]; exact hl⟩), ?_, fun B o ho => .inl ho⟩⟩
  · intro j hj
    have hj' : M.n ≤ j := hj
    simp only
    rw [if_neg (by omega), if_neg (by omega)]
    exact hs.out j hj'
  · intro k o hB'
    rw [hk k (fun e => by subst e; simp only at hB'; rw [hi] at hB'; cases hB')]
    exact hs.imm k o hB'
  · intro j l hj
    simp only at hj
    split at hj
    · cases hj
    · rename_i hne
      obtain ⟨o', ho', hos⟩ := hs.obj j l hj
      refine ⟨o', by rw [ob?_setOb_ne hne]; exact ho', ?_⟩
      cases l with
      | none =>
        cases o' <;> simp only [ObSat] at hos ⊢ <;> try (exact hos.elim)
        rw [if_neg hne]
        exact hos
      | some l =>
        obtain ⟨B', b', c'⟩ := l
        have hBB : B' ≠ B := fun e => hne (hs.inj j id B b' c' b c (by rw [← e]; exact hj) hl)
        exact obSat_move hext (by simp only; rw [if_neg hne]) (hk B' hBB) (fun h => h) hos
  · intro j q' hq hlj
    by_cases e : j = id
    · subst e
      rw [ob?_setOb_same ho] at hq
      cases hq
      exact .inl rfl
    · rw [ob?_setOb_ne e] at hq
      simp only at hlj ⊢
      rw [if_neg e] at hlj ⊢
      exact hs.idle j q' hq hlj
  · intro j j' B' b1 c1 b2 c2 e1 e2
    simp only at e1 e2
    split at e1 <;> try (cases e1; done)
    split at e2 <;> try (cases e2; done)
    exact hs.inj j j' B' b1 c1 b2 c2 e1 e2
  · intro B' t hb
    obtain ⟨a, f, hh⟩ := hs.ty B' t hb
    by_cases e : B' = B
    · subst e; exact hty a t f hh
    · exact ⟨a, f, by rw [hk B' e]; exact hh⟩
  · intro j B' b' c' hj hg
    simp only at hj hg
    split at hj
    · cases hj
    · rename_i e
      rw [if_neg e] at hg
      exact hs.bty j B' b' c' hj hg
  · rintro B' ⟨j, b', c', hj⟩
    simp only at hj
    split at hj
    · cases hj
    · exact .inl ⟨j, b', c', hj⟩
end

/-! ### A builder's check -/
def ccV : List V → Heap → Option (V × Heap)
  | [.c (.ptr id 0 0)], H => match ob? H id with
    | some (.cells (.bt id' t :: _) 0 false) => if id' = id ∧ t = 108 then some (.tup [], H) else none
    | _ => none
  | _, _ => none

theorem tupRel {M : MM} : RelV M (.tup []) (.tuple #[]) := by
  rw [relV_tup]; exact ⟨_, rfl, rfl, RelVs.nil _ _⟩

theorem ccV_ok {G : Nat → Option (List D)} {args : List V} {H H' : Heap} {v : V} (h : ccV args H = some (v, H')) : Enters Tryz.prog 88 ∧ HeapPrim Tryz.prog G 88 args H v H' := by
  refine ⟨⟨Tryz.f88, by kernel_rfl, by kernel_rfl, by kernel_rfl⟩, ?_⟩
  unfold ccV at h
  split at h <;> try (cases h; done)
  rename_i id
  split at h <;> try (cases h; done)
  rename_i id' t rest ho
  split at h <;> try (cases h; done)
  rename_i hc
  obtain ⟨hid, rfl⟩ := hc
  subst hid
  simp only [Option.some.injEq, Prod.mk.injEq] at h
  obtain ⟨rfl, rfl⟩ := h
  intro M w us hG hrel hlen hs
  match us, hlen, hrel with
  | [u1], _, hrel =>
    simp only [RelVs, and_true] at hrel
    rw [relV_c] at hrel
    obtain ⟨B, b0, bs, fz', hl, rfl, _⟩ := live_ptr hs (Sub.refl H) ho hrel
    obtain ⟨hg, arr, T, fr, e1, e2, e3, e4, e5, e6⟩ := hs.open ho hl
    obtain ⟨v0, hv0, hr0⟩ := RelCs.iff.1 e4 0 _ rfl
    have hr0' := hr0
    simp only [RelC] at hr0'
    obtain ⟨_, _, hB⟩ := hr0'
    obtain ⟨B', hl', hty, hv⟩ := hB hg
    rw [hl] at hl'
    simp only [Option.some.injEq, Prod.mk.injEq] at hl'
    obtain ⟨rfl, rfl, rfl⟩ := hl'
    obtain ⟨a, f, hh⟩ := hs.ty _ _ hty
    rw [e1] at hh
    cases hh
    rw [List.drop_zero, Array.getElem?_toList] at hv0
    have hcell : w.cell? ⟨B, 0, none⟩ = some v0 := by rw [Lib.cell_of_heap e1]; exact hv0
    rcases hv with rfl | rfl
    · have hcall := Any.Builder_copyCheck_fresh lays_n240 extraNm.toX72 B w hcell (by simp only [World.shape?, e1]; rw [e2]; rfl) (by
        have := e5 0 (by omega)
        simp only [World.frozen?, e1]
        simp only [Bool.and_eq_false_iff, decide_eq_false_iff_not]
        omega)
      refine hcall.mono fun e w' hh => ?_
      obtain ⟨rfl, rfl⟩ := hh
      rw [setCell_eq]
      have hnew : RelCs M [.bt id' 108] [.pointer (some ⟨B, 0, none⟩)] := by
        simp only [RelCs, RelC, and_true]
        exact ⟨hs.id_lt hl, .inr ⟨B, rfl⟩, fun _ => ⟨B, hl, hty, .inr rfl⟩⟩
      have hlen : 0 < arr.size := by omega
      obtain ⟨M', s1, s2⟩ := row_write (w' := mapBlock w B (·.setIfInBounds 0 (.pointer (some ⟨B, 0, none⟩)))) (off := 0) hs ho hl hnew rfl (Nat.zero_le _) (by simp only [List.length_cons, List.length_nil]; omega) (by simp [Value.oneCell']) e1 (mapBlock_at e1) (by
          rw [Array.toList_setIfInBounds]
          unfold spl
          match hal : arr.toList with
          | [] => rw [← Array.length_toList, hal] at hlen; simp at hlen
          | x :: xs => simp) (fun b hb => mapBlock_ne hb) mapBlock_size rfl rfl rfl
      have hsp : splice (C.bt id' 108 :: rest) 0 [.bt id' 108] = C.bt id' 108 :: rest := by simp [splice]
      rw [hsp, setOb_self ho] at s1
      exact ⟨_, M', rfl, tupRel, s1, s2⟩
    · have hcall := Any.Builder_copyCheck_used lays_n240 extraNm.toX72 B w hcell
      refine hcall.mono fun e w' hh => ?_
      obtain ⟨rfl, rfl⟩ := hh
      exact ⟨_, M, rfl, tupRel, hs, Fr.refl M w'⟩

/-! ### A builder's text -/
/-- A byte in a cell. -/
def byteX : C → Option Nat
  | .d (.int .u8 n) => if 0 ≤ n ∧ n < 256 then some n.toNat else none
  | _ => none
def bsV : List V → Heap → Option (V × Heap)
  | [.c (.ptr id 0 0)], H => match ob? H id with
    | some (.cells [.bt id' _, c1] 0 false) => if id' = id then match c1 with
        | .d .nils => some (Str [], H)
        | .os id2 g2 0 len 1 none => if genK ≤ g2 ∧ 0 < len ∧ len ≤ 1073741824 then match ob? H id2 with
          | some (.cells cs g3 false) => if g3 = g2 ∧ len ≤ cs.length then match mapO byteX (cs.take len) with
              | some s => some (Str s, setOb H id2 .dead)
              | none => none
            else none
          | _ => none
        else none
        | _ => none
      else none
    | _ => none
  | _, _ => none

theorem bytesX_cells {M : MM} : ∀ {cs : List C} {s : List Nat} {vs : List Value}, mapO byteX cs = some s → RelCs M cs vs → ∃ l : List UInt8, List.map UInt8.toNat l = s ∧ l.length = cs.length ∧ ∀ (j : Nat) x, l[j]? = some x → vs[j]? = some (.int .u8 x.toNat)
  | [], s, vs, h, _ => by
    simp only [mapO, Option.some.injEq] at h
    subst h
    exact ⟨[], rfl, rfl, by simp⟩
  | c :: cs, s, [], h, hr => by simp only [RelCs] at hr
  | c :: cs, s, v :: vs, h, hr => by
    simp only [mapO] at h
    split at h <;> try (cases h; done)
    rename_i y hy
    split at h <;> try (cases h; done)
    rename_i ys hys
    simp only [Option.some.injEq] at h
    subst h
    simp only [RelCs] at hr
    obtain ⟨l, h1, h2, h3⟩ := bytesX_cells (s := ys) hys hr.2
    unfold byteX at hy
    split at hy <;> try (cases hy; done)
    rename_i n
    split at hy <;> try (cases hy; done)
    rename_i hn
    simp only [Option.some.injEq] at hy
    subst hy
    have hv := hr.1
    simp only [RelC, RelD] at hv
    subst hv
    have e : (UInt8.ofNat n.toNat).toNat = n.toNat := by rw [UInt8.toNat_ofNat', Nat.mod_eq_of_lt (by omega)]
    refine ⟨UInt8.ofNat n.toNat :: l, by rw [List.map_cons, h1, e], by simp [h2], fun j x hx => ?_⟩
    cases j with
    | zero =>
      simp only [List.getElem?_cons_zero, Option.some.injEq] at hx ⊢
      subst hx
      rw [e]
      congr 1
      omega
    | succ j => simp only [List.getElem?_cons_succ] at hx ⊢; exact h3 j x hx

theorem freeze_ne {w : World} {g n k : Nat} (h : k ≠ g) : (w.freeze ⟨g, 0, none⟩ n).heap[k]? = w.heap[k]? := by
  unfold World.freeze
  split
  · rfl
  · simp [Array.getElem?_modify, Ne.symm h]
theorem freeze_at {w : World} {g n : Nat} {a : Array Value} {t : TypeId} {f : Nat × Nat} (h : w.heap[g]? = some (.cells a t f)) : ∃ f', (w.freeze ⟨g, 0, none⟩ n).heap[g]? = some (.cells a t f') := by
  unfold World.freeze
  split
  · exact ⟨f, h⟩
  · obtain ⟨lo, hi⟩ := f
    exact ⟨if lo == hi then (0, 0 + n) else (min lo 0, max hi (0 + n)), by simp [Array.getElem?_modify, h]⟩
theorem freeze_size {w : World} {g n : Nat} : (w.freeze ⟨g, 0, none⟩ n).heap.size = w.heap.size := by
  unfold World.freeze
  split <;> simp

theorem bsV_ok {G : Nat → Option (List D)} {args : List V} {H H' : Heap} {v : V} (h : bsV args H = some (v, H')) : Enters Tryz.prog 64 ∧ HeapPrim Tryz.prog G 64 args H v H' := by
  refine ⟨⟨Tryz.f64, by kernel_rfl, by kernel_rfl, by kernel_rfl⟩, ?_⟩
  unfold bsV at h
  split at h <;> try (cases h; done)
  rename_i id
  split at h <;> try (cases h; done)
  rename_i id' t c1 ho
  split at h <;> try (cases h; done)
  rename_i hid
  subst hid
  -- the builder's block
  have blk : ∀ (M : MM) (w : World) (u1 : Value), Sat Tryz.prog M H 0 w → RelC M (.ptr id' 0 0) u1 →
      ∃ B p v1 T fb, u1 = .pointer (some ⟨B, 0, none⟩) ∧ w.heap[B]? = some (.cells #[p, v1] T fb) ∧ RelC M c1 v1 := by
    intro M w u1 hs hrel
    obtain ⟨B, b0, bs, fz', hl, rfl, _⟩ := live_ptr hs (Sub.refl H) ho hrel
    obtain ⟨hg, arr, T, fr, e1, e2, e3, e4, e5, e6⟩ := hs.open ho hl
    obtain ⟨v0, hv0, hr0⟩ := RelCs.iff.1 e4 0 _ rfl
    obtain ⟨v1, hv1, hr1⟩ := RelCs.iff.1 e4 1 _ rfl
    have hr0' := hr0
    simp only [RelC] at hr0'
    obtain ⟨_, _, hB⟩ := hr0'
    obtain ⟨B', hl', _, _⟩ := hB hg
    rw [hl] at hl'
    simp only [Option.some.injEq, Prod.mk.injEq] at hl'
    obtain ⟨rfl, rfl, rfl⟩ := hl'
    have harr : arr = #[v0, v1] := by
      rw [List.drop_zero] at hv0 hv1
      have h2 : arr.toList.length = 2 := by rw [Array.length_toList]; exact e2
      apply Array.ext'
      match hal : arr.toList, h2 with
      | [x, y], _ =>
        rw [hal] at hv0 hv1
        simp only [List.getElem?_cons_zero, List.getElem?_cons_succ, Option.some.injEq] at hv0 hv1
        rw [hv0, hv1]
    rw [harr] at e1
    exact ⟨B, v0, v1, T, fr, rfl, e1, hr1⟩
  split at h <;> try (cases h; done)
  · simp only [Option.some.injEq, Prod.mk.injEq] at h
    obtain ⟨rfl, rfl⟩ := h
    intro M w us hG hrel hlen hs
    match us, hlen, hrel with
    | [u1], _, hrel =>
      simp only [RelVs, and_true] at hrel
      rw [relV_c] at hrel
      obtain ⟨B, p, v1, T, fb, rfl, e1, hr1⟩ := blk M w u1 hs hrel
      simp only [RelC, RelD] at hr1
      subst hr1
      have hcall := string_none lays_n169 extraNm B p T fb w e1
      refine hcall.mono fun e w' hh => ?_
      obtain ⟨rfl, rfl⟩ := hh
      exact ⟨_, M, rfl, strRel rfl, hs.drew, Fr.drew M w⟩
  · rename_i id2 g2 len
    split at h <;> try (cases h; done)
    rename_i hc
    obtain ⟨k1, k2, k3⟩ := hc
    split at h <;> try (cases h; done)
    rename_i cs g3 ho2
    split at h <;> try (cases h; done)
    rename_i hc2
    obtain ⟨rfl, k4⟩ := hc2
    split at h <;> try (cases h; done)
    rename_i s hs'
    simp only [Option.some.injEq, Prod.mk.injEq] at h
    obtain ⟨rfl, rfl⟩ := h
    intro M w us hG hrel hlen hs
    match us, hlen, hrel with
    | [u1], _, hrel =>
      simp only [RelVs, and_true] at hrel
      rw [relV_c] at hrel
      obtain ⟨B, p, v1, T, fb, rfl, e1, hr1⟩ := blk M w u1 hs hrel
      obtain ⟨ad, cp, rfl, hlc, _, hcase⟩ := live_os hs (Sub.refl H) ho2 hr1
      rcases hcase with ⟨_, _, rfl, _⟩ | ⟨Bf, b0, bs, fz', hl, ha, hbs, _⟩
      · omega
      · rcases ha with ha | rfl
        · omega
        · obtain ⟨hg, arr, Tf, fr, f1, f2, f3, f4, f5, f6⟩ := hs.open ho2 hl
          obtain ⟨hty, rfl⟩ := hs.bty id2 Bf b0 bs hl (by rw [hg]; exact k1)
          obtain ⟨a, f, hh⟩ := hs.ty _ _ hty
          rw [f1] at hh
          cases hh
          obtain ⟨l, q1, q2, q3⟩ := bytesX_cells hs' (f4.take len)
          have hll : l.length = len := by rw [q2, List.length_take]; omega
          rw [← hll] at e1 k2 k3 hlc
          have hcells : ∀ (j : Nat) x, l[j]? = some x → arr[j]? = some (.int .u8 x.toNat) := by
            intro j x hx
            have := q3 j x hx
            rw [List.drop_zero, Array.getElem?_toList] at this
            exact this
          have hcall := string_calls lays_n169 extraNm B Bf cp l p arr T fb fr w e1 (by intro e; rw [e] at k2; simp at k2) f1 hlc (by omega) (by omega) hcells
          have himm : M.imm Bf = none := by
            obtain ⟨o, ho3, hos⟩ := hs.obj _ _ hl
            rw [ho2] at ho3
            cases ho3
            simp only [ObSat] at hos
            obtain ⟨_, _, _, _, _, _, _, _, h6⟩ := hos
            rcases h6 with h6 | ⟨h6, _⟩
            · exact h6.2.1
            · cases h6
          obtain ⟨M', s1, s2⟩ := Sat.drop (w' := w.drew.freeze ⟨Bf, 0, none⟩ l.length) hs hl himm ho2 (fun k hk => freeze_ne (w := w.drew) hk) (freeze_size (w := w.drew)) (fun a t f hh => by
            obtain ⟨f', hf'⟩ := freeze_at (w := w.drew) (n := l.length) hh
            exact ⟨a, f', hf'⟩) (by unfold World.freeze; split <;> rfl) (by unfold World.freeze; split <;> rfl) (by unfold World.freeze; split <;> rfl)
          refine hcall.mono fun e w' hh => ?_
          obtain ⟨rfl, rfl⟩ := hh
          exact ⟨_, M', rfl, strRel (by rw [mk_bytes]; exact q1), s1, s2⟩

/-! ### Digits, laid into a row -/
def fbV : List V → Heap → Option (V × Heap)
  | [.c (.os id g off len 1 _), .c (.d (.int .u64 u))], H => match ob? H id with
    | some (.cells cs g' false) => if g' = g ∧ off + len ≤ cs.length ∧ 0 ≤ u ∧ u < 18446744073709551616 ∧ (decN u.toNat).length = len ∧ 0 < len ∧ len < 1000 ∧ (mapO byteX ((cs.drop off).take len)).isSome then
        some (.tup [], setOb H id (.cells (splice cs off (ofBytes (decN u.toNat))) g false)) else none
    | _ => none
  | _, _ => none
theorem putCells_spl (enc : UInt8 → Value) (off : Nat) (d : Array UInt8) (c : Array Value) (h : off + d.size ≤ c.size) : (putCells enc off d c).toList = spl c.toList off (d.toList.map enc) := by
  apply List.ext_getElem?
  intro k
  unfold putCells spl
  rw [Array.toList_mapIdx, List.getElem?_mapIdx]
  have hc : c.toList.length = c.size := Array.length_toList
  have hd : (d.toList.map enc).length = d.size := by simp
  rcases Nat.lt_or_ge k off with h1 | h1
  · rw [List.append_assoc, List.getElem?_append_left (by rw [List.length_take]; omega), List.getElem?_take, if_pos h1]
    cases c.toList[k]? with
    | none => rfl
    | some x => simp only [Option.map_some]; rw [if_neg (by omega)]
  · rcases Nat.lt_or_ge k (off + d.size) with h2 | h2
    · rw [List.append_assoc, List.getElem?_append_right (by rw [List.length_take]; omega), List.length_take, Nat.min_eq_left (by omega), List.getElem?_append_left (by omega)]
      have hk : k < c.toList.length := by omega
      rw [List.getElem?_eq_getElem hk]
      simp only [Option.map_some]
      rw [if_pos ⟨h1, h2⟩, List.getElem?_map, Array.getElem?_toList, Array.getElem?_eq_getElem (by omega)]
      simp only [Option.map_some]
      rw [getElem!_pos d (k - off) (by omega)]
    · rw [List.getElem?_append_right (by simp only [List.length_append, List.length_take]; omega), List.getElem?_drop]
      simp only [List.length_append, List.length_take, hd]
      rw [show off + d.size + (k - (min off c.toList.length + d.size)) = k by omega]
      cases c.toList[k]? with
      | none => rfl
      | some x => simp only [Option.map_some]; rw [if_neg (by omega)]

theorem decN_bound : ∀ (f n : Nat), n < 10 ^ (f + 1) → n < 10 ^ (decF f n).length
  | 0, n, h => by simpa [decF] using h
  | f + 1, n, h => by
    simp only [decF]
    split
    · rename_i hn; simpa using hn
    · have := decN_bound f (n / 10) (by rw [Nat.pow_succ] at h; omega)
      rw [List.length_append, List.length_cons, List.length_nil, Nat.zero_add, Nat.pow_succ]
      omega

theorem fbV_ok {G : Nat → Option (List D)} {args : List V} {H H' : Heap} {v : V} (h : fbV args H = some (v, H')) : Enters Tryz.prog 138 ∧ HeapPrim Tryz.prog G 138 args H v H' := by
  refine ⟨⟨Tryz.f138, by kernel_rfl, by kernel_rfl, by kernel_rfl⟩, ?_⟩
  unfold fbV at h
  split at h <;> try (cases h; done)
  rename_i id g off len cap u
  split at h <;> try (cases h; done)
  rename_i cs g' ho
  split at h <;> try (cases h; done)
  rename_i hc
  obtain ⟨rfl, k1, k2, k3, k4, k5, k6, k7⟩ := hc
  simp only [Option.some.injEq, Prod.mk.injEq] at h
  obtain ⟨rfl, rfl⟩ := h
  obtain ⟨n, rfl⟩ := Int.eq_ofNat_of_zero_le k2
  have hun : ((n : Nat) : Int).toNat = n := rfl
  rw [hun] at k4 ⊢
  have hn : n < 18446744073709551616 := by omega
  obtain ⟨s0, hs0⟩ := Option.isSome_iff_exists.1 k7
  intro M w us hG hrel hlen hs
  match us, hlen, hrel with
  | [u1, u2], _, hrel =>
    simp only [RelVs, and_true] at hrel
    obtain ⟨r1, r2⟩ := hrel
    obtain rfl := relInt r2
    rw [relV_c] at r1
    obtain ⟨ad, cp, rfl, hlc, _, hcase⟩ := live_os hs (Sub.refl H) ho r1
    rcases hcase with ⟨_, _, rfl, _⟩ | ⟨B, b0, bs, fz', hl, ha, hbs, _⟩
    · omega
    · rcases ha with ha | rfl
      · omega
      · obtain ⟨hg, arr, T, fr, f1, f2, f3, f4, f5, f6⟩ := hs.open ho hl
        have hrow := (f4.drop off).take' len
        rw [List.drop_drop] at hrow
        obtain ⟨l, q1, q2, q3⟩ := bytesX_cells hs0 hrow
        have hll : l.length = len := by rw [q2, List.length_take, List.length_drop]; omega
        have hH : Go.Sort.Holds (fun (b : UInt8) => Value.int .u8 (b.toNat : Int)) w B (b0 + off) l.toArray := by
          intro j hj
          have hj' : j < l.length := by simpa using hj
          have hx := q3 j l[j] (List.getElem?_eq_getElem hj')
          rw [List.getElem?_take, if_pos (by omega), List.getElem?_drop, Array.getElem?_toList] at hx
          refine ⟨?_, ?_⟩
          · rw [Lib.cell_of_heap f1, hx, getElem!_pos l.toArray j (by simpa using hj')]
            simp
          · have := f5 (b0 + off + j) (by omega)
            simp only [World.frozen?, f1]
            simp only [Bool.and_eq_false_iff, decide_eq_false_iff_not]
            omega
        have hp : (10 : Nat) ^ (20 + 1) = 1000000000000000000000 := by decide
        have hb := decN_bound 20 n (by omega)
        have hcall := Any.internal_strconv_formatBase10 lays_n285 B (b0 + off) cp n l.toArray w hH (by
          have : l.toArray.size = (decF 20 n).length := by
            have e : (decN n).length = (decF 20 n).length := rfl
            simp only [List.size_toArray]
            omega
          rw [this]; exact hb) hn (by simp only [List.size_toArray]; omega)
        have hsz : l.toArray.size = len := by simp [hll]
        rw [hsz] at hcall
        refine hcall.mono fun e w' hh => ?_
        obtain ⟨rfl, q, v', dk, rfl, hI⟩ := hh
        have hdk : dk.toList = Lib.decDigits n := by
          have hnd : Lib.nDigits n = len := by rw [nDigits_eq 20 n (by omega)]; exact k4
          have hds : dk.size = len := hI.size
          rw [Lib.decDigits_eq, hnd]
          apply List.ext_getElem?
          intro t
          rw [List.getElem?_map, Array.getElem?_toList]
          rcases Nat.lt_or_ge t len with ht | ht
          · rw [List.getElem?_range ht, Array.getElem?_eq_getElem (by omega)]
            simp only [Option.map_some]
            have := hI.done t (Nat.zero_le _) ht
            rw [getElem!_pos dk t (by omega)] at this
            rw [this]
          · rw [Array.getElem?_eq_none (by omega), List.getElem?_eq_none (by simpa using ht)]
            rfl
        have hds : dk.size = len := hI.size
        have hnew : RelCs M (ofBytes (decN n)) (dk.toList.map fun (b : UInt8) => Value.int .u8 (b.toNat : Int)) := by
          have e1 : decN n = List.map UInt8.toNat dk.toList := by rw [hdk, decF_eq 20 n (by omega)]; rfl
          rw [e1]
          have key : ∀ bs : List UInt8, RelCs M (ofBytes (List.map UInt8.toNat bs)) (bs.map fun (b : UInt8) => Value.int .u8 (b.toNat : Int)) := by
            intro bs
            induction bs with
            | nil => exact RelCs.nil _ _
            | cons b bs ih =>
              simp only [ofBytes, List.map_cons, RelCs, RelC, RelD]
              exact ⟨rfl, ih⟩
          exact key _
        have hlenN : (ofBytes (decN n)).length = (dk.toList.map fun (b : UInt8) => Value.int .u8 (b.toNat : Int)).length := by
          simp only [ofBytes, List.length_map, Array.length_toList]; omega
        obtain ⟨M', s1, s2⟩ := row_write (w' := (putRow (fun (b : UInt8) => Value.int .u8 (b.toNat : Int)) w B (b0 + off) dk).drewN q) (off := off) hs ho hl hnew hlenN (by omega) (by simp only [List.length_map, Array.length_toList]; omega) (by
            intro x hx
            simp only [List.mem_map] at hx
            obtain ⟨b, _, rfl⟩ := hx
            rfl) f1 (mapBlock_at (w := w) f1) (putCells_spl _ _ _ _ (by omega)) (fun b hb => mapBlock_ne (w := w) hb) (mapBlock_size (w := w)) rfl rfl rfl
        exact ⟨_, M', rfl, tupRel, s1, s2⟩
end Mini
end Go.Proofs.YtgjlofpfbhioaaaGreatDoor
