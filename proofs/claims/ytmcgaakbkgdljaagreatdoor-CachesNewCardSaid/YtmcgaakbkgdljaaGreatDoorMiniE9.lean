/-
  The operations that write, on: append. What a prepared place takes in.
-/
import Derived.Test.YtmcgaakbkgdljaaGreatDoorMiniE8
namespace Go.Proofs.YtmcgaakbkgdljaaGreatDoor
namespace Mini
open Go

section
variable {P : Program} {M : MM} {w w' : World} {k : K} {o : Oper} {lk : A → V} {ρ : Operand → Value} {Hi H H' : Heap}

/-- Slices and strings: what append takes. -/
def notInt : TypeDesc → Bool
  | .slice _ => true
  | .string => true
  | _ => false
theorem notInt_cases {d : TypeDesc} (h : notInt d = true) : (∃ e, d = .slice e) ∨ d = .string := by
  cases d <;> first | exact .inl ⟨_, rfl⟩ | exact .inr rfl | cases h

section
variable {argTypes : Array TypeId} {ty t u e : TypeId} {d : TypeDesc} {sz n sLen sCap : Nat} {base : Option Addr} {x : Value} {new old : List Value}

theorem run_append_fit (h0 : argTypes[0]? = some t) (hu : P.underlying t = some (.slice e)) (h1 : argTypes[1]? = some u) (hd : P.underlying u = some d) (hnd : notInt d = true) (hsz : size? P e = some sz)
    (hlen : (Builtin.lenOf x).run P w = .ok n w) (hnew : (Builtin.firstCells sz n x).run P w = .ok new.toArray w) (hroom : sLen + n ≤ sCap)
    (hst : (match base with | some a => storeCells (a.add (sLen * sz)) new | none => pure ()).run P w = .ok () w') :
    (Builtin.append_ argTypes ty #[.slice base sLen sCap, x]).run P w = .ok (.slice base (sLen + n) sCap) w' := by
  obtain ⟨i, hi, rfl⟩ := size?_spec hsz
  rcases notInt_cases hnd with ⟨e', rfl⟩ | rfl
  · cases base with
    | none =>
      simp only [Sem.run_pure, Result.ok.injEq, true_and] at hst
      subst hst
      simp [Builtin.append_, h0, run_underlying hu, h1, run_underlying hd, sizeOf, typeInfo, hi, hlen, hroom, hnew]
    | some a =>
      simp only at hst
      simp [Builtin.append_, h0, run_underlying hu, h1, run_underlying hd, sizeOf, typeInfo, hi, hlen, hroom, hnew, hst]
  · cases base with
    | none =>
      simp only [Sem.run_pure, Result.ok.injEq, true_and] at hst
      subst hst
      simp [Builtin.append_, h0, run_underlying hu, h1, run_underlying hd, sizeOf, typeInfo, hi, hlen, hroom, hnew]
    | some a =>
      simp only at hst
      simp [Builtin.append_, h0, run_underlying hu, h1, run_underlying hd, sizeOf, typeInfo, hi, hlen, hroom, hnew, hst]

theorem run_append_more {i : TypeInfo} {z : Value} (h0 : argTypes[0]? = some t) (hu : P.underlying t = some (.slice e)) (h1 : argTypes[1]? = some u) (hd : P.underlying u = some d) (hnd : notInt d = true) (hi : P.info? e = some i) (hz : i.zero = some z)
    (hlen : (Builtin.lenOf x).run P w = .ok n w) (hold : (Builtin.firstCells i.size sLen (.slice base sLen sCap)).run P w.drew = .ok old.toArray w.drew) (hnew : (Builtin.firstCells i.size n x).run P w.drew = .ok new.toArray w.drew)
    (hroom : sCap < sLen + n) (h63 : sLen + n ≤ 1073741824) (hb : i.bytes ≤ 65536) :
    (Builtin.append_ argTypes ty #[.slice base sLen sCap, x]).run P w = .ok (.slice (some ⟨w.heap.size, 0, none⟩) (sLen + n) (grownCap w (sLen + n) sCap e))
      (w.drew.alloc (.cells (old.toArray ++ new.toArray ++ Builtin.zeroCells z.cells (grownCap w (sLen + n) sCap e - (sLen + n))) e)) := by
  have hn : ¬ (sLen + n ≤ sCap) := by omega
  have h63' : ¬ (9223372036854775807 < ((sLen : Int) + (n : Int))) := by omega
  have hfit := growslice_fits (bytes := i.bytes) hroom (Nat.le_trans (Nat.mul_le_mul h63 hb) (by decide))
  have h48' : ¬ (281474976710656 < Builtin.nextslicecap (sLen + n) sCap * i.bytes) := by omega
  rcases notInt_cases hnd with ⟨e', rfl⟩ | rfl
  · simp [Builtin.append_, h0, run_underlying hu, h1, run_underlying hd, sizeOf, typeInfo, zeroValue, hi, hz, hlen, hn, h63', h48', Question.forced, hold, hnew, newRow, grownCap]
    congr 2
    apply Array.ext'
    simp [List.append_assoc]
  · simp [Builtin.append_, h0, run_underlying hu, h1, run_underlying hd, sizeOf, typeInfo, zeroValue, hi, hz, hlen, hn, h63', h48', Question.forced, hold, hnew, newRow, grownCap]
    congr 2
    apply Array.ext'
    simp [List.append_assoc]
end

theorem Sat.drew (hs : Sat P M H 0 w) : Sat P M H 0 w.drew := hs.heap rfl

theorem zeroCells_one {z : Array Value} {n : Nat} (hz : ∀ u ∈ z.toList, u.oneCell' = true) (hp : 0 < z.size) : ∀ u ∈ (Builtin.zeroCells z n).toList, u.oneCell' = true := made_one hz hp

/-- What the check says of an append's types. -/
theorem app_types {c : Call} {sz : Nat} (h : (match c.callee, c.argTypes[0]?, c.argTypes[1]? with
      | .builtin .append, some t, some u => (match P.underlying t, P.underlying u with
        | some (.slice e), some (.slice _) | some (.slice e), some .string => (size? P e == some sz) && (match bytes? P e with | some n => decide (n ≤ 65536) | none => false) && (match zero? P e with | some vs => (vs.length == sz) && vs.all Value.oneCell' | none => false)
        | _, _ => false)
      | _, _, _ => false) = true) :
    ∃ t u e d i z, c.callee = .builtin .append ∧ c.argTypes[0]? = some t ∧ c.argTypes[1]? = some u ∧ P.underlying t = some (.slice e) ∧ P.underlying u = some d ∧ notInt d = true ∧ P.info? e = some i ∧ i.size = sz ∧ i.zero = some z ∧
      i.bytes ≤ 65536 ∧ z.cells.size = sz ∧ ∀ u ∈ z.cells.toList, u.oneCell' = true := by
  have key : ∀ e, ((size? P e == some sz) && (match bytes? P e with | some n => decide (n ≤ 65536) | none => false) && (match zero? P e with | some vs => (vs.length == sz) && vs.all Value.oneCell' | none => false)) = true →
      ∃ i z, P.info? e = some i ∧ i.size = sz ∧ i.zero = some z ∧ i.bytes ≤ 65536 ∧ z.cells.size = sz ∧ ∀ u ∈ z.cells.toList, u.oneCell' = true := by
    intro e he
    simp only [Bool.and_eq_true, beq_iff_eq] at he
    obtain ⟨⟨k1, k2⟩, k3⟩ := he
    split at k2 <;> try (cases k2; done)
    rename_i nb hb
    split at k3 <;> try (cases k3; done)
    rename_i vs hz
    simp only [Bool.and_eq_true, beq_iff_eq, decide_eq_true_eq, List.all_eq_true] at k2 k3
    obtain ⟨i, z, e1, e2, e3⟩ := zero?_spec hz
    obtain ⟨i', e1', rfl⟩ := size?_spec k1
    obtain ⟨i'', e1'', rfl⟩ := bytes?_spec hb
    rw [e1] at e1' e1''
    cases e1'
    cases e1''
    exact ⟨i, z, e1, rfl, e2, k2, by rw [← Array.length_toList, e3]; exact k3.1, by rw [e3]; exact k3.2⟩
  split at h <;> try (cases h; done)
  rename_i t u hc ht hu
  split at h <;> try (cases h; done)
  · rename_i e _ d1 d2
    obtain ⟨i, z, k⟩ := key e h
    exact ⟨t, u, e, _, i, z, hc, ht, hu, d1, d2, rfl, k⟩
  · rename_i e d1 d2
    obtain ⟨i, z, k⟩ := key e h
    exact ⟨t, u, e, _, i, z, hc, ht, hu, d1, d2, rfl, k⟩

/-- A new row behind an append. -/
theorem app_new {sz n0 m _g : Nat} {new : List C} {old cells : List Value} {oldC : List C} {e : TypeId} {z : Array Value} {cap sc : Nat} (ho : RelCs M oldC old) (hol : old.length = n0 * sz) (hoc : oldC.length = n0 * sz)
    (hn : RelCs M new cells) (hcl : cells.length = m * sz) (hnl : new.length = m * sz) (h1 : ∀ u ∈ old, u.oneCell' = true) (h2 : ∀ u ∈ cells, u.oneCell' = true) (hz1 : ∀ u ∈ z.toList, u.oneCell' = true) (hzs : z.size = sz) (hsz : 0 < sz)
    (hcap : cap = grownCap w (n0 + m) sc e) :
    (let arr := old.toArray ++ cells.toArray ++ Builtin.zeroCells z (cap - (n0 + m))
     RelCs M (oldC ++ new) arr.toList ∧ (∀ u ∈ arr.toList, u.oneCell' = true) ∧ arr.size = cap * sz ∧ n0 + m ≤ cap ∧ (oldC ++ new).length = (n0 + m) * sz) := by
  have hge := grownCap_ge w (n0 + m) sc e
  rw [← hcap] at hge
  refine ⟨?_, ?_, ?_, hge, by rw [List.length_append, hoc, hnl, Nat.add_mul]⟩
  · simp only [Array.toList_append]
    exact RelCs.left (RelCs.append ho (by omega) hn)
  · intro u hu
    simp only [Array.toList_append, List.mem_append] at hu
    rcases hu with (hu | hu) | hu
    · exact h1 u hu
    · exact h2 u hu
    · exact zeroCells_one hz1 (by omega) u hu
  · simp only [Array.size_append, List.size_toArray, hol, hcl, size_zeroCells, hzs, ← Nat.add_mul]
    congr 1
    omega

theorem grow_case {id g' off len m : Nat} {cs new : List C} {x y : Value} {yv : V} {c : Call} {t u e : TypeId} {d : TypeDesc} {i : TypeInfo} {z : Value} (hs : Sat P M H 0 w) (h3 : 0 < i.size) (t0 : c.argTypes[0]? = some t) (t1 : c.argTypes[1]? = some u) (hu : P.underlying t = some (.slice e)) (hd : P.underlying u = some d) (hnd : notInt d = true)
    (hi : P.info? e = some i) (hz : i.zero = some z) (hb : i.bytes ≤ 65536) (hzs : z.cells.size = i.size) (hz1 : ∀ u ∈ z.cells.toList, u.oneCell' = true) (he : elems H i.size yv = some (m, new)) (r2 : RelV M yv y)
    (ho : ob? H id = some (.cells cs g' false)) (hcond : off + len * i.size ≤ cs.length) (hbig : len + m ≤ 1073741824) (hm : m ≠ 0) (r1 : RelC M (.os id g' off len i.size Option.none) x)
    (hexec : ∀ v' w', (Builtin.append_ c.argTypes o.type #[x, y]).run P w = .ok v' w' → (execOp ρ o).run P w = .ok (.value v') w') (hK : genK ≤ g' + 1 → genK ≤ g' ∧ e = u8T ∧ off = 0) :
    Eff P M (setOb H id (.cells ((cs.drop off).take (len * i.size) ++ new) (g' + 1) false)) w (execOp ρ o) (.c (.os id (g' + 1) 0 (len + m) i.size Option.none)) := by
  have hsz : size? P e = some i.size := by simp [size?, hi]
  obtain ⟨cells, e1, e2, e3, e4, e5, e6⟩ := elems_rel hs (Sub.refl H) h3 he r2
  obtain ⟨cellsD, f1, f2, f3, f4, f5, f6⟩ := elems_rel hs.drew (Sub.refl H) h3 he r2
  have e6 := e6 m (Nat.le_refl _)
  rw [List.take_of_length_le (by omega)] at e6
  have f6 := f6 m (Nat.le_refl _)
  rw [List.take_of_length_le (by omega)] at f6
  have hel : elems H i.size (.c (.os id g' off len i.size Option.none)) = some (len, (cs.drop off).take (len * i.size)) := by simp [elems, ho, hcond]
  obtain ⟨ad, cp, rfl, hlc, hcap, hcase⟩ := live_os hs (Sub.refl H) ho r1
  obtain ⟨oldsD, p1, p2, p3, p4, p5, p6⟩ := elems_rel hs.drew (Sub.refl H) h3 hel (by rw [relV_c]; exact r1)
  have p6 := p6 len (Nat.le_refl _)
  rw [List.take_of_length_le (by omega)] at p6
  have hgrow := fun (hr : cp < len + m) => run_append_more (ty := o.type) t0 hu t1 hd hnd hi hz e5 p6 f6 hr hbig hb
  have hnewrow := fun (hr : cp < len + m) => app_new (w := w) (M := M) (sz := i.size) (n0 := len) (m := m) (_g := 0) (sc := cp) (e := e) p3 p1 p2 f3 f1 f2 p4 f4 hz1 hzs h3 rfl
  by_cases hroom : len + m ≤ cp
  · -- in place
    rcases hcase with ⟨_, _, rfl, _⟩ | ⟨B, b0, bs, fz', hl, ha, hbs, _⟩
    · omega
    · rcases ha with ha | rfl
      · omega
      · have hmul : (len + m) * i.size ≤ cp * i.size := Nat.mul_le_mul_right _ hroom
        rw [Nat.add_mul] at hmul
        obtain ⟨hg, arr, T, fr, a1, a2, a3, a4, a5, a6⟩ := hs.open ho hl
        obtain ⟨w', arr', s1, s2, s3, s4, s5, s6, s7, s8, s9⟩ := run_storeCells_spl (P := P) cells (b0 + off + len * i.size) 0 arr w a1 (by omega) (by rw [a2]; exact a5) e4
        have hlen2 : ((cs.drop off).take (len * i.size) ++ new).length = (len + m) * i.size := by
          rw [List.length_append, seg_len hcond, e2, Nat.add_mul]
        have hrel : RelCs M ((cs.drop off).take (len * i.size) ++ new) (arr'.toList.drop (b0 + off)) := by
          rw [s3, Nat.add_zero, spl_drop (by simp only [Array.length_toList]; omega)]
          unfold spl
          refine RelCs.left (RelCs.append ?_ ?_ e3)
          · have := (a4.drop off).take' (len * i.size)
            rwa [List.drop_drop] at this
          · rw [seg_len hcond]
            simp only [List.length_take, List.length_drop, Array.length_toList]
            omega
        obtain ⟨q1, q2⟩ := Sat.write (w' := w') (B1 := B) (b1 := b0 + off) (bs1 := bs) (g1 := g' + 1) (cs' := (cs.drop off).take (len * i.size) ++ new) hs ho hl hg (.inr (by omega)) s2 (.inl rfl) (fun b _ hb => s5 b hb) (by omega) s7 s8 s9 (by omega)
          (by rw [hlen2, Nat.add_mul]; omega) hrel a5 (by rw [s3]; exact spl_one a6 e4) (tyKeep a1 s2 (fun b hb => s5 b hb)) (fun hk => by
            obtain ⟨q1, q2⟩ := hs.bty id B b0 bs hl (by rw [hg]; exact (hK hk).1)
            obtain ⟨a', f', hh⟩ := hs.ty _ _ q1
            rw [a1] at hh
            cases hh
            exact ⟨rfl, by rw [q2, (hK hk).2.2]⟩)
        refine ⟨_, w', _, hexec _ _ (run_append_fit t0 hu t1 hd hnd hsz e5 e6 hroom (by simp only [add_at]; exact s1)), .inl ⟨_, rfl, ?_⟩, q1, q2⟩
        rw [relV_c]
        simp only [RelC, MM.put, if_true]
        exact ⟨hs.id_lt hl, Nat.le_refl _, _, _, rfl, hroom, .inr ⟨_, _, rfl⟩, (fun k hk => by cases hk), fun _ => by simp only [OsAt]; exact ⟨.inr (by rw [Nat.add_zero]), by omega⟩⟩
  · -- a new row
    have hrun := hgrow (by omega)
    obtain ⟨g1, g2, g3, g4, g5⟩ := hnewrow (by omega)
    rcases hcase with ⟨hl, rfl, rfl, rfl⟩ | ⟨B, b0, bs, fz', hl, ha, hbs, _⟩
    · -- the object was a nil slice
      have hgen : M.gen id = g' := by
        obtain ⟨o', k1, k2⟩ := hs.obj id _ hl
        rw [ho] at k1
        cases k1
        simp only [ObSat] at k2
        exact k2.2
      obtain ⟨q1, q2⟩ := Sat.write0 (w' := w.drew.alloc (.cells (oldsD.toArray ++ cellsD.toArray ++ Builtin.zeroCells z.cells (grownCap w (len + m) 0 e - (len + m))) e)) (B1 := w.heap.size) (b1 := 0) (bs1 := grownCap w (len + m) 0 e * i.size) (g1 := g' + 1)
        (cs' := List.take (len * i.size) (List.drop off []) ++ new) hs ho hl hgen (.inr (by omega)) (T' := e) (fr' := (0, 0)) (arr' := oldsD.toArray ++ cellsD.toArray ++ Builtin.zeroCells z.cells (grownCap w (len + m) 0 e - (len + m)))
        (by show (w.heap.push _)[w.heap.size]? = _; simp) (.inr (Nat.le_refl _)) (fun b hb _ => by show (w.heap.push _)[b]? = _; rw [Array.getElem?_push, if_neg (Nat.ne_of_lt hb)]) (by show _ ≤ (w.heap.push _).size; simp)
        rfl rfl rfl g3 (by rw [g5, Nat.zero_add]; exact Nat.mul_le_mul_right _ g4) (by simpa using g1) (thawed0 _) g2 (tyGrow fun b hb => by show (w.heap.push _)[b]? = _; rw [Array.getElem?_push, if_neg (Nat.ne_of_lt hb)]) (fun hk => ⟨(hK hk).2.1, rfl⟩)
      refine ⟨_, _, _, hexec _ _ hrun, .inl ⟨_, rfl, ?_⟩, q1, q2⟩
      rw [relV_c]
      simp only [RelC, MM.put, if_true]
      exact ⟨hs.id_lt hl, Nat.le_refl _, _, _, rfl, g4, .inr ⟨_, _, rfl⟩, (fun k hk => by cases hk), fun _ => by simp only [OsAt]; exact ⟨.inr trivial, by omega⟩⟩
    · have hg := (hs.open ho hl).1
      obtain ⟨q1, q2⟩ := Sat.write (w' := w.drew.alloc (.cells (oldsD.toArray ++ cellsD.toArray ++ Builtin.zeroCells z.cells (grownCap w (len + m) cp e - (len + m))) e)) (B1 := w.heap.size) (b1 := 0) (bs1 := grownCap w (len + m) cp e * i.size) (g1 := g' + 1)
        (cs' := (cs.drop off).take (len * i.size) ++ new) hs ho hl hg (.inr (by omega)) (T' := e) (fr' := (0, 0)) (arr' := oldsD.toArray ++ cellsD.toArray ++ Builtin.zeroCells z.cells (grownCap w (len + m) cp e - (len + m)))
        (by show (w.heap.push _)[w.heap.size]? = _; simp) (.inr (Nat.le_refl _)) (fun b hb _ => by show (w.heap.push _)[b]? = _; rw [Array.getElem?_push, if_neg (Nat.ne_of_lt hb)]) (by show _ ≤ (w.heap.push _).size; simp)
        rfl rfl rfl g3 (by rw [g5, Nat.zero_add]; exact Nat.mul_le_mul_right _ g4) (by simpa using g1) (thawed0 _) g2 (tyGrow fun b hb => by show (w.heap.push _)[b]? = _; rw [Array.getElem?_push, if_neg (Nat.ne_of_lt hb)]) (fun hk => ⟨(hK hk).2.1, rfl⟩)
      refine ⟨_, _, _, hexec _ _ hrun, .inl ⟨_, rfl, ?_⟩, q1, q2⟩
      rw [relV_c]
      simp only [RelC, MM.put, if_true]
      exact ⟨hs.id_lt hl, Nat.le_refl _, _, _, rfl, g4, .inr ⟨_, _, rfl⟩, (fun k hk => by cases hk), fun _ => by simp only [OsAt]; exact ⟨.inr trivial, by omega⟩⟩

theorem e_app {sz : Nat} {a b : A} {E : Env} {v : V} (hs : Sat P M H 0 w) (hA : ∀ x a, okA k x a = true → RelV M (lk a) (ρ x)) (hok : okOp P k o (.app sz a b) = true) (h : stepE E lk H (.app sz a b) = some (v, H')) : Eff P M H' w (execOp ρ o) v := by
  cases hop : o.op <;> simp only [okOp, hop] at hok <;> try (cases hok; done)
  rename_i c
  rw [Bool.and_eq_true, Bool.and_eq_true] at hok
  obtain ⟨⟨h1, h2⟩, h3⟩ := hok
  rw [decide_eq_true_eq] at h3
  obtain ⟨x, y, hargs, r1, r2⟩ := call2 hA h2
  obtain ⟨t, u, e, d, i, z, hc, t0, t1, hu, hd, hnd, hi, rfl, hz, hb, hzs, hz1⟩ := app_types h1
  have hsz : size? P e = some i.size := by simp [size?, hi]
  simp only [stepE] at h
  split at h <;> try (cases h; done)
  rename_i m new he
  obtain ⟨cells, e1, e2, e3, e4, e5, e6⟩ := elems_rel hs (Sub.refl H) h3 he r2
  obtain ⟨cellsD, f1, f2, f3, f4, f5, f6⟩ := elems_rel hs.drew (Sub.refl H) h3 he r2
  have e6 := e6 m (Nat.le_refl _)
  rw [List.take_of_length_le (by omega)] at e6
  have f6 := f6 m (Nat.le_refl _)
  rw [List.take_of_length_le (by omega)] at f6
  have hexec : ∀ v' w', (Builtin.append_ c.argTypes o.type #[x, y]).run P w = .ok v' w' → (execOp ρ o).run P w = .ok (.value v') w' := by
    intro v' w' hrun
    exact exec_builtin hop hc (fun cs => rfl) (by rw [hargs]; exact hrun)
  -- nothing appended
  have none : ∀ ad len cp, x = .slice ad len cp → len ≤ cp → m = 0 → (execOp ρ o).run P w = .ok (.value x) w := by
    intro ad len cp hx hle hm
    subst hm hx
    have : cells = [] := List.eq_nil_of_length_eq_zero (by omega)
    subst this
    exact hexec _ _ (run_append_fit t0 hu t1 hd hnd hsz e5 e6 (by omega) (by cases ad <;> rfl))
  split at h <;> try (cases h; done)
  · rename_i hx
    rw [hx, relV_nils] at r1
    split at h
    · rename_i hm
      simp only [Option.some.injEq, Prod.mk.injEq] at h
      obtain ⟨rfl, rfl⟩ := h
      exact ⟨_, w, M, none _ _ _ r1 (Nat.le_refl _) hm, .inl ⟨_, rfl, by rw [relV_nils]; exact r1⟩, hs, Fr.refl M w⟩
    · rename_i hm
      split at h <;> try (cases h; done)
      rename_i hbig
      simp only [Option.some.injEq, Prod.mk.injEq] at h
      obtain ⟨rfl, rfl⟩ := h
      subst r1
      have hrun := run_append_more (ty := o.type) (old := []) (base := Option.none) (sLen := 0) (sCap := 0) t0 hu t1 hd hnd hi hz e5 (by simp [Builtin.firstCells]) f6 (by omega) (by omega) hb
      obtain ⟨g1, g2, g3, g4, g5⟩ := app_new (w := w) (M := M) (sz := i.size) (n0 := 0) (m := m) (_g := 0) (old := []) (oldC := []) (sc := 0) (e := e) (RelCs.nil _ _) (by simp) (by simp) f3 f1 f2 (by simp) f4 hz1 hzs h3 rfl
      have hw : Wide H (H ++ [Ob.cells new 0 false]) := ⟨by simp, fun id o ho => ⟨o, by rw [ob?_eq] at ho ⊢; rw [List.getElem?_append_left (List.getElem?_eq_some_iff.1 ho).1]; exact ho, Frz.refl o⟩⟩
      obtain ⟨s1, s2⟩ := hs.wide hw
      have hn0 : (M.more (H ++ [Ob.cells new 0 false]).length).loc H.length = Option.none := (hs.out _ (by rw [hs.n]; exact Nat.le_refl _)).1
      obtain ⟨s3, s4⟩ := Sat.alloc (X := fun _ => False) (w' := w.drew.alloc _) s1 (id := H.length) (cs := new) (fz := false) (by rw [ob?_eq, List.getElem?_append_right (Nat.le_refl _), Nat.sub_self]; rfl) hn0 rfl rfl rfl rfl (by simpa using RelCs.mono s2.ext g1) (thawed0 _) g2
      simp only [Nat.zero_add] at g4 hrun s3 s4 g3 ⊢
      refine ⟨_, _, _, hexec _ _ hrun, .inl ⟨_, rfl, ?_⟩, s3, s2.transX s4 (fun _ h => h.elim)⟩
      have hN : New (M.more (H ++ [Ob.cells new 0 false]).length) (H ++ [Ob.cells new 0 false]) H new := ⟨⟨false, by rw [ob?_eq, List.getElem?_append_right (Nat.le_refl _), Nat.sub_self]; rfl⟩, hn0⟩
      exact hN.slice s1 g4 (by rw [g3]; exact Nat.le_refl _) (fun k hk => by cases hk)
  · rename_i cs len hx
    rw [hx, relV_d] at r1
    split at h <;> try (cases h; done)
    rename_i hm
    simp only [Option.some.injEq, Prod.mk.injEq] at h
    obtain ⟨rfl, rfl⟩ := h
    have r1' := r1
    simp only [RelD] at r1'
    obtain ⟨ad, cp, hv, hle, _⟩ := r1'
    exact ⟨_, w, M, none _ _ _ hv hle hm, .inl ⟨_, rfl, by rw [relV_d]; exact r1⟩, hs, Fr.refl M w⟩
  · rename_i id g off len sz' cap hx
    rw [hx, relV_c] at r1
    split at h <;> try (cases h; done)
    rename_i cs g' fz ho
    split at h
    · rename_i hm
      simp only [Option.some.injEq, Prod.mk.injEq] at h
      obtain ⟨rfl, rfl⟩ := h
      have r1' := r1
      simp only [RelC] at r1'
      obtain ⟨_, _, ad, cp, hv, hle, _⟩ := r1'
      exact ⟨_, w, M, none _ _ _ hv hle hm.1, .inl ⟨_, rfl, by rw [relV_c]; exact r1⟩, hs, Fr.refl M w⟩
    · rename_i hm0
      split at h <;> try (cases h; done)
      rename_i hcond
      obtain ⟨rfl, rfl, hcond, hbig⟩ := hcond
      have hm : m ≠ 0 := fun h' => hm0 ⟨h', rfl⟩
      have hel : elems H i.size (.c (.os id g' off len i.size cap)) = some (len, (cs.drop off).take (len * i.size)) := by simp [elems, ho, hcond]
      obtain ⟨ad, cp, rfl, hlc, hcap, hcase⟩ := live_os hs (Sub.refl H) ho r1
      obtain ⟨oldsD, p1, p2, p3, p4, p5, p6⟩ := elems_rel hs.drew (Sub.refl H) h3 hel (by rw [relV_c]; exact r1)
      have p6 := p6 len (Nat.le_refl _)
      rw [List.take_of_length_le (by omega)] at p6
      have hgrow := fun (hr : cp < len + m) => run_append_more (ty := o.type) t0 hu t1 hd hnd hi hz e5 p6 f6 hr hbig hb
      have hnewrow := fun (hr : cp < len + m) => app_new (w := w) (M := M) (sz := i.size) (n0 := len) (m := m) (_g := 0) (sc := cp) (e := e) p3 p1 p2 f3 f1 f2 p4 f4 hz1 hzs h3 rfl
      split at h
      · rename_i cc
        have hcc : cp = cc := hcap cc rfl
        subst hcc
        split at h
        · rename_i hroom
          split at h <;> try (cases h; done)
          rename_i hfz
          simp only [Bool.not_eq_true] at hfz
          subst hfz
          simp only [Option.some.injEq, Prod.mk.injEq] at h
          obtain ⟨rfl, rfl⟩ := h
          rcases hcase with ⟨_, _, rfl, _⟩ | ⟨B, b0, bs, fz', hl, ha, hbs, _⟩
          · omega
          · rcases ha with ha | rfl
            · omega
            · have hmul : (len + m) * i.size ≤ cp * i.size := Nat.mul_le_mul_right _ hroom
              rw [Nat.add_mul] at hmul
              obtain ⟨w', M', s1, s2, s3, s4, s5⟩ := store_row (P := P) hs ho hl (off := off + len * i.size) e3 (by omega) (by omega) (by rw [e1]; omega) e4
              rw [← Nat.add_assoc] at s1
              refine ⟨_, w', M', hexec _ _ (run_append_fit t0 hu t1 hd hnd hsz e5 e6 hroom (by simp only [add_at]; exact s1)), .inl ⟨_, rfl, ?_⟩, s2, s3⟩
              rw [relV_c]
              have r2 := RelC.mono s3.ext r1
              simp only [RelC] at r2 ⊢
              obtain ⟨q1, q2, a', c', q3, q4, q5, q6, q7⟩ := r2
              cases q3
              exact ⟨q1, q2, _, _, rfl, hroom, q5, q6, q7⟩
        · rename_i hroom
          simp only [Option.some.injEq, Prod.mk.injEq] at h
          obtain ⟨rfl, rfl⟩ := h
          have hrun := hgrow (by omega)
          obtain ⟨g1, g2, g3, g4, g5⟩ := hnewrow (by omega)
          have hw : Wide H (H ++ [Ob.cells ((cs.drop off).take (len * i.size) ++ new) 0 false]) := ⟨by simp, fun id o ho => ⟨o, by rw [ob?_eq] at ho ⊢; rw [List.getElem?_append_left (List.getElem?_eq_some_iff.1 ho).1]; exact ho, Frz.refl o⟩⟩
          obtain ⟨s1, s2⟩ := hs.wide hw
          have hn0 : (M.more (H ++ [Ob.cells ((cs.drop off).take (len * i.size) ++ new) 0 false]).length).loc H.length = Option.none := (hs.out _ (by rw [hs.n]; exact Nat.le_refl _)).1
          obtain ⟨s3, s4⟩ := Sat.alloc (X := fun _ => False) (w' := w.drew.alloc _) s1 (id := H.length) (cs := (cs.drop off).take (len * i.size) ++ new) (fz := false) (by rw [ob?_eq, List.getElem?_append_right (Nat.le_refl _), Nat.sub_self]; rfl) hn0 rfl rfl rfl rfl (by simpa using RelCs.mono s2.ext g1) (thawed0 _) g2
          refine ⟨_, _, _, hexec _ _ hrun, .inl ⟨_, rfl, ?_⟩, s3, s2.transX s4 (fun _ h => h.elim)⟩
          have hN : New (M.more (H ++ [Ob.cells ((cs.drop off).take (len * i.size) ++ new) 0 false]).length) (H ++ [Ob.cells ((cs.drop off).take (len * i.size) ++ new) 0 false]) H _ := ⟨⟨false, by rw [ob?_eq, List.getElem?_append_right (Nat.le_refl _), Nat.sub_self]; rfl⟩, hn0⟩
          exact hN.slice s1 g4 (by rw [g3]; exact Nat.le_refl _) (fun k hk => by cases hk)
      · split at h <;> try (cases h; done)
        rename_i hfz
        simp only [Bool.not_eq_true] at hfz
        subst hfz
        split at h <;> try (cases h; done)
        rename_i hgk
        simp only [Option.some.injEq, Prod.mk.injEq] at h
        obtain ⟨rfl, rfl⟩ := h
        exact grow_case hs h3 t0 t1 hu hd hnd hi hz hb hzs hz1 he r2 ho hcond hbig hm r1 hexec (fun hK => by omega)

theorem e_apb {a b : A} {E : Env} {v : V} (hs : Sat P M H 0 w) (hA : ∀ x a, okA k x a = true → RelV M (lk a) (ρ x)) (hok : okOp P k o (.apb a b) = true) (h : stepE E lk H (.apb a b) = some (v, H')) : Eff P M H' w (execOp ρ o) v := by
  cases hop : o.op <;> simp only [okOp, hop] at hok <;> try (cases hok; done)
  rename_i c
  rw [Bool.and_eq_true, Bool.and_eq_true] at hok
  obtain ⟨⟨h1, h2⟩, h5⟩ := hok
  obtain ⟨x, y, hargs, r1, r2⟩ := call2 hA h2
  obtain ⟨t, u, e, d, i, z, hc, t0, t1, hu, hd, hnd, hi, his, hz, hb, hzs, hz1⟩ := app_types h1
  rw [t0] at h5
  simp only [hu, beq_iff_eq] at h5
  have h3 : 0 < i.size := by omega
  have hsz : size? P e = some i.size := by simp [size?, hi]
  simp only [stepE] at h
  rw [← his] at hzs
  split at h <;> try (cases h; done)
  rename_i m new he
  rw [← his] at he
  obtain ⟨cells, e1, e2, e3, e4, e5, e6⟩ := elems_rel hs (Sub.refl H) h3 he r2
  have e6 := e6 m (Nat.le_refl _)
  rw [List.take_of_length_le (by omega)] at e6
  have hexec : ∀ v' w', (Builtin.append_ c.argTypes o.type #[x, y]).run P w = .ok v' w' → (execOp ρ o).run P w = .ok (.value v') w' := by
    intro v' w' hrun
    exact exec_builtin hop hc (fun cs => rfl) (by rw [hargs]; exact hrun)
  split at h <;> try (cases h; done)
  rename_i id g off len sz' hx
  rw [hx, relV_c] at r1
  split at h <;> try (cases h; done)
  rename_i cs g' fz ho
  split at h
  · rename_i hm
    simp only [Option.some.injEq, Prod.mk.injEq] at h
    obtain ⟨rfl, rfl⟩ := h
    have r1' := r1
    simp only [RelC] at r1'
    obtain ⟨_, _, ad, cp, hv, hle, _⟩ := r1'
    obtain ⟨hm, _⟩ := hm
    subst hm
    have hc0 : cells = [] := List.eq_nil_of_length_eq_zero (by omega)
    subst hc0
    subst hv
    exact ⟨_, w, M, hexec _ _ (run_append_fit t0 hu t1 hd hnd hsz e5 e6 (by omega) (by cases ad <;> rfl)), .inl ⟨_, rfl, by rw [relV_c]; exact r1⟩, hs, Fr.refl M w⟩
  · rename_i hm0
    split at h <;> try (cases h; done)
    rename_i hcond
    obtain ⟨rfl, rfl, hcond, hbig⟩ := hcond
    have hm : m ≠ 0 := fun h' => hm0 ⟨h', rfl⟩
    split at h <;> try (cases h; done)
    rename_i hfz
    simp only [Bool.not_eq_true] at hfz
    subst hfz
    split at h <;> try (cases h; done)
    rename_i hgk
    simp only [Option.some.injEq, Prod.mk.injEq] at h
    obtain ⟨rfl, rfl⟩ := h
    have key := grow_case hs h3 t0 t1 hu hd hnd hi hz hb hzs hz1 he r2 ho (by rw [his]; exact hcond) hbig hm (by rw [his]; exact r1) hexec (fun _ => ⟨hgk.1, h5, hgk.2⟩)
    rw [his] at key
    exact key
end
end Mini
end Go.Proofs.YtmcgaakbkgdljaaGreatDoor
