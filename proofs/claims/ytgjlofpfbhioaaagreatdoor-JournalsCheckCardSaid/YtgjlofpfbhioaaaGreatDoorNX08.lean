/-
  JournalsCheck: texts of the proof, part 9.
-/
import Derived.Test.YtgjlofpfbhioaaaGreatDoorNX07
import Derived.MapKept
namespace Go.Proofs.YtgjlofpfbhioaaaGreatDoor
namespace Mini
open Go
section
variable {P : Program} {M : MM} {w w' : World} {k : K} {o : Oper} {lk : A → V} {ρ : Operand → Value} {H H' : Heap} {E : Env}
theorem bytes_eqB (a b : ByteArray) : (a == b) = (a.data.toList.map UInt8.toNat == b.data.toList.map UInt8.toNat) := by
  rw [Bool.eq_iff_iff, MapKept.bytes_beq, beq_iff_eq]
  exact ⟨fun h => by rw [h], bytes_inj⟩
theorem eqKey_str {s : List Nat} {k' : V} {b : Bool} (h : eqKey (.c (.d (.str s))) k' = some b) : ∃ s', k' = .c (.d (.str s')) ∧ (s == s') = b := by
  cases k' with
  | c x =>
    cases x with
    | d y =>
      cases y <;> simp [eqKey] at h
      exact ⟨_, rfl, by simpa using h⟩
    | _ => simp [eqKey] at h
  | _ => simp [eqKey] at h
theorem find_rel {bs : ByteArray} {s : List Nat} (hs : bs.data.toList.map UInt8.toNat = s) : ∀ {es : List (V × V)} {xs : List MapEntry} {r : Option V} (i : Nat), RelM M es xs → lookM (.c (.d (.str s))) es = some r →
    (r = none ∧ Instr.findNow .string (.string bs) xs i = some none) ∨ ∃ v j x, r = some v ∧ Instr.findNow .string (.string bs) xs i = some (some (i + j, x.val)) ∧ xs[j]? = some x ∧ RelV M v x.val
  | [], [], r, i, _, h => by
    simp only [lookM, Option.some.injEq] at h
    subst h
    exact .inl ⟨rfl, rfl⟩
  | [], _ :: _, _, _, hr, _ => by simp only [RelM] at hr
  | _ :: _, [], _, _, hr, _ => by simp only [RelM] at hr
  | (k', v') :: es, x :: xs, r, i, hr, h => by
    simp only [RelM] at hr
    obtain ⟨h1, h2, _, h3⟩ := hr
    unfold lookM at h
    cases hk : eqKey (.c (.d (.str s))) k' with
    | none => rw [hk] at h; cases h
    | some b =>
      rw [hk] at h
      obtain ⟨b', rfl, hkb⟩ := eqKey_str hk
      rw [relV_str] at h1
      obtain ⟨bs', hx, rfl⟩ := h1
      have hn : Instr.sameNow .string (.string bs) x.key = some b := by
        rw [hx]
        simp only [Instr.sameNow, bytes_eqB, hs, hkb]
      cases b with
      | true =>
        simp only [Option.some.injEq] at h
        subst h
        exact .inr ⟨v', 0, x, rfl, by simp [Instr.findNow, hn], rfl, h2⟩
      | false =>
        rcases find_rel hs (i + 1) h3 h with ⟨q1, q2⟩ | ⟨v, j, y, q1, q2, q3, q4⟩
        · exact .inl ⟨q1, by simp [Instr.findNow, hn, q2]⟩
        · exact .inr ⟨v, j + 1, y, q1, by simp [Instr.findNow, hn, q2]; omega, by simpa using q3, q4⟩
theorem RelM.push {kx v : V} {ku u : Value} {c : Nat} : ∀ {es : List (V × V)} {xs : List MapEntry}, RelM M es xs → RelV M kx ku → RelV M v u → kx.closed = true → RelM M (es ++ [(kx, v)]) (xs ++ [{ key := ku, val := u, born := c }])
  | [], [], _, h1, h2, h3 => by simp only [List.nil_append, RelM]; exact ⟨h1, h2, h3, trivial⟩
  | [], _ :: _, hr, _, _, _ => by simp only [RelM] at hr
  | _ :: _, [], hr, _, _, _ => by simp only [RelM] at hr
  | _ :: _, _ :: _, hr, h1, h2, h3 => by
    simp only [RelM, List.cons_append] at hr ⊢
    exact ⟨hr.1, hr.2.1, hr.2.2.1, RelM.push hr.2.2.2 h1 h2 h3⟩
theorem set_rel {bs : ByteArray} {s : List Nat} {v : V} {u : Value} (hs : bs.data.toList.map UInt8.toNat = s) (hv : RelV M v u) : ∀ {es es' : List (V × V)} {xs : List MapEntry} (i : Nat), RelM M es xs → setM (.c (.d (.str s))) v es = some es' →
    (Instr.findNow .string (.string bs) xs i = some none ∧ ∀ c, RelM M es' (xs ++ [{ key := .string bs, val := u, born := c }])) ∨ ∃ j x, Instr.findNow .string (.string bs) xs i = some (some (i + j, x.val)) ∧ xs[j]? = some x ∧ x.key = .string bs ∧ RelM M es' (xs.modify j fun e => { e with key := .string bs, val := u })
  | [], es', [], i, _, h => by
    simp only [setM, Option.some.injEq] at h
    subst h
    refine .inl ⟨rfl, fun c => ?_⟩
    simp only [List.nil_append, RelM]
    exact ⟨by rw [relV_str]; exact ⟨bs, rfl, hs⟩, hv, rfl, trivial⟩
  | [], _, _ :: _, _, hr, _ => by simp only [RelM] at hr
  | _ :: _, _, [], _, hr, _ => by simp only [RelM] at hr
  | (k', v') :: es, es', x :: xs, i, hr, h => by
    simp only [RelM] at hr
    obtain ⟨h1, h2, hc, h3⟩ := hr
    unfold setM at h
    cases hk : eqKey (.c (.d (.str s))) k' with
    | none => rw [hk] at h; cases h
    | some b =>
      rw [hk] at h
      obtain ⟨b', rfl, hkb⟩ := eqKey_str hk
      have h1' := h1
      rw [relV_str] at h1
      obtain ⟨bs', hx, rfl⟩ := h1
      have hn : Instr.sameNow .string (.string bs) x.key = some b := by
        rw [hx]
        simp only [Instr.sameNow, bytes_eqB, hs, hkb]
      cases b with
      | true =>
        simp only [Option.some.injEq] at h
        subst h
        rw [beq_iff_eq] at hkb
        have hbb : bs' = bs := bytes_inj (by rw [hs, ← hkb])
        refine .inr ⟨0, x, by simp [Instr.findNow, hn], rfl, by rw [hx, hbb], ?_⟩
        simp only [List.modify_zero_cons, RelM]
        exact ⟨by rw [relV_str]; exact ⟨bs, rfl, hs⟩, hv, rfl, h3⟩
      | false =>
        simp only [Option.map_eq_some_iff] at h
        obtain ⟨es2, h, rfl⟩ := h
        rcases set_rel hs hv (i + 1) h3 h with ⟨q1, q2⟩ | ⟨j, y, q1, q2, q3, q4⟩
        · refine .inl ⟨by simp [Instr.findNow, hn, q1], fun c => ?_⟩
          simp only [List.cons_append, RelM]
          exact ⟨h1', h2, hc, q2 c⟩
        · refine .inr ⟨j + 1, y, by simp [Instr.findNow, hn, q1]; omega, by simpa using q2, q3, ?_⟩
          simp only [List.modify_succ_cons, RelM]
          exact ⟨h1', h2, hc, q4⟩
theorem live_map (hs : Sat P M H 0 w) {id : Nat} {es : List (V × V)} (ho : ob? H id = some (.map es)) {v : Value} (hr : RelV M (.c (.mp id)) v) :
    ∃ B b c xs clock, v = .map (some B) ∧ M.loc id = some (some (B, b, c)) ∧ M.gen id = 0 ∧ w.heap[B]? = some (.map xs clock) ∧ M.imm B = none ∧ RelM M es xs.toList := by
  rw [relV_c] at hr
  simp only [RelC] at hr
  obtain ⟨hlt, B, rfl, h4⟩ := hr
  have hg : M.gen id = 0 := by
    cases hl : M.loc id with
    | none => exact (hs.idle id _ ho hl).resolve_left (by intro h; cases h)
    | some l =>
      obtain ⟨o', ho', hos⟩ := hs.obj id l hl
      rw [ho] at ho'
      cases ho'
      cases l with
      | none => simp [ObSat] at hos
      | some l => obtain ⟨B', b, c⟩ := l; simp only [ObSat] at hos; exact hos.1
  obtain ⟨b, c, hl⟩ := h4 hg
  obtain ⟨o', ho', hos⟩ := hs.obj id _ hl
  rw [ho] at ho'
  cases ho'
  simp only [ObSat] at hos
  obtain ⟨_, xs, cl, e1, _, e3, e4⟩ := hos
  exact ⟨B, b, c, xs, cl, rfl, hl, hg, e1, e3, e4⟩
theorem isKey_str (bs : ByteArray) : MapKept.IsKey .string (.string bs) := by simp [MapKept.IsKey]
theorem map_turn (hs : Sat P M H 0 w) {id B b c clock : Nat} {es es' : List (V × V)} {xs xs' : Array MapEntry} {clock' : Nat} (hl : M.loc id = some (some (B, b, c))) (hi : M.imm B = none) (hg : M.gen id = 0) (ho : ob? H id = some (.map es)) (hB : w.heap[B]? = some (.map xs clock)) (hr : RelM M es' xs'.toList) :
    Sat P M (setOb H id (.map es')) 0 { w with heap := w.heap.setIfInBounds B (.map xs' clock') } ∧ Fr M M w { w with heap := w.heap.setIfInBounds B (.map xs' clock') } := by
  obtain ⟨hsame, hkeep⟩ := MapKept.heap_set (o' := .map xs' clock') hB
  refine ⟨⟨by rw [setOb_length]; exact hs.n, hs.out, ?_, ?_, ?_, hs.inj, fun B' t hb => by
      obtain ⟨a, f, hh⟩ := hs.ty B' t hb
      exact ⟨a, f, by rw [hkeep B' (fun e => by subst e; rw [hB] at hh; cases hh)]; exact hh⟩, hs.bty⟩, ⟨Ext.refl M, rfl, rfl, rfl, by simp, fun B' _ hno => hkeep B' (fun e => hno ⟨id, b, c, by rw [e]; exact hl⟩), fun B h => .inl h, fun B o ho => .inl ho⟩⟩
  · intro B' o' hB'
    rw [hkeep B' (fun e => by subst e; rw [hi] at hB'; cases hB')]
    exact hs.imm B' o' hB'
  · intro j l hj
    by_cases e : j = id
    · subst e
      rw [hl, Option.some.injEq] at hj
      subst hj
      refine ⟨_, ob?_setOb_same ho, ?_⟩
      simp only [ObSat]
      exact ⟨hg, xs', clock', hsame, Nat.zero_le _, hi, hr⟩
    · obtain ⟨o', ho', hos⟩ := hs.obj j l hj
      refine ⟨o', by rw [ob?_setOb_ne e]; exact ho', hos.keep (Ext.refl M) rfl (fun B' b' c' hlb => ?_) (fun B' hB' => by rw [hkeep B' (fun e => by subst e; rw [hB] at hB'; cases hB')]; exact hB')⟩
      subst hlb
      exact ⟨hkeep B' (fun e' => e (hs.inj j id B b' c' b c (by rw [← e']; exact hj) hl)), fun x => x⟩
  · intro j q' hq' hlj
    by_cases e : j = id
    · subst e; rw [hl] at hlj; cases hlj
    · rw [ob?_setOb_ne e] at hq'
      exact hs.idle j q' hq' hlj
theorem e_mpu {m a b : A} {v : V} (hs : Sat P M H 0 w) (hA : ∀ x a, okA k x a = true → RelV M (lk a) (ρ x)) (hok : okOp P k o (.mpu m a b) = true) (h : stepE E lk H (.mpu m a b) = some (v, H')) : Eff P M H' w (execOp ρ o) v := by
  cases hop : o.op <;> simp only [okOp, hop] at hok <;> try (cases hok; done)
  rename_i t x y z
  simp only [Bool.and_eq_true] at hok
  obtain ⟨⟨⟨h1, h2⟩, h3⟩, h4⟩ := hok
  split at h1 <;> try (cases h1; done)
  rename_i kt et hu
  split at h1 <;> try (cases h1; done)
  rename_i hk
  have r1 := hA _ _ h2
  have r2 := hA _ _ h3
  have r3 := hA _ _ h4
  simp only [stepE] at h
  split at h <;> try (cases h; done)
  rename_i id s hx hks
  split at h <;> try (cases h; done)
  rename_i es ho
  split at h <;> try (cases h; done)
  simp only [Option.map_eq_some_iff, Prod.mk.injEq] at h
  obtain ⟨es', hset, rfl, rfl⟩ := h
  rw [hx] at r1
  obtain ⟨B, b0, c0, xs, clock, hv, hl, hg, hB, hi, hr⟩ := live_map hs ho r1
  rw [hks, relV_str] at r2
  obtain ⟨bs, hkv, hbs⟩ := r2
  have hck : (Instr.checkKey false 10000 kt (.string bs)).run P w = .ok () w := MapKept.run_checkKey hk (isKey_str bs) false 9999
  rcases set_rel (xs := xs.toList) hbs r3 0 hr hset with ⟨q1, q2⟩ | ⟨j, e, q1, q2, q3, q4⟩
  · obtain ⟨s1, s2⟩ := map_turn (xs' := xs.push { key := .string bs, val := ρ z, born := clock }) (clock' := clock + 1) hs hl hi hg ho hB (by simpa using q2 clock)
    refine ⟨.skip, _, M, ?_, .inr ⟨rfl, rfl⟩, s1, s2⟩
    simp [execOp, hop, hv, hkv, Instr.mapUpdate, run_underlying hu, MapKept.run_getObj_map hB, hck, MapKept.run_findKey hk q1, MapKept.run_setObj_map _ hB, Result.andThen]
  · have hj : xs[j]? = some e := by simpa using q2
    obtain ⟨s1, s2⟩ := map_turn (xs' := xs.modify j fun e => { e with key := .string bs, val := ρ z }) (clock' := clock) hs hl hi hg ho hB (by simpa using q4)
    refine ⟨.skip, _, M, ?_, .inr ⟨rfl, rfl⟩, s1, s2⟩
    rw [Nat.zero_add] at q1
    simp [execOp, hop, hv, hkv, Instr.mapUpdate, run_underlying hu, MapKept.run_getObj_map hB, hck, MapKept.run_findKey hk q1, hj, q3, MapKept.run_keyThatStays (isKey_str bs), MapKept.run_setObj_map _ hB, Result.andThen]
theorem e_lkp {ok : Bool} {zero : V} {m a : A} {v : V} (hs : Sat P M H 0 w) (hA : ∀ x a, okA k x a = true → RelV M (lk a) (ρ x)) (hok : okOp P k o (.lkp ok zero m a) = true) (h : stepE E lk H (.lkp ok zero m a) = some (v, H')) : Eff P M H' w (execOp ρ o) v := by
  cases hop : o.op <;> simp only [okOp, hop] at hok <;> try (cases hok; done)
  rename_i t x y ok'
  simp only [Bool.and_eq_true, beq_iff_eq] at hok
  obtain ⟨⟨⟨h1, rfl⟩, h2⟩, h3⟩ := hok
  split at h1 <;> try (cases h1; done)
  rename_i kt et hu
  simp only [Bool.and_eq_true] at h1
  obtain ⟨h1, h4⟩ := h1
  split at h1 <;> try (cases h1; done)
  rename_i hk
  split at h4 <;> try (cases h4; done)
  rename_i zv hz
  have hzr := okV_rel (M := M) h4
  obtain ⟨it, hz1, hz2⟩ : ∃ it, P.info? et = some it ∧ it.zero = some zv := by
    simp only [Option.bind_eq_some_iff] at hz
    exact hz
  have r1 := hA _ _ h2
  have r2 := hA _ _ h3
  simp only [stepE] at h
  split at h <;> try (cases h; done)
  rename_i id s hx hks
  split at h <;> try (cases h; done)
  rename_i es ho
  simp only [Option.map_eq_some_iff, Prod.mk.injEq] at h
  obtain ⟨r, hlook, rfl, rfl⟩ := h
  rw [hx] at r1
  obtain ⟨B, b0, c0, xs, clock, hv, hl, hg, hB, hi, hr⟩ := live_map hs ho r1
  rw [hks, relV_str] at r2
  obtain ⟨bs, hkv, hbs⟩ := r2
  have hck : ∀ e, (Instr.checkKey e 10000 kt (.string bs)).run P w = .ok () w := fun e => MapKept.run_checkKey hk (isKey_str bs) e 9999
  have hzero : (zeroValue et).run P w = .ok zv w := by simp [zeroValue, typeInfo, hz1, hz2]
  have out : ∀ (u : Value) (f : Bool), RelV M (r.getD zero) u → r.isSome = f → (Instr.lookup t (.map (some B)) (.string bs) ok').run P w = .ok (if ok' then .tuple #[u, .bool f] else u) w → Eff P M H w (execOp ρ o) (if ok' = true then .tup [r.getD zero, .c (.d (.bool r.isSome))] else r.getD zero) := by
    intro u f hu' hf hrun
    refine ⟨.value (if ok' then .tuple #[u, .bool f] else u), w, M, ?_, .inl ⟨_, rfl, ?_⟩, hs, Fr.refl M w⟩
    · simp [execOp, hop, hv, hkv, hrun, Result.andThen]
    · cases ok'
      · exact hu'
      · simp only [if_true]
        rw [relV_tup]
        refine ⟨_, rfl, rfl, ?_⟩
        simp only [RelVs, and_true]
        exact ⟨hu', by rw [relV_bool, hf]⟩
  rcases find_rel (xs := xs.toList) hbs 0 hr hlook with ⟨rfl, q2⟩ | ⟨v', j, e, rfl, q2, q3, q4⟩
  · refine out zv false hzr rfl ?_
    simp [Instr.lookup, run_underlying hu, MapKept.run_getObj_map hB, hck, MapKept.run_findKey hk q2, hzero, Result.andThen]
  · refine out e.val true q4 rfl ?_
    simp [Instr.lookup, run_underlying hu, MapKept.run_getObj_map hB, hck, MapKept.run_findKey hk q2, Result.andThen]
theorem RelM.len {M : MM} : ∀ {es : List (V × V)} {xs : List MapEntry}, RelM M es xs → es.length = xs.length
  | [], [], _ => rfl
  | [], _ :: _, hr => by simp only [RelM] at hr
  | _ :: _, [], hr => by simp only [RelM] at hr
  | _ :: _, _ :: _, hr => by
    simp only [RelM] at hr
    rw [List.length_cons, List.length_cons, RelM.len hr.2.2.2]
theorem e_lnm {a : A} {v : V} (hs : Sat P M H 0 w) (hA : ∀ x a, okA k x a = true → RelV M (lk a) (ρ x)) (hok : okOp P k o (.lnm a) = true) (h : stepE E lk H (.lnm a) = some (v, H')) : Eff P M H' w (execOp ρ o) v := by
  cases hop : o.op <;> simp only [okOp, hop] at hok <;> try (cases hok; done)
  rename_i c
  simp only [Bool.and_eq_true] at hok
  obtain ⟨h1, h2⟩ := hok
  obtain ⟨x, hargs, r1⟩ := call1 hA h2
  split at h1 <;> try (cases h1; done)
  rename_i t hc ht
  split at h1 <;> try (cases h1; done)
  rename_i kt et hu
  simp only [stepE] at h
  split at h <;> try (cases h; done)
  rename_i id hx
  split at h <;> try (cases h; done)
  rename_i es ho
  simp only [Option.some.injEq, Prod.mk.injEq] at h
  obtain ⟨rfl, rfl⟩ := h
  rw [hx] at r1
  obtain ⟨B, b0, c0, xs, clock, rfl, hl, hg, hB, hi, hr⟩ := live_map hs ho r1
  have hlen := RelM.len hr
  refine ⟨.value (.int .i64 es.length), w, M, ?_, .inl ⟨_, rfl, relV_int.2 rfl⟩, hs, Fr.refl M w⟩
  refine exec_builtin hop hc (fun cs => rfl) ?_
  rw [hargs]
  have hsz : xs.size = es.length := by rw [hlen, Array.length_toList]
  simp [Builtin.len_, ht, run_underlying hu, MapKept.run_getObj_map hB, goInt, hsz]
def MM.lay2 (M : MM) (id B : Nat) : MM := { M with loc := fun j => if j = id then some (some (B, 0, 0)) else M.loc j, n := id + 1 }
theorem e_mkm {v : V} (hs : Sat P M H 0 w) (hok : okOp P k o .mkm = true) (h : stepE E lk H .mkm = some (v, H')) : Eff P M H' w (execOp ρ o) v := by
  cases hop : o.op <;> simp only [okOp, hop] at hok <;> try (cases hok; done)
  rename_i t r
  cases r with
  | some _ => cases hok
  | none =>
  simp only [stepE, Option.some.injEq, Prod.mk.injEq] at h
  obtain ⟨rfl, rfl⟩ := h
  have hn := hs.n
  have hout := hs.out H.length (by omega)
  have hext : Ext M (M.lay2 H.length w.heap.size) := ⟨fun _ _ h => h, by simp only [MM.lay2]; omega, fun _ _ => Nat.le_refl _, fun id l hid _ hl => by simp only [MM.lay2]; rw [if_neg (by omega)]; exact hl, fun _ _ h => h⟩
  obtain ⟨hat, hkeep⟩ := MapKept.heap_alloc w (.map #[] 0)
  have hob : ∀ id, id < H.length → ob? (H ++ [.map []]) id = ob? H id := fun id hid => by rw [ob?_eq, ob?_eq, List.getElem?_append_left hid]
  refine ⟨.value (.map (some w.heap.size)), w.alloc (.map #[] 0), M.lay2 H.length w.heap.size, ?_, .inl ⟨_, rfl, ?_⟩, ⟨by simp only [MM.lay2, List.length_append, List.length_cons, List.length_nil], ?_, ?_, ?_, ?_, ?_, fun B t hb => by
      obtain ⟨a', f, hh⟩ := hs.ty B t hb
      exact ⟨a', f, by rw [hkeep B (Array.getElem?_eq_some_iff.1 hh).1]; exact hh⟩, fun id B b c hid hg => by
      simp only [MM.lay2] at hid hg
      split at hid
      · rename_i e; rw [e, hout.2] at hg; exact absurd hg (by decide)
      · exact hs.bty id B b c hid hg⟩, ⟨hext, rfl, rfl, rfl, by simp, fun B hB _ => hkeep B hB, ?_, fun B o ho => .inl ho⟩⟩
  · simp [execOp, hop, Instr.makeMap, Result.andThen]
  · rw [relV_c]
    simp only [RelC]
    exact ⟨Nat.lt_succ_self _, _, rfl, fun _ => ⟨0, 0, by simp [MM.lay2]⟩⟩
  · intro id hid
    simp only [MM.lay2] at hid ⊢
    rw [if_neg (by omega)]
    exact hs.out id (by omega)
  · intro B o' hB
    have := hs.imm B o' hB
    rw [hkeep B (Array.getElem?_eq_some_iff.1 this).1]
    exact this
  · intro id l hl
    simp only [MM.lay2] at hl
    split at hl
    · rename_i e
      subst e
      simp only [Option.some.injEq] at hl
      subst hl
      refine ⟨.map [], by rw [ob?_eq, List.getElem?_append_right (Nat.le_refl _), Nat.sub_self]; rfl, ?_⟩
      simp only [ObSat]
      exact ⟨hout.2, _, _, hat, Nat.zero_le _, hs.imm_lt (Nat.le_refl _), by simp [RelM]⟩
    · obtain ⟨o', ho, hos⟩ := hs.obj id l hl
      refine ⟨o', by rw [hob id (ob?_lt ho)]; exact ho, hos.keep hext rfl (fun B b c e => ?_) (fun B hB => by rw [hkeep B (Array.getElem?_eq_some_iff.1 hB).1]; exact hB)⟩
      subst e
      exact ⟨hkeep B (hs.block_lt ⟨id, b, c, hl⟩), fun x => x⟩
  · intro id o' ho hl
    simp only [MM.lay2] at hl ⊢
    split at hl
    · cases hl
    · rename_i hne
      rcases Nat.lt_or_ge id H.length with hlt | hge
      · rw [hob id hlt] at ho
        exact hs.idle id o' ho hl
      · exact .inr (hs.out id (by omega)).2
  · intro id id' B b c b' c' e1 e2
    simp only [MM.lay2] at e1 e2
    split at e1
    · rename_i h1
      split at e2
      · rename_i h2; rw [h1, h2]
      · simp only [Option.some.injEq, Prod.mk.injEq] at e1
        have := hs.block_lt ⟨id', b', c', e2⟩
        omega
    · split at e2
      · simp only [Option.some.injEq, Prod.mk.injEq] at e2
        have := hs.block_lt ⟨id, b, c, e1⟩
        omega
      · exact hs.inj id id' B b c b' c' e1 e2
  · rintro B ⟨id, b, c, hid⟩
    simp only [MM.lay2] at hid
    split at hid
    · simp only [Option.some.injEq, Prod.mk.injEq] at hid
      exact .inr (by omega)
    · exact .inl ⟨id, b, c, hid⟩
end
end Mini
end Go.Proofs.YtgjlofpfbhioaaaGreatDoor
namespace Go.Proofs.YtgjlofpfbhioaaaGreatDoor
namespace Mini
open Go
section
variable {P : Program} {M : MM} {w w' : World} {k : K} {o : Oper} {lk : A → V} {ρ : Operand → Value} {Hi H H' : Heap}
def O.apartOnes : O → Bool
  | .vc .. | .pc .. | .pre | .ini .. => true
  | _ => false
theorem a_all {p : O} {v : V} {n : List Ob} {X : Nat → Prop} (hs : Sat P M H 0 w) (hsub : noHeap p = false → (∀ g m a, p ≠ .ld g m a) → Sub Hi H)
    (hld : ∀ g m a, p = .ld g m a → ∀ id gen off, lk a = .c (.ptr id gen off) → ∀ o, ob? Hi id = some o → ∃ o', ob? H id = some o' ∧ Same o o')
    (hA : ∀ x a, okA k x a = true → RelV M (lk a) (ρ x)) (hc : ∀ x, ρ (.const x) = x) (hok : okOp P k o p = true) (hpe : p.eff = false) (hpa : p.apartOnes = false)
    (h : stepP lk Hi p = some (v, n)) (hn : ∀ cs g fz, n = [.cells cs g fz] → New M H Hi cs) : Did P M H w (execOp ρ o) v (fun id => n ≠ [] ∧ id = Hi.length) X := by
  cases p with
  | mov a => exact Quiet.did hs (q_mov hA hok h)
  | pick c a b => exact Quiet.did hs (q_pick hA hok h)
  | bin op a b => exact Quiet.did hs (q_bin hA hok h)
  | beq neg a b => exact Quiet.did hs (q_beq hA hok h)
  | isn neg a => exact Quiet.did hs (q_isn hA hc hok h)
  | eqa neg m a b => exact Quiet.did hs (q_eqa hA hok h)
  | un op a => exact Quiet.did hs (q_un hA hok h)
  | cvi kd a => exact Quiet.did hs (q_cvi hA hok h)
  | cvs a => exact Quiet.did hs (q_cvs hA hok h)
  | s2b a => exact (a_s2b hs hA hok h hn).imp (fun id hid => ⟨by intro e; subst e; simp only [stepP] at h; (repeat' split at h) <;> simp at h, hid⟩)
  | b2s a => exact Quiet.did hs (q_b2s hs (hsub rfl (fun _ _ _ e => by cases e)) hA hok h)
  | new z => exact (a_new hs hok h hn).imp (fun id hid => ⟨by intro e; subst e; simp only [stepP] at h; (repeat' split at h) <;> simp at h, hid⟩)
  | newb t => exact (a_newb hs hok h hn).imp (fun id hid => ⟨by intro e; subst e; simp only [stepP] at h; (repeat' split at h) <;> simp at h, hid⟩)
  | box a => exact (a_box hs hA hok h hn).imp (fun id hid => ⟨by intro e; subst e; simp only [stepP] at h; (repeat' split at h) <;> simp at h, hid⟩)
  | pre => cases hpa
  | ini m a => cases hpa
  | apn sz b => exact a_apn hs (hsub rfl (fun _ _ _ e => by cases e)) hA hc hok h hn
  | bld z ps => exact Quiet.did hs (q_bld hA hok h)
  | bsl len sz z ps => exact (a_bsl hs hA hok h hn).imp (fun id hid => ⟨by intro e; subst e; simp only [stepP] at h; (repeat' split at h) <;> simp at h, hid⟩)
  | ld g m a => exact Quiet.did hs (q_ld hs (hld g m a rfl) hA hok h)
  | fa off a => exact Quiet.did hs (q_fa hA hok h)
  | fld g off m a => exact Quiet.did hs (q_fld hA hok h)
  | ixp len sz a i => exact Quiet.did hs (q_ixp hA hok h)
  | ixa sz a i => exact Quiet.did hs (q_ixa hA hok h)
  | ixs a i => exact Quiet.did hs (q_ixs hA hok h)
  | ixg g len sz a i => exact Quiet.did hs (q_ixg hA hok h)
  | sls a lo hi => exact Quiet.did hs (q_sls hA hok h)
  | slc sz a lo hi mx => exact Quiet.did hs (q_slc hA hok h)
  | slp len sz a lo hi mx => exact Quiet.did hs (q_slp hs (hsub rfl (fun _ _ _ e => by cases e)) hA hok h)
  | mks sz b z l c => exact (a_mks hs hA hok h hn).imp (fun id hid => ⟨by intro e; subst e; simp only [stepP] at h; (repeat' split at h) <;> simp at h, hid⟩)
  | ext a i => exact Quiet.did hs (q_ext hA hok h)
  | len a => exact Quiet.did hs (q_len hA hok h)
  | lns a => exact Quiet.did hs (q_lns hA hok h)
  | cap a => exact Quiet.did hs (q_cap hA hok h)
  | mm mx a b => exact Quiet.did hs (q_mm hA hok h)
  | mkf f first caps => exact Quiet.did hs (q_mkf hA hok h)
  | mki a => exact Quiet.did hs (q_mki hA hok h)
  | nlc a =>
    refine Quiet.did hs (q_nlc hA hok h ?_)
    intro id g off x hx r
    rw [hx, relV_c] at r
    simp only [RelC] at r
    obtain ⟨_, _, ⟨B, y, rfl⟩, _⟩ := r
    exact ⟨_, rfl⟩
  | vc f args => cases hpa
  | pc f args => cases hpa
  | st m a b => cases hpe
  | app sz a b => cases hpe
  | apb a b => cases hpe
  | cpy sz a b => cases hpe
  | hc f args => cases hpe
  | bc f a args => cases hpe
  | pan => cases hpe
  | mkm => cases hpe
  | mpu m k v => cases hpe
  | lkp ok z m k => cases hpe
  | lnm a => cases hpe
theorem stepP_news {p : O} {v : V} {n : List Ob} (h : stepP lk Hi p = some (v, n)) : n = [] ∨ ((∃ cs, n = [.cells cs 0 false]) ∧ noHeap p = false ∧ ∀ g m a, p ≠ .ld g m a) := by
  have none' : ∀ {α : Type} {x : Option α} {f : α → V}, (x.map fun z => (f z, ([] : List Ob))) = some (v, n) → n = [] := by
    intro α x f hx
    simp only [Option.map_eq_some_iff, Prod.mk.injEq] at hx
    obtain ⟨_, _, _, rfl⟩ := hx
    rfl
  cases p with
  | newb t =>
    simp only [stepP, Option.some.injEq, Prod.mk.injEq] at h
    obtain ⟨_, rfl⟩ := h
    exact .inr ⟨⟨_, rfl⟩, rfl, fun _ _ _ e => by cases e⟩
  | bsl len sz z ps =>
    simp only [stepP, Option.map_eq_some_iff, Prod.mk.injEq] at h
    obtain ⟨cs, _, _, rfl⟩ := h
    exact .inr ⟨⟨_, rfl⟩, rfl, fun _ _ _ e => by cases e⟩
  | _ =>
    simp only [stepP] at h
    repeat' split at h
    all_goals first
      | (cases h; done)
      | exact .inl (none' h)
      | (simp only [Option.some.injEq, Prod.mk.injEq] at h
         obtain ⟨_, rfl⟩ := h
         first | exact .inl rfl | exact .inr ⟨⟨_, rfl⟩, rfl, fun _ _ _ e => by cases e⟩)
end
end Mini
end Go.Proofs.YtgjlofpfbhioaaaGreatDoor
namespace Go.Proofs.YtgjlofpfbhioaaaGreatDoor
namespace Mini
open Go
def tsOf (val : Nat → V) : Nat → List V
  | 0 => []
  | i + 1 => val i :: tsOf val i
theorem nth_tsOf (val : Nat → V) : ∀ (i k : Nat), nth (tsOf val i) k = if k < i then val (i - 1 - k) else .any
  | 0, k => by simp [tsOf, nth]
  | i + 1, 0 => by simp [tsOf, nth]
  | i + 1, k + 1 => by
    simp only [tsOf, nth, nth_tsOf val i k]
    by_cases h : k < i
    · rw [if_pos h, if_pos (by omega)]; congr 1; omega
    · rw [if_neg h, if_neg (by omega)]
theorem tsOf_congr {val val' : Nat → V} : ∀ (i : Nat), (∀ j, j < i → val j = val' j) → tsOf val i = tsOf val' i
  | 0, _ => rfl
  | i + 1, h => by simp only [tsOf]; rw [h i (by omega), tsOf_congr i (fun j hj => h j (by omega))]
def Ran1 (E : Env) (regs : List V) (val : Nat → V) (hp : Nat → Heap) (i : Nat) (p : Gp) : Prop :=
  (wants (tsOf val i) p.guard = some false ∧ val i = .tup [] ∧ hp (i + 1) = hp i) ∨
  (wants (tsOf val i) p.guard = some true ∧ step E (look E regs (tsOf val i)) (hp i) p.op = some (val i, hp (i + 1)))
theorem runOps_ran {E : Env} {regs : List V} : ∀ (ps : List Gp) (i0 : Nat) (val0 : Nat → V) (H : Heap) (ts' : List V) (H' : Heap), runOps E regs ps (tsOf val0 i0) H = some (ts', H') →
    ∃ (val : Nat → V) (hp : Nat → Heap), (∀ j, j < i0 → val j = val0 j) ∧ hp i0 = H ∧ (∀ i p, ps[i]? = some p → Ran1 E regs val hp (i0 + i) p) ∧ ts' = tsOf val (i0 + ps.length) ∧ H' = hp (i0 + ps.length)
  | [], i0, val0, H, ts', H', h => by
    simp only [runOps, Option.some.injEq, Prod.mk.injEq] at h
    exact ⟨val0, fun _ => H, fun _ _ => rfl, rfl, by simp, h.1.symm, h.2.symm⟩
  | p :: ps, i0, val0, H, ts', H', h => by
    have key : ∀ (v : V) (H1 : Heap), runOps E regs ps (v :: tsOf val0 i0) H1 = some (ts', H') →
        ((wants (tsOf val0 i0) p.guard = some false ∧ v = .tup [] ∧ H1 = H) ∨ (wants (tsOf val0 i0) p.guard = some true ∧ step E (look E regs (tsOf val0 i0)) H p.op = some (v, H1))) →
        ∃ (val : Nat → V) (hp : Nat → Heap), (∀ j, j < i0 → val j = val0 j) ∧ hp i0 = H ∧ (∀ i p', (p :: ps)[i]? = some p' → Ran1 E regs val hp (i0 + i) p') ∧ ts' = tsOf val (i0 + (p :: ps).length) ∧ H' = hp (i0 + (p :: ps).length) := by
      intro v H1 hrun hstep
      have e : v :: tsOf val0 i0 = tsOf (fun j => if j = i0 then v else val0 j) (i0 + 1) := by
        simp only [tsOf, if_true]
        rw [tsOf_congr i0 (val := val0) (val' := fun j => if j = i0 then v else val0 j) (fun j hj => (if_neg (by omega)).symm)]
      rw [e] at hrun
      obtain ⟨val, hp, h1, h2, h3, h4, h5⟩ := runOps_ran ps (i0 + 1) _ H1 ts' H' hrun
      have hv : val i0 = v := by rw [h1 i0 (by omega), if_pos rfl]
      have hts : tsOf val i0 = tsOf val0 i0 := tsOf_congr i0 (fun j hj => by rw [h1 j (by omega), if_neg (by omega)])
      refine ⟨val, fun j => if j = i0 then H else hp j, fun j hj => by rw [h1 j (by omega), if_neg (by omega)], by simp, ?_, ?_, ?_⟩
      · intro i p' hp'
        cases i with
        | zero =>
          simp only [List.getElem?_cons_zero, Option.some.injEq] at hp'
          subst hp'
          simp only [Ran1, Nat.add_zero, hts, hv, if_true]
          rw [if_neg (by omega), h2]
          exact hstep
        | succ i =>
          simp only [List.getElem?_cons_succ] at hp'
          have := h3 i p' hp'
          simp only [Ran1] at this ⊢
          rw [if_neg (by omega), if_neg (by omega), show i0 + (i + 1) = i0 + 1 + i by omega]
          exact this
      · rw [h4]; congr 1; simp only [List.length_cons]; omega
      · simp only [List.length_cons]; rw [if_neg (by omega), h5]; congr 1; omega
    simp only [runOps] at h
    split at h <;> try (cases h; done)
    · rename_i hw
      exact key _ _ h (.inl ⟨hw, rfl, rfl⟩)
    · rename_i hw
      split at h <;> try (cases h; done)
      rename_i v H1 hs
      exact key _ _ h (.inr ⟨hw, hs⟩)
theorem okAll_get {P : Program} {tm : List Nat} {nt : Nat} {draw : Bool} {cl : List Nat} {ops : List Oper} {ps : List Gp} {loc raw : List (Option Nat)} {aps : List (A × A)} : ∀ (os : List Oper) (qs : List Gp) (i0 : Nat), okAll P tm nt draw cl ops ps loc raw aps i0 os qs = true →
    os.length = qs.length ∧ ∀ (i : Nat) (o : Oper) (p : Gp), os[i]? = some o → qs[i]? = some p → okOne P tm nt draw cl ops ps loc raw aps (i0 + i) o p = true
  | [], [], _, _ => ⟨rfl, by intro i o p h; simp at h⟩
  | [], _ :: _, _, h => by simp [okAll] at h
  | _ :: _, [], _, h => by simp [okAll] at h
  | o :: os, p :: qs, i0, h => by
    simp only [okAll, Bool.and_eq_true] at h
    obtain ⟨h1, h2⟩ := okAll_get os qs (i0 + 1) h.2
    refine ⟨by simp [h1], fun i o' p' ho hp => ?_⟩
    cases i with
    | zero => simp only [List.getElem?_cons_zero, Option.some.injEq] at ho hp; subst ho; subst hp; exact h.1
    | succ i => simp only [List.getElem?_cons_succ] at ho hp; rw [show i0 + (i + 1) = i0 + 1 + i by omega]; exact h2 i o' p' ho hp
structure Cx where
  P : Program
  tm : List Nat
  nt : Nat
  draw : Bool
  ops : List Oper
  ps : List Gp
  aps : List (A × A)
namespace Cx
variable (X : Cx)
def n : Nat := X.ops.length
def cl : List Nat := clos X.ops []
def loc : List (Option Nat) := (List.range X.n).map (locOf X.ops X.ps)
def raw : List (Option Nat) := X.ops.map (·.dst)
def ah (i j : Nat) : Bool := ahead X.draw X.cl i j
def k (i : Nat) : K := ⟨i, X.tm, X.loc, X.raw, fun j => X.ah j i⟩
end Cx
structure One (X : Cx) (i : Nat) (o : Oper) (p : Gp) : Prop where
  body : (∀ m a, p.op ≠ .ini m a) → okOp X.P (X.k i) o p.op = true
  ini : ∀ m a, p.op = .ini m a → ∃ j t x y o' t', partner X.ops X.ps i = some j ∧ 0 < m ∧ o.op = .store t x y ∧ size? X.P t = some m ∧ okA (X.k i) y a = true ∧ o.guard = none ∧ X.ah j i = true ∧
    (∀ i', i' < X.n → partner X.ops X.ps i' = some j → i' = i) ∧ X.ops[j]? = some o' ∧ o'.op = .alloc t' ∧ size? X.P t' = some m ∧ (∀ vs, zero? X.P t' = some vs → vs.length = m) ∧ o'.guard = none
  guard0 : p.guard = none → o.guard = none
  guard1 : ∀ g b, p.guard = some (g, b) → o.guard = some (i - 1 - g, b) ∧ g < i ∧ X.ah (i - 1 - g) i = true ∧ ∃ o' t, X.ops[i - 1 - g]? = some o' ∧ o'.dst = some t ∧ X.loc[i - 1 - g]? = some (some t)
  dst : ∀ t, o.dst = some t → t < X.nt ∧ ∀ j, j < i → X.raw[j]? ≠ some (some t)
  reads : ∀ t, .tmp t ∈ o.op.operands → ∀ j, j < X.n → j = i ∨ X.raw[j]? ≠ some (some t) ∨ X.ah j i = true ∨ X.ah i j = true
  after : ∀ e ∈ o.after, Region.binds .any e = true → e.on < i
  sel : ∀ cs b, o.op ≠ .select cs b
  dfr : ∀ c, o.op ≠ .defer c
  eff : p.op.eff = true → ∀ j q, X.ps[j]? = some q → j < X.n → j = i ∨ noHeap q.op = true ∨ X.ah i j = true ∨ X.ah j i = true ∨ inAps X.n j i q.op p.op X.aps = true
theorem mem_regsOf : ∀ {xs : List Operand} {t : Nat}, .tmp t ∈ xs → t ∈ regsOf xs
  | x :: xs, t, h => by
    rcases List.mem_cons.1 h with h | h
    · subst h; simp [regsOf]
    · have := mem_regsOf h
      cases x <;> simp [regsOf, this]
theorem one_of {X : Cx} {i : Nat} {o : Oper} {p : Gp} (h : okOne X.P X.tm X.nt X.draw X.cl X.ops X.ps X.loc X.raw X.aps i o p = true) : One X i o p := by
  unfold okOne at h
  simp only [Bool.and_eq_true] at h
  obtain ⟨⟨⟨⟨⟨⟨⟨h1, h2⟩, h3⟩, h4⟩, h5⟩, h6⟩, h7⟩, h8⟩ := h
  refine ⟨?_, ?_, ?_, ?_, ?_, ?_, ?_, fun cs b e => (by rw [e] at h7; cases h7), fun c e => (by rw [e] at h7; cases h7), ?_⟩
  · intro hne
    split at h1
    · rename_i m a he; exact absurd he (hne m a)
    · exact h1
  · intro m a he
    rw [he] at h1
    simp only at h1
    split at h1 <;> try (cases h1; done)
    rename_i j hj
    simp only [Bool.and_eq_true, decide_eq_true_eq] at h1
    obtain ⟨⟨⟨⟨⟨a1, a2⟩, a3⟩, a4⟩, a5⟩, a6⟩ := h1
    split at a2 <;> try (cases a2; done)
    rename_i t x y hop
    simp only [Bool.and_eq_true, beq_iff_eq] at a2
    split at a6 <;> try (cases a6; done)
    rename_i o' ho'
    simp only [Bool.and_eq_true] at a6
    obtain ⟨a6, a7⟩ := a6
    split at a6 <;> try (cases a6; done)
    rename_i t1 t2 x2 y2 hop1 hop2
    rw [hop] at hop2
    cases hop2
    simp only [Bool.and_eq_true, beq_iff_eq] at a6
    obtain ⟨a8, a9⟩ := a6
    refine ⟨j, t, x, y, o', t1, hj, a1, hop, a2.1, a2.2, by simpa using a3, a4, ?_, ho', hop1, by rw [a8]; exact a2.1, ?_, by simpa using a7⟩
    · intro i' hi' hp'
      simp only [List.all_eq_true, List.mem_range] at a5
      have := a5 i' hi'
      simp only [Bool.or_eq_true, beq_iff_eq, bne_iff_ne, ne_eq] at this
      rcases this with h | h
      · exact h
      · exact absurd hp' h
    · intro vs hvs
      rw [hvs] at a9
      simp only [beq_iff_eq] at a9
      rw [a8, a2.1] at a9
      exact Option.some.inj a9
  · intro hg
    rw [hg] at h2
    unfold okGuard at h2
    split at h2 <;> first | rfl | (cases h2; done) | skip
    · assumption
    · rename_i hh; cases hh
  · intro g b hg
    rw [hg] at h2 h3
    simp only [Bool.and_eq_true] at h3
    obtain ⟨h3, h9⟩ := h3
    unfold okGuard at h2
    split at h2 <;> try (cases h2; done)
    · rename_i hh; cases hh
    · rename_i g' b' k' b'' hog hpg
      cases hpg
      simp only [Bool.and_eq_true, decide_eq_true_eq, beq_iff_eq] at h2
      obtain ⟨⟨k1, k2⟩, k3⟩ := h2
      subst k2 k3
      split at h9 <;> try (cases h9; done)
      rename_i o' ho'
      split at h9 <;> try (cases h9; done)
      rename_i l hl
      simp only [Bool.and_eq_true, beq_iff_eq] at h9
      obtain ⟨t, rfl⟩ := Option.isSome_iff_exists.1 h9.1
      exact ⟨hog, k1, h3, o', t, ho', h9.2, hl⟩
  · intro t ht
    rw [ht] at h4
    simp only [Bool.and_eq_true, decide_eq_true_eq, List.all_eq_true, bne_iff_ne, ne_eq] at h4
    refine ⟨h4.1, fun j hj hr => ?_⟩
    refine h4.2 (some t) ?_ rfl
    rw [List.mem_iff_getElem?]
    exact ⟨j, by rw [List.getElem?_take, if_pos hj]; exact hr⟩
  · intro t ht j hj
    simp only [List.all_eq_true, List.mem_range] at h5
    have := h5 t (mem_regsOf (by simpa using ht)) j hj
    simp only [Bool.or_eq_true, beq_iff_eq, Bool.not_eq_true', beq_eq_false_iff_ne, ne_eq] at this
    rcases this with ((h | h) | h) | h
    · exact .inl h
    · refine .inr (.inl fun he => h ?_)
      rw [List.getD_eq_getElem?_getD, he]
      rfl
    · exact .inr (.inr (.inl h))
    · exact .inr (.inr (.inr h))
  · intro e he hb
    simp only [Array.all_eq_true', Bool.or_eq_true, Bool.not_eq_true', decide_eq_true_eq] at h6
    rcases h6 e he with h | h
    · rw [h] at hb; cases hb
    · exact h
  · intro he j q hq hj
    rw [if_pos he] at h8
    simp only [List.all_eq_true, List.mem_range] at h8
    have := h8 j hj
    rw [hq] at this
    simp only [Bool.or_eq_true, beq_iff_eq] at this
    rcases this with h | ((h | h) | h) | h
    · exact .inl h
    · exact .inr (.inl h)
    · exact .inr (.inr (.inl h))
    · exact .inr (.inr (.inr (.inl h)))
    · exact .inr (.inr (.inr (.inr h)))
theorem ah_lt {X : Cx} {i j : Nat} (h : X.ah i j = true) : i < j := by
  simp only [Cx.ah, ahead, Bool.and_eq_true, decide_eq_true_eq] at h
  exact h.1
end Mini
end Go.Proofs.YtgjlofpfbhioaaaGreatDoor
namespace Go.Proofs.YtgjlofpfbhioaaaGreatDoor
namespace Mini
open Go
def Enters (P : Program) (f : FuncId) : Prop := ∃ fn, P.funcs[f]? = some fn ∧ (fn.name == "runtime.NumGoroutine") = false ∧ fn.body.isNone = false
def HeapCall (P : Program) (G : Nat → Option (List D)) (c : C) (args : List V) (H : Heap) (v : V) (H' : Heap) : Prop :=
  ∀ (M : MM) (w : World) (cv : Value) (us : List Value), GlobOk G M.imm → RelC M c cv → RelVs M args us → args.length = us.length → Sat P M H 0 w →
    (∃ f first caps, cv = .func (.func f) first caps ∧ Enters P f ∧ Calls P f (first ++ us.toArray ++ caps) w fun e w' => ∃ v' M', e = .returned v' ∧ RelV M' v v' ∧ Sat P M' H' 0 w' ∧ Fr M M' w w') ∨
    (∃ l f tmps asg body, cv = .func (.yield l) #[] #[] ∧ (Instr.yield l us.toArray).run P w = .ok (.round l f tmps asg body) w ∧
      RoundIn Fence.wide 0 P l f tmps asg body w fun e w' => ∃ v' M', e = .returned v' ∧ RelV M' v v' ∧ Sat P M' H' 0 w' ∧ Fr M M' w w')
def rnd (r : Option Nat) : Fence := { Fence.wide with round := r }
structure EnvOk (P : Program) (E : Env) : Prop where
  call : ∀ c args H v H', E.call c args H = some (v, H') → HeapCall P E.glob c args H v H'
  vcall : ∀ f vs r, E.vcall f vs = some r → Enters P f ∧ ValCall P E.glob f vs r
  prim : ∀ f vs r, E.prim f vs = some r → Enters P f ∧ ValCall P E.glob f vs r
structure Rg (X : Cx) (E : Env) (regs : List V) (val : Nat → V) (hp : Nat → Heap) : Prop where
  len : X.ps.length = X.n
  one : ∀ i o p, X.ops[i]? = some o → X.ps[i]? = some p → One X i o p
  ran : ∀ i p, X.ps[i]? = some p → Ran1 E regs val hp i p
  apt : ∀ x ∈ X.aps, apart (look E regs (tsOf val X.n) x.1) (look E regs (tsOf val X.n) x.2) = true
structure Inv (X : Cx) (regs : List V) (val : Nat → V) (hp : Nat → Heap) (M0 : MM) (w0 : World) (d0 : List Deferred) (S : Nat → Prop) (c : Nat) (M : MM) (a : Act) (w : World) : Prop where
  size : a.tmps.size = X.nt
  dfs : a.defers = d0
  cle : c ≤ X.n
  cS : ∀ e p, e < c → X.ps[e]? = some p → p.op.eff = true → S e
  cN : ∀ p, X.ps[c]? = some p → p.op.eff = true ∧ ¬ S c
  sat : Sat X.P M (hp c) 0 w
  fr : Fr M0 M w0 w
  vals : ∀ i t, S i → X.loc[i]? = some (some t) → RelV M (val i) (a.tmps.getD t undef)
  rg : ∀ j t, X.tm[j]? = some t → (∀ i, S i → X.raw[i]? ≠ some (some t)) → RelV M (nth regs j) (a.tmps.getD t undef)
  todo : ∀ i, i < c → ¬ S i → (hp i).length < (hp (i + 1)).length → M.loc (hp i).length = none
  pend : ∀ j k, partner X.ops X.ps k = some j → S j → ¬ S k → ∃ t m a' q B, X.raw[j]? = some (some t) ∧ X.ps[k]? = some q ∧ q.op = .ini m a' ∧ Waits M w (a.tmps.getD t undef) m B ∧ w0.heap.size ≤ B
  pinj : ∀ j k j' k' t t', partner X.ops X.ps k = some j → partner X.ops X.ps k' = some j' → S j → S j' → ¬ S k → ¬ S k' → X.raw[j]? = some (some t) → X.raw[j']? = some (some t') → a.tmps.getD t undef = a.tmps.getD t' undef → j = j'
section
variable {X : Cx} {E : Env} {regs : List V} {val : Nat → V} {hp : Nat → Heap} {M0 M M' : MM} {w0 w w' : World} {d0 : List Deferred} {S : Nat → Prop} {c : Nat} {a : Act}
theorem getD_put_ne {a : Act} {d : Option Tmp} {v : Value} {t : Nat} (h : d ≠ some t) : (a.put d v).tmps.getD t undef = a.tmps.getD t undef := by
  cases d with
  | none => rfl
  | some d =>
    have : d ≠ t := fun e => h (by rw [e])
    simp only [Act.put, Array.getD_eq_getD_getElem?]
    rw [Array.getElem?_setIfInBounds_ne this]
theorem getD_put_same {a : Act} {v : Value} {t : Nat} (h : t < a.tmps.size) : (a.put (some t) v).tmps.getD t undef = v := by
  simp [Act.put, Array.getD, h]
theorem raw_at {i : Nat} {o : Oper} (h : X.ops[i]? = some o) : X.raw[i]? = some o.dst := by simp [Cx.raw, h]
theorem raw_lt {i : Nat} {x : Option Nat} (h : X.raw[i]? = some x) : i < X.n := by
  have := (List.getElem?_eq_some_iff.1 h).1
  simpa [Cx.raw, Cx.n] using this
theorem ops_of {i : Nat} (h : i < X.n) : ∃ o, X.ops[i]? = some o := ⟨X.ops[i]'h, List.getElem?_eq_getElem (show i < X.ops.length from h)⟩
theorem ps_of (hX : Rg X E regs val hp) {i : Nat} (h : i < X.n) : ∃ p, X.ps[i]? = some p := ⟨X.ps[i]'(by rw [hX.len]; exact h), List.getElem?_eq_getElem (by rw [hX.len]; exact h)⟩
theorem ps_lt (hX : Rg X E regs val hp) {i : Nat} {p : Gp} (h : X.ps[i]? = some p) : i < X.n := by
  have := (List.getElem?_eq_some_iff.1 h).1
  rw [hX.len] at this; exact this
theorem raw_inj (hX : Rg X E regs val hp) {i j t : Nat} (hi : X.raw[i]? = some (some t)) (hj : X.raw[j]? = some (some t)) : i = j := by
  have key : ∀ i j : Nat, X.raw[i]? = some (some t) → X.raw[j]? = some (some t) → ¬ j < i := by
    intro i j hi hj hlt
    have hin := raw_lt hi
    obtain ⟨o, ho⟩ := ops_of hin
    obtain ⟨p, hp⟩ := ps_of hX hin
    rw [raw_at ho] at hi
    exact ((hX.one i o p ho hp).dst t (Option.some.inj hi)).2 j hlt hj
  have h1 := key i j hi hj
  have h2 := key j i hj hi
  omega
theorem partner_spec {j k : Nat} (h : partner X.ops X.ps k = some j) : ∃ o p t T y m b o' p', X.ops[k]? = some o ∧ X.ps[k]? = some p ∧ o.op = .store T (.tmp t) y ∧ p.op = .ini m b ∧ X.ops[j]? = some o' ∧ X.ps[j]? = some p' ∧ o'.dst = some t ∧ p'.op = .pre ∧ j < k := by
  unfold partner at h
  split at h <;> try (cases h; done)
  rename_i o p ho hp
  split at h <;> try (cases h; done)
  rename_i T t y m b h1 h2
  have hp1 := List.find?_some h
  have hp2 := List.mem_of_find?_eq_some h
  split at hp1 <;> try (cases hp1; done)
  rename_i o' p' ho' hp'
  simp only [Bool.and_eq_true, beq_iff_eq] at hp1
  obtain ⟨q1, q2⟩ := hp1
  split at q2 <;> try (cases q2; done)
  rename_i hpre
  exact ⟨o, p, t, T, y, m, b, o', p', ho, hp, h1, h2, ho', hp', q1, hpre, by simpa using hp2⟩
theorem loc_spec {i t : Nat} (h : X.loc[i]? = some (some t)) : (∃ o, X.ops[i]? = some o ∧ o.dst = some t ∧ ∀ p, X.ps[i]? = some p → p.op ≠ .pre) ∨
    (∃ j o', partner X.ops X.ps i = some j ∧ X.ops[j]? = some o' ∧ o'.dst = some t) := by
  simp only [Cx.loc, List.getElem?_map, Option.map_eq_some_iff] at h
  obtain ⟨i', hi', h⟩ := h
  have : i' = i := by
    have := List.getElem?_eq_some_iff.1 hi'
    obtain ⟨_, e⟩ := this
    simpa using e.symm
  subst this
  unfold locOf at h
  split at h <;> try (cases h; done)
  rename_i o p ho hp
  split at h
  · cases h
  · rename_i m b hop
    split at h <;> try (cases h; done)
    rename_i j hj
    split at h <;> try (cases h; done)
    rename_i o' ho'
    exact .inr ⟨j, o', hj, ho', h⟩
  · rename_i hpre hini
    refine .inl ⟨o, ho, h, fun p' hp' e => ?_⟩
    rw [hp] at hp'
    cases hp'
    exact hpre e
theorem loc_at {i : Nat} {o : Oper} {p : Gp} (ho : X.ops[i]? = some o) (hp : X.ps[i]? = some p) (h1 : p.op ≠ .pre) (h2 : ∀ m b, p.op ≠ .ini m b) : X.loc[i]? = some o.dst := by
  have hi : i < X.n := (List.getElem?_eq_some_iff.1 ho).1
  have e : locOf X.ops X.ps i = o.dst := by
    unfold locOf
    simp only [ho, hp]
  simp only [Cx.loc, List.getElem?_map, List.getElem?_range hi, Option.map_some, e]
theorem Inv.upd (h : Inv X regs val hp M0 w0 d0 S c M a w) (hX : Rg X E regs val hp) {i : Nat} {o : Oper} {v' : Value} {c' : Nat} {Xb : Nat → Prop} (ho : X.ops[i]? = some o) (hS : ¬ S i) (hcl : ∀ i j, X.ah i j = true → S j → S i)
    (hsat : Sat X.P M' (hp c') 0 w') (hfr : FrX Xb M M' w w') (hXb : ∀ B, Xb B → w0.heap.size ≤ B)
    (hcle : c' ≤ X.n) (hcS : ∀ e p, e < c' → X.ps[e]? = some p → p.op.eff = true → S e ∨ e = i) (hcN : ∀ p, X.ps[c']? = some p → p.op.eff = true ∧ ¬ S c' ∧ c' ≠ i)
    (hval : ∀ t, X.loc[i]? = some (some t) → RelV M' (val i) ((a.put o.dst v').tmps.getD t undef))
    (htodo : ∀ j, j < c' → ¬ S j → j ≠ i → (hp j).length < (hp (j + 1)).length → M'.loc (hp j).length = none)
    (hpend : ∀ j k, partner X.ops X.ps k = some j → (S j ∨ j = i) → ¬ S k → k ≠ i → ∃ t m a' q B, X.raw[j]? = some (some t) ∧ X.ps[k]? = some q ∧ q.op = .ini m a' ∧ Waits M' w' ((a.put o.dst v').tmps.getD t undef) m B ∧ w0.heap.size ≤ B)
    (hpinj : ∀ j k j' k' t t', partner X.ops X.ps k = some j → partner X.ops X.ps k' = some j' → (S j ∨ j = i) → (S j' ∨ j' = i) → ¬ S k → k ≠ i → ¬ S k' → k' ≠ i → X.raw[j]? = some (some t) → X.raw[j']? = some (some t') →
      (a.put o.dst v').tmps.getD t undef = (a.put o.dst v').tmps.getD t' undef → j = j') :
    Inv X regs val hp M0 w0 d0 (fun j => S j ∨ j = i) c' M' (a.put o.dst v') w' where
  size := by rw [← h.size]; cases o.dst <;> simp [Act.put]
  dfs := by rw [← h.dfs]; cases o.dst <;> rfl
  cle := hcle
  cS := hcS
  cN := fun p hp' => by
    obtain ⟨h1, h2, h3⟩ := hcN p hp'
    exact ⟨h1, fun h => h.elim h2 h3⟩
  sat := hsat
  fr := h.fr.transX hfr hXb
  vals := fun j t hj hl => by
    by_cases e : j = i
    · subst e; exact hval t hl
    · have hSj := hj.resolve_right e
      rw [getD_put_ne (fun hd => ?_)]
      · exact RelV.mono hfr.ext (h.vals j t hSj hl)
      · have hri : X.raw[i]? = some (some t) := by rw [raw_at ho, hd]
        rcases loc_spec hl with ⟨oj, hoj, hdj, _⟩ | ⟨k, ok, hk, hok, hdk⟩
        · exact e (raw_inj hX (by rw [raw_at hoj, hdj]) hri)
        · have hki : k = i := raw_inj hX (by rw [raw_at hok, hdk]) hri
          subst hki
          obtain ⟨o1, p1, t1, T, y, m, b, o2, p2, q1, q2, q3, q4, q5, q6, q7, q8, q9⟩ := partner_spec hk
          obtain ⟨j', t', x', y', o'', t'', r1, r2, r3, r4, r5, r6, r7, r8, r9⟩ := (hX.one j o1 p1 q1 q2).ini m b q4
          rw [hk] at r1
          cases r1
          exact hS (hcl _ _ r7 hSj)
  rg := fun j t hj hn => by
    rw [getD_put_ne (fun hd => hn i (.inr rfl) (by rw [raw_at ho, hd]))]
    exact RelV.mono hfr.ext (h.rg j t hj (fun k hk => hn k (.inl hk)))
  todo := fun j hj hn hl => htodo j hj (fun h => hn (.inl h)) (fun h => hn (.inr h)) hl
  pend := fun j k hk hj hn => hpend j k hk hj (fun h => hn (.inl h)) (fun h => hn (.inr h))
  pinj := fun j k j' k' t t' h1 h2 h3 h4 h5 h6 h7 h8 h9 => hpinj j k j' k' t t' h1 h2 h3 h4 (fun h => h5 (.inl h)) (fun h => h5 (.inr h)) (fun h => h6 (.inl h)) (fun h => h6 (.inr h)) h7 h8 h9
theorem Inv.plain (h : Inv X regs val hp M0 w0 d0 S c M a w) (hX : Rg X E regs val hp) {i : Nat} {o : Oper} {p : Gp} {v' : Value} {c' : Nat} (ho : X.ops[i]? = some o) (hpi : X.ps[i]? = some p) (hS : ¬ S i) (hcl : ∀ i j, X.ah i j = true → S j → S i)
    (hnp : ∀ k, partner X.ops X.ps k ≠ some i) (hini : ∀ m b, p.op ≠ .ini m b) (hsat : Sat X.P M' (hp c') 0 w') (hfr : FrX (fun _ => False) M M' w w')
    (hcle : c' ≤ X.n) (hcS : ∀ e p, e < c' → X.ps[e]? = some p → p.op.eff = true → S e ∨ e = i) (hcN : ∀ p, X.ps[c']? = some p → p.op.eff = true ∧ ¬ S c' ∧ c' ≠ i)
    (hval : RelV M' (val i) v')
    (htodo : ∀ j, j < c' → ¬ S j → j ≠ i → (hp j).length < (hp (j + 1)).length → M'.loc (hp j).length = none) :
    Inv X regs val hp M0 w0 d0 (fun j => S j ∨ j = i) c' M' (a.put o.dst v') w' := by
  have hin : i < X.n := (List.getElem?_eq_some_iff.1 ho).1
  have far : ∀ j k t, partner X.ops X.ps k = some j → X.raw[j]? = some (some t) → (S j ∨ j = i) → S j ∧ (a.put o.dst v').tmps.getD t undef = a.tmps.getD t undef := by
    intro j k t hk hr hj
    have hne : j ≠ i := fun e => hnp k (e ▸ hk)
    refine ⟨hj.resolve_right hne, getD_put_ne fun hd => hne (raw_inj hX hr (by rw [raw_at ho, hd]))⟩
  refine h.upd hX ho hS hcl hsat hfr (fun _ h => h.elim) hcle hcS hcN ?_ htodo ?_ ?_
  · intro t ht
    have hd : o.dst = some t := by
      rcases loc_spec ht with ⟨o1, ho1, hd1, _⟩ | ⟨j, o1, hj, _⟩
      · rw [ho] at ho1; cases ho1; exact hd1
      · obtain ⟨o1, p1, t1, T, y, m, b, o2, p2, q1, q2, q3, q4, _⟩ := partner_spec hj
        rw [hpi] at q2
        cases q2
        exact absurd q4 (hini m b)
    rw [hd, getD_put_same (by rw [h.size]; exact ((hX.one i o p ho hpi).dst t hd).1)]
    exact hval
  · intro j k hk hj hnk hki
    have hSj : S j := (by
      obtain ⟨o1, p1, t1, T, y, m, b, o2, p2, q1, q2, q3, q4, q5, q6, q7, q8, q9⟩ := partner_spec hk
      exact (far j k t1 hk (by rw [raw_at q5, q7]) hj).1)
    obtain ⟨t, m, a', q, B, e1, e2, e3, e4, e5⟩ := h.pend j k hk hSj hnk
    exact ⟨t, m, a', q, B, e1, e2, e3, by rw [(far j k t hk e1 hj).2]; exact e4.keep hfr (fun h => h), e5⟩
  · intro j k j' k' t t' h1 h2 h3 h4 h5 _ h6 _ h7 h8 h9
    obtain ⟨s1, e1⟩ := far j k t h1 h7 h3
    obtain ⟨s2, e2⟩ := far j' k' t' h2 h8 h4
    rw [e1, e2] at h9
    exact h.pinj j k j' k' t t' h1 h2 s1 s2 h5 h6 h7 h8 h9
theorem Inv.operand (h : Inv X regs val hp M0 w0 d0 S c M a w) (hX : Rg X E regs val hp) (hG : GlobOk E.glob M0.imm) {i : Nat} {o : Oper} {p : Gp} (ho : X.ops[i]? = some o) (hpi : X.ps[i]? = some p) (hS : ¬ S i) (hcl : ∀ i j, X.ah i j = true → S j → S i) (hr : ∀ j, X.ah j i = true → S j)
    {x : Operand} (hx : ∀ t, x = .tmp t → .tmp t ∈ o.op.operands) {b : A} (hok : okA (X.k i) x b = true) : RelV M (look E regs (tsOf val i) b) (a.eval x) := by
  unfold okA at hok
  split at hok <;> try (cases hok; done)
  · rename_i t j
    simp only [Bool.and_eq_true, beq_iff_eq, Cx.k] at hok
    obtain ⟨⟨h1, h2⟩, h3⟩ := hok
    simp only [look, nth_tsOf, Act.eval]
    rw [if_pos (of_decide_eq_true h1)]
    exact h.vals _ t (hr _ h3) h2
  · rename_i t j
    simp only [Bool.and_eq_true, beq_iff_eq, Bool.not_eq_true', Cx.k] at hok
    obtain ⟨h1, h2⟩ := hok
    simp only [look, Act.eval]
    refine h.rg j t h1 fun k hk hrk => ?_
    have hkn := raw_lt hrk
    rcases (hX.one i o p ho hpi).reads t (hx t rfl) k hkn with e | e | e | e
    · subst e; exact hS hk
    · exact e hrk
    · have hlt := ah_lt e
      have : (X.raw.take i).contains (some t) = true := by
        rw [List.contains_iff_mem, List.mem_iff_getElem?]
        exact ⟨k, by rw [List.getElem?_take, if_pos hlt]; exact hrk⟩
      rw [this] at h2
      cases h2
    · exact hS (hcl _ _ e hk)
  · simp only [look, Act.eval]; exact okV_rel hok
  · rename_i g b'
    simp only [beq_iff_eq] at hok
    subst hok
    simp only [look, Act.eval]
    split
    · rename_i cs hg
      rw [relV_d]
      exact RelD.mono h.fr.ext.imm (hG _ _ hg).1
    · exact relV_any
  · rename_i f f'
    simp only [beq_iff_eq] at hok
    subst hok
    simp only [look, Act.eval]
    rw [relV_d]
    simp only [RelD]
    exact ⟨#[], #[], rfl, RelDs.nil _ _, rfl, RelDs.nil _ _, rfl⟩
theorem Inv.wanted (h : Inv X regs val hp M0 w0 d0 S c M a w) (hX : Rg X E regs val hp) {i : Nat} {o : Oper} {p : Gp} {b : Bool} (ho : X.ops[i]? = some o) (hpi : X.ps[i]? = some p) (hr : ∀ j, X.ah j i = true → S j)
    (hw : wants (tsOf val i) p.guard = some b) : Region.wanted o (yielded X.ops.toArray a.tmps) = b := by
  have hone := hX.one i o p ho hpi
  cases hg : p.guard with
  | none =>
    rw [hg] at hw
    simp only [wants, Option.some.injEq] at hw
    subst hw
    simp [Region.wanted, hone.guard0 hg]
  | some gb =>
    obtain ⟨g, b'⟩ := gb
    obtain ⟨h1, h2, h3, o', t, h4, h5, h6⟩ := hone.guard1 g b' hg
    have hv := h.vals _ t (hr _ h3) h6
    rw [hg] at hw
    simp only [wants, nth_tsOf, if_pos h2] at hw
    have hin : i - 1 - g < X.n := (List.getElem?_eq_some_iff.1 h4).1
    obtain ⟨p', hp'⟩ := ps_of hX hin
    have hlt : t < a.tmps.size := by rw [h.size]; exact ((hX.one _ o' p' h4 hp').dst t h5).1
    have hget : a.tmps.getD t undef = a.tmps[t] := by simp [Array.getD, hlt]
    rw [hget] at hv
    have hy : yielded X.ops.toArray a.tmps (i - 1 - g) = (match a.tmps[t] with | .bool b => some b | _ => none) := by
      have e : ((X.ops.toArray[i - 1 - g]?).bind (·.dst)).bind (a.tmps[·]?) = some a.tmps[t] := by simp [h4, h5, hlt]
      unfold yielded
      rw [e]
      cases a.tmps[t] <;> rfl
    simp only [Region.wanted, h1, hy]
    split at hw <;> try (cases hw; done)
    · rename_i t0 hval
      rw [hval, relV_bool] at hv
      simp only [Option.some.injEq] at hw
      subst hw
      rw [hv]
      simp
    · rename_i hval
      rw [hval, relV_tup] at hv
      obtain ⟨arr, hv, _⟩ := hv
      simp only [Option.some.injEq] at hw
      subst hw
      rw [hv]
      simp
end
end Mini
end Go.Proofs.YtgjlofpfbhioaaaGreatDoor
