/-
  Functions that send over a channel and receive from it, alone: their code, carried out.
-/
import Derived.Test.YtmcgaakbkgdljaaGreatDoorMiniE20
import Derived.Conc.LoneCalls
import Derived.Conc.LoneSelect
namespace Go.Proofs.YtmcgaakbkgdljaaGreatDoor
namespace Mini
open Go Go.Conc

section
variable {P : Program}

/-! ### The code of a function's own frame -/
/-- From the beginning of the code the machine comes to its end. -/
def Walks (P : Program) (c : Code) (a : Act) (w : World) (Q : Ex → Act → World → Prop) : Prop :=
  ∀ (b : Frame) (k : List Item) (cs : List Frame), b.kind = .normal → b.roundOf = none →
    ∃ e a' w', Q e a' w' ∧ ArrivesIn (Machine.fenced P Fence.wide) P (lone (b.atR a (.code c :: k)) cs w) b k cs (exitOf e) a' w'
/-- The rest of a region. -/
def WalksOps (P : Program) (ops : Array Oper) (l : List Nat) (a : Act) (w : World) (Q : Ex → Act → World → Prop) : Prop :=
  ∀ (b : Frame) (k : List Item) (cs : List Frame), b.kind = .normal → b.roundOf = none →
    ∃ e a' w', Q e a' w' ∧ ArrivesIn (Machine.fenced P Fence.wide) P (lone (b.atR a (.inRegion ops l :: k)) cs w) b k cs (exitOf e) a' w'

variable {a : Act} {w w' : World} {Q : Ex → Act → World → Prop} {ops : Array Oper} {i : Nat} {rest : List Nat} {o : Oper}

theorem walks_of_wp {c : Code} (h : c.wpIn (rnd none) 0 P (fun x a w => ∃ e, x = exitOf e ∧ Q e a w) a w) : Walks P c a w Q := by
  intro b k cs _ hro
  obtain ⟨x, a', w', ⟨e, rfl, hq⟩, harr⟩ := h b k cs hro trivial (room_wide _)
  exact ⟨e, a', w', hq, harr⟩

theorem walks_seq {x y : Code} (h : Walks P x a w fun e a1 w1 => match e with | .nrm => Walks P y a1 w1 Q | e => Q e a1 w1) : Walks P (.seq x y) a w Q := by
  intro b k cs hk hro
  obtain ⟨e, a1, w1, hq, harr⟩ := h b (.code y :: k) cs hk hro
  cases e with
  | nrm =>
    obtain ⟨e2, a2, w2, hq2, harr2⟩ := hq b k cs hk hro
    exact ⟨e2, a2, w2, hq2, .of_steps (.head (fenced_wide P _) stepR_seq harr) harr2⟩
  | exit id => exact ⟨_, a1, w1, hq, .of_steps (.one (fenced_wide P _) stepR_seq) (.pass (x := .code y) rfl (fun _ _ => .inl (by simp [exitOf])) harr)⟩
  | ret => exact ⟨_, a1, w1, hq, .of_steps (.one (fenced_wide P _) stepR_seq) (.pass (x := .code y) rfl (fun _ _ => .inl (by simp [exitOf])) harr)⟩

theorem walks_cond {c : Operand} {x y : Code} {t : Bool} (hc : a.eval c = .bool t) (h : Walks P (if t then x else y) a w Q) : Walks P (.cond c x y) a w Q :=
  fun b k cs hk hro => let ⟨e, a', w', q, r⟩ := h b k cs hk hro; ⟨e, a', w', q, .of_steps (.one (fenced_wide P _) (stepR_cond hc)) r⟩

theorem walks_block {id : Nat} {c : Code} (h : Walks P c a w fun e a1 w1 => match e with | .exit id' => if id' = id then Q .nrm a1 w1 else Q (.exit id') a1 w1 | e => Q e a1 w1) : Walks P (.block id c) a w Q := by
  intro b k cs hk hro
  obtain ⟨e, a1, w1, hq, harr⟩ := h b (.inBlock id :: k) cs hk hro
  have h0 := fenced_wide P (lone (b.atR a (.code (.block id c) :: k)) cs w)
  cases e with
  | nrm => exact ⟨.nrm, a1, w1, hq, .head h0 stepR_block (StepsIn.trans harr (.one (fenced_wide P _) stepR_inBlock))⟩
  | ret => exact ⟨.ret, a1, w1, hq, .of_steps (.one h0 stepR_block) harr⟩
  | exit id' =>
    simp only at hq
    by_cases hid : id' = id
    · rw [if_pos hid] at hq
      exact ⟨.nrm, a1, w1, hq, .head h0 stepR_block (harr.1 k (by simp [exitTo, hid]))⟩
    · rw [if_neg hid] at hq
      have this : (id == id') = false := by simp; exact fun h => hid h.symm
      have hx : exitTo id' (.inBlock id :: k) = exitTo id' k := by simp [exitTo, this]
      exact ⟨.exit id', a1, w1, hq, fun k' hk => .head h0 stepR_block (harr.1 k' (by rw [hx]; exact hk)), fun hr' => by rw [hro] at hr'; cases hr'⟩

theorem walks_region {id : Nat} (h : WalksOps P ops (List.range ops.size) a w Q) : Walks P (.region id ops false) a w Q :=
  fun b k cs hk hro => let ⟨e, a', w', q, r⟩ := h b k cs hk hro; ⟨e, a', w', q, .of_steps (.one (fenced_wide P _) stepR_region) r⟩

theorem walksOps_nil (h : Q .nrm a w) : WalksOps P ops [] a w Q := fun _ _ _ _ _ => ⟨.nrm, a, w, h, .one (fenced_wide P _) stepR_region_end⟩

theorem hfin_of (b : Frame) (a : Act) (rest : List Nat) (k : List Item) (ho : ops[i]? = some o) (v : Value) : (b.atR a (.inRegion ops (i :: rest) :: k)).finish v = b.atR (a.put o.dst v) (.inRegion ops rest :: k) := by
  rw [Frame.finish_atR, ho]; rfl

theorem walksOps_value {v : Value} (ho : ops[i]? = some o) (_hd : ∀ c, o.op ≠ .defer c) (hg : o.guard = none) (hrun : (execOp a.eval o).run P w = .ok (.value v) w') (h : WalksOps P ops rest (a.put o.dst v) w' Q) : WalksOps P ops (i :: rest) a w Q := by
  intro b k cs hk hro
  obtain ⟨e, a', w'', q, r⟩ := h b k cs hk hro
  refine ⟨e, a', w'', q, .of_steps (.one (fenced_wide P _) (step_lone_go ?_)) r⟩
  have hgo := stepGR_op (P := P) (b := b) (k := k) (cs := cs) (w := w) (rest := rest) (a := a) ho (by simp [Region.wanted, hg])
  rw [hro, Oper.semAt_none] at hgo
  rw [hgo, ← hfin_of b a rest k ho]
  simp [stepG.apply, hrun]

theorem walksOps_send {c cap s r : Nat} {buf : Array Value} {v z : Value} {tm : Bool} (ho : ops[i]? = some o) (hg : o.guard = none) (hrun : (execOp a.eval o).run P w = .ok (.comm #[scase c v z] true .send) w) (hc : w.heap[c]? = some (.chan cap buf false s r tm)) (hroom : buf.size < cap)
    (h : WalksOps P ops rest (a.put o.dst undef) (w.setChan c cap (buf.push v) false (s + 1) r tm) Q) : WalksOps P ops (i :: rest) a w Q := by
  intro b k cs hk hro
  obtain ⟨e, a', w'', q, r'⟩ := h b k cs hk hro
  refine ⟨e, a', w'', q, .of_steps (.one (fenced_wide P _) ?_) r'⟩
  rw [← hfin_of b a rest k ho]
  have hs := stepG_comm (P := P) (main := true) (b := b) (a := a) (k := k) (cs := cs) (w := w) (rest := rest) ho (by simp [Region.wanted, hg]) (by rw [hk]; decide) hrun
  rw [← Frame.atR_of_none hro] at hs
  exact step_lone_send_room hs hc hroom

theorem walksOps_sel {c cap s r : Nat} {buf : Array Value} {z : Value} {tm : Bool} (ho : ops[i]? = some o) (hg : o.guard = none) (hrun : (execOp a.eval o).run P w = .ok (.comm #[rcase c z] false .select) w) (hc : w.heap[c]? = some (.chan cap buf false s r tm))
    (h0 : buf = #[] → WalksOps P ops rest (a.put o.dst (.tuple #[goInt (-1), .bool false, z])) w Q)
    (h1 : 0 < buf.size → WalksOps P ops rest (a.put o.dst (.tuple #[goInt 0, .bool true, buf.getD 0 undef])) (w.setChan c cap (buf.extract 1 buf.size) false s (r + 1) tm) Q) : WalksOps P ops (i :: rest) a w Q := by
  intro b k cs hk hro
  have hs := stepG_comm (P := P) (main := true) (b := b) (a := a) (k := k) (cs := cs) (w := w) (rest := rest) ho (by simp [Region.wanted, hg]) (by rw [hk]; decide) hrun
  rw [← Frame.atR_of_none hro] at hs
  rcases Nat.eq_zero_or_pos buf.size with hz | hz
  · have hb : buf = #[] := Array.eq_empty_of_size_eq_zero hz
    subst hb
    obtain ⟨e, a', w'', q, r'⟩ := h0 rfl b k cs hk hro
    refine ⟨e, a', w'', q, .of_steps (.one (fenced_wide P _) ?_) r'⟩
    rw [← hfin_of b a rest k ho]
    exact step_lone_select_default hs hc
  · obtain ⟨e, a', w'', q, r'⟩ := h1 hz b k cs hk hro
    refine ⟨e, a', w'', q, .of_steps (.one (fenced_wide P _) ?_) r'⟩
    rw [← hfin_of b a rest k ho]
    exact step_lone_select_recv_buf hs hc hz
end

/-! ### The operations of a chain -/
def chainRun (E : Env) : List Cm → St → Option St
  | [], s => some s
  | .op p j :: xs, s => match stepP (look E s.regs []) s.heap p with
    | some (v, []) => chainRun E xs ⟨put s.regs j v, s.heap⟩
    | _ => none
  | .snd c x :: xs, s => match look E s.regs [] c, look E s.regs [] x with
    | .c (.ch id), .c (.d d) => match ob? s.heap id with
      | some (.chn cap buf) => if buf.length < cap then chainRun E xs ⟨s.regs, setOb s.heap id (.chn cap (buf ++ [d]))⟩ else none
      | _ => none
    | _, _ => none
  | .sel c j z :: xs, s => match look E s.regs [] c with
    | .c (.ch id) => match ob? s.heap id with
      | some (.chn _ []) => chainRun E xs ⟨put s.regs j (.tup [.c (.d (.int .i64 (-1))), .c (.d (.bool false)), z]), s.heap⟩
      | some (.chn cap (d :: ds)) => chainRun E xs ⟨put s.regs j (.tup [.c (.d (.int .i64 0)), .c (.d (.bool true)), .c (.d d)]), setOb s.heap id (.chn cap ds)⟩
      | _ => none
    | _ => none

section
variable {P : Program} {tm : List Nat} {nt : Nat} {M0 M : MM} {w0 w : World} {H : Heap} {E : Env} {a : Act} {regs : List V}

theorem regs_put {j t : Nat} {v : V} {u : Value} (hr : RelRegs M tm regs a.tmps) (hsz : a.tmps.size = nt) (hd : okDst tm nt j (some t) = true) (hv : RelV M v u) : RelRegs M tm (put regs j v) (a.put (some t) u).tmps := by
  simp only [okDst, Bool.and_eq_true, beq_iff_eq, decide_eq_true_eq] at hd
  obtain ⟨⟨h1, h2⟩, h3⟩ := hd
  intro j' t' hj
  have hjl : j' < tm.length := (List.getElem?_eq_some_iff.1 hj).1
  have hk := List.all_eq_true.1 h3 j' (List.mem_range.2 hjl)
  simp only [hj, Bool.or_eq_true, Bool.not_eq_true', beq_eq_false_iff_ne, ne_eq, Option.some.injEq, beq_iff_eq] at hk
  rw [nth_put]
  split
  · rename_i e
    subst e
    rw [h1, Option.some.injEq] at hj
    subst hj
    split
    · simpa [Act.put, Array.getD_eq_getD_getElem?, Array.getElem?_setIfInBounds, hsz, h2] using hv
    · exact relV_any
  · rename_i e
    have hne : t' ≠ t := fun h => hk.elim (fun h' => h' h) e
    have := hr j' t' hj
    simp only [Act.put, Array.getD_eq_getD_getElem?, Array.getElem?_setIfInBounds]
    rw [if_neg (fun h => hne h.symm), ← Array.getD_eq_getD_getElem?]
    exact this
theorem regs_none {d : Option Tmp} {u : Value} (hr : RelRegs M tm regs a.tmps) (hd : noDst tm d = true) : RelRegs M tm regs (a.put d u).tmps := by
  cases d with
  | none => exact hr
  | some t =>
    simp only [noDst, Bool.not_eq_true'] at hd
    intro j' t' hj
    have hne : t ≠ t' := fun h => by
      subst h
      rw [List.contains_eq_mem, decide_eq_false_iff_not] at hd
      exact hd (List.mem_of_getElem? hj)
    have := hr j' t' hj
    simp only [Act.put, Array.getD_eq_getD_getElem?, Array.getElem?_setIfInBounds]
    rw [if_neg hne, ← Array.getD_eq_getD_getElem?]
    exact this
theorem put_size (d : Option Tmp) (u : Value) : (a.put d u).tmps.size = a.tmps.size := by cases d <;> simp [Act.put]
theorem put_defers (d : Option Tmp) (u : Value) : (a.put d u).defers = a.defers := by cases d <;> rfl

/-- A channel: where it lies. -/
theorem live_chn (hs : Sat P M H 0 w) {id cap : Nat} {buf : List D} (ho : ob? H id = some (.chn cap buf)) {v : Value} (hr : RelV M (.c (.ch id)) v) :
    ∃ B b c arr s r, v = .chan (some B) ∧ M.loc id = some (some (B, b, c)) ∧ M.gen id = 0 ∧ w.heap[B]? = some (.chan cap arr false s r false) ∧ M.imm B = none ∧ arr.size = buf.length ∧ RelDs M.imm buf arr.toList := by
  rw [relV_c] at hr
  simp only [RelC] at hr
  obtain ⟨_, B, rfl, hpt⟩ := hr
  have hg : M.gen id = 0 := by
    cases hl : M.loc id with
    | none => exact (hs.idle id _ ho hl).resolve_left (by intro h; cases h)
    | some l =>
      obtain ⟨o', ho', hos⟩ := hs.obj id l hl
      rw [ho] at ho'
      cases ho'
      cases l with
      | none => simp [ObSat] at hos
      | some l => obtain ⟨B', b, c⟩ := l; simp only [ObSat] at hos; exact hos.1
  obtain ⟨b, c, hl⟩ := hpt hg
  obtain ⟨o', ho', hos⟩ := hs.obj id _ hl
  rw [ho] at ho'
  cases ho'
  simp only [ObSat] at hos
  obtain ⟨_, arr, s, r, k1, _, k3, k4, k5⟩ := hos
  exact ⟨B, b, c, arr, s, r, rfl, hl, hg, k1, k3, k4, k5⟩

theorem relDs_snoc {I : Imm} {ds : List D} {vs : List Value} {d : D} {v : Value} (h : RelDs I ds vs) (hl : vs.length = ds.length) (hd : RelD I d v) : RelDs I (ds ++ [d]) (vs ++ [v]) := by
  rw [RelDs.iff] at *
  intro j x hx
  rw [List.getElem?_append] at hx
  split at hx
  · rename_i hj
    obtain ⟨u, hu, hr⟩ := h j x hx
    exact ⟨u, by rw [List.getElem?_append_left (by omega)]; exact hu, hr⟩
  · rename_i hj
    have : j = ds.length := by
      rcases Nat.lt_or_ge (j - ds.length) 1 with h' | h'
      · omega
      · rw [List.getElem?_eq_none (by simpa using h')] at hx; cases hx
    subst this
    simp at hx
    subst hx
    exact ⟨v, by rw [List.getElem?_append_right (by omega)]; simp [hl], hd⟩

theorem chain_ok {ops : Array Oper} {Q : Ex → Act → World → Prop} : ∀ (xs : List Cm) (l pre : List Oper) (s s' : St) (a : Act) (w : World), chainRun E xs s = some s' → okChain P tm nt l xs = true → ops.toList = pre ++ l → GlobOk E.glob M0.imm → StRel P tm nt M0 w0 s a w →
    (∀ a' w', StRel P tm nt M0 w0 s' a' w' → Q .nrm a' w') → WalksOps P ops (List.range' pre.length l.length) a w Q
  | [], l, pre, s, s', a, w, h, hok, hops, hG, hs, hQ => by
    cases l with
    | nil =>
      simp only [chainRun, Option.some.injEq] at h
      subst h
      exact walksOps_nil (hQ a w hs)
    | cons o l => simp [okChain] at hok
  | x :: xs, l, pre, s, s', a, w, h, hok, hops, hG, hs, hQ => by
    cases l with
    | nil => simp [okChain] at hok
    | cons o l =>
    simp only [okChain, Bool.and_eq_true] at hok
    obtain ⟨hx, hok⟩ := hok
    have ho : ops[pre.length]? = some o := by
      rw [← Array.getElem?_toList, hops, List.getElem?_append_right (Nat.le_refl _)]
      simp
    have hops' : ops.toList = (pre ++ [o]) ++ l := by rw [hops]; simp
    rw [List.length_cons, List.range'_succ]
    have next : ∀ (s1 : St) (a1 : Act) (w1 : World), chainRun E xs s1 = some s' → StRel P tm nt M0 w0 s1 a1 w1 → WalksOps P ops (List.range' (pre.length + 1) l.length) a1 w1 Q := by
      intro s1 a1 w1 h1 h2
      have := chain_ok xs l (pre ++ [o]) s1 s' a1 w1 h1 hok hops' hG h2 hQ
      simpa using this
    obtain ⟨M, s1, s2, s3, s4, s5⟩ := hs
    have hA : ∀ x b, okA ⟨0, tm, [], [], fun _ => true⟩ x b = true → RelV M (look E s.regs [] b) (a.eval x) := fun x b hb => operand1 (hG.mono s2.ext.imm) s3 hb
    cases x with
    | op p j =>
      simp only [okCm, Bool.and_eq_true, Option.isNone_iff_eq_none] at hx
      obtain ⟨⟨⟨x1, x2⟩, x3⟩, x4⟩ := hx
      simp only [chainRun] at h
      split at h <;> try (cases h; done)
      rename_i v hst
      have hq : Quiet P M w (execOp a.eval o) v := by
        cases p <;> try (cases x1; done)
        · exact q_mov hA x2 hst
        · exact q_bin hA x2 hst
        · exact q_ld s1 (fun _ _ _ _ o ho => ⟨o, ho, Same.refl o⟩) hA x2 hst
        · exact q_fa hA x2 hst
        · exact q_ext hA x2 hst
        · refine q_nlc hA x2 hst ?_
          intro id g off x hx r
          rw [hx, relV_c] at r
          simp only [RelC] at r
          obtain ⟨_, _, ⟨B, y, rfl⟩, _⟩ := r
          exact ⟨_, rfl⟩
      obtain ⟨u, hrun, hrel⟩ := hq
      have hnd : ∀ c, o.op ≠ .defer c := fun c hc => by
        cases p <;> try (cases x1; done)
        all_goals simp [okOp, hc] at x2
      cases hd : o.dst with
      | none => rw [hd] at x4; cases x4
      | some t =>
        rw [hd] at x4
        refine walksOps_value ho hnd x3 hrun (next _ _ _ h ?_)
        rw [hd]
        exact ⟨M, s1, s2, regs_put s3 s4 x4 hrel, by rw [put_size]; exact s4, by rw [put_defers]; exact s5⟩
    | snd c x =>
      simp only [okCm, Bool.and_eq_true, Option.isNone_iff_eq_none] at hx
      obtain ⟨⟨x1, x3⟩, x4⟩ := hx
      split at x1 <;> try (cases x1; done)
      rename_i chn val hop
      simp only [Bool.and_eq_true] at x1
      simp only [chainRun] at h
      split at h <;> try (cases h; done)
      rename_i id d hc hv
      split at h <;> try (cases h; done)
      rename_i cap buf hob
      split at h <;> try (cases h; done)
      rename_i hlt
      have r1 := hA _ _ x1.1
      have r2 := hA _ _ x1.2
      rw [hc] at r1
      rw [hv, relV_d] at r2
      obtain ⟨B, b, c', arr, sn, rc, e1, e2, e3, e4, e5, e6, e7⟩ := live_chn s1 hob r1
      have hrun : (execOp a.eval o).run P w = .ok (.comm #[scase B (a.eval val) (.tuple #[])] true .send) w := by
        simp [execOp, hop, e1, scase]
      obtain ⟨t1, t2⟩ := ob_turn (ob' := .chn cap (buf ++ [d])) (x' := .chan cap (arr.push (a.eval val)) false (sn + 1) rc false) s1 e2 e5 hob e4 (fun _ _ _ h => by cases h) (fun h => by cases h) fun w' hw => by
        simp only [ObSat]
        exact ⟨e3, arr.push (a.eval val), sn + 1, rc, hw, Nat.zero_le _, e5, by simp [e6], by rw [Array.toList_push]; exact relDs_snoc e7 (by simpa using e6) r2⟩
      refine walksOps_send ho x3 hrun e4 (by omega) (next _ _ _ h ?_)
      exact ⟨M, t1, s2.trans t2, regs_none s3 x4, by rw [put_size]; exact s4, by rw [put_defers]; exact s5.keep t2⟩
    | sel c j z =>
      simp only [okCm, Bool.and_eq_true, Option.isNone_iff_eq_none] at hx
      obtain ⟨⟨x1, x3⟩, x4⟩ := hx
      split at x1 <;> try (cases x1; done)
      rename_i cs hop
      split at x1 <;> try (cases x1; done)
      rename_i chn el hcs
      simp only [Bool.and_eq_true] at x1
      obtain ⟨x1, x2⟩ := x1
      split at x2 <;> try (cases x2; done)
      rename_i zv hz
      have hcs' : cs = #[⟨chn, none, el⟩] := Array.ext' hcs
      subst hcs'
      have r1 := hA _ _ x1
      obtain ⟨ti, hti, hzv⟩ := Option.bind_eq_some_iff.1 hz
      have hzero : (zeroValue el).run P w = .ok zv w := by simp [zeroValue, typeInfo, hti, hzv]
      have hzr : RelV M z zv := okV_rel x2
      simp only [chainRun] at h
      split at h <;> try (cases h; done)
      rename_i id hc
      rw [hc] at r1
      cases hd : o.dst with
      | none => rw [hd] at x4; cases x4
      | some t =>
      rw [hd] at x4
      have hrun : ∀ B, a.eval chn = .chan (some B) → (execOp a.eval o).run P w = .ok (.comm #[rcase B zv] false .select) w := by
        intro B hB
        simp [execOp, hop, hB, rcase, hzero, Result.andThen]
      split at h <;> try (cases h; done)
      · rename_i cap hob
        obtain ⟨B, b, c', arr, sn, rc, e1, e2, e3, e4, e5, e6, e7⟩ := live_chn s1 hob r1
        have harr : arr = #[] := Array.eq_empty_of_size_eq_zero e6
        subst harr
        refine walksOps_sel ho x3 (hrun B e1) e4 (fun _ => next _ _ _ h ?_) (fun hlt => by simp at hlt)
        rw [hd]
        refine ⟨M, s1, s2, regs_put s3 s4 x4 ?_, by rw [put_size]; exact s4, by rw [put_defers]; exact s5⟩
        rw [relV_tup]
        refine ⟨_, rfl, rfl, ?_⟩
        simp only [RelVs, and_true]
        exact ⟨by rw [relV_int]; rfl, by rw [relV_bool], hzr⟩
      · rename_i cap d ds hob
        obtain ⟨B, b, c', arr, sn, rc, e1, e2, e3, e4, e5, e6, e7⟩ := live_chn s1 hob r1
        have hpos : 0 < arr.size := by rw [e6]; simp
        obtain ⟨y, ys, hys⟩ : ∃ y ys, arr.toList = y :: ys := by
          cases hl : arr.toList with
          | nil => rw [← Array.length_toList, hl] at hpos; simp at hpos
          | cons y ys => exact ⟨y, ys, rfl⟩
        rw [hys] at e7
        simp only [RelDs] at e7
        have hget : arr.getD 0 undef = y := by rw [Array.getD_eq_getD_getElem?, ← Array.getElem?_toList, hys]; rfl
        have hext : (arr.extract 1 arr.size).toList = ys := by rw [Array.toList_extract, hys, ← Array.length_toList, hys]; simp
        obtain ⟨t1, t2⟩ := ob_turn (ob' := .chn cap ds) (x' := .chan cap (arr.extract 1 arr.size) false sn (rc + 1) false) s1 e2 e5 hob e4 (fun _ _ _ h => by cases h) (fun h => by cases h) fun w' hw => by
          simp only [ObSat]
          exact ⟨e3, arr.extract 1 arr.size, sn, rc + 1, hw, Nat.zero_le _, e5, by simp at e6 ⊢; omega, by rw [hext]; exact e7.2⟩
        refine walksOps_sel ho x3 (hrun B e1) e4 (fun hb => by subst hb; simp at hpos) (fun _ => next _ _ _ h ?_)
        rw [hd, hget]
        refine ⟨M, t1, s2.trans t2, regs_put s3 s4 x4 ?_, by rw [put_size]; exact s4, by rw [put_defers]; exact s5.keep t2⟩
        rw [relV_tup]
        refine ⟨_, rfl, rfl, ?_⟩
        simp only [RelVs, and_true]
        exact ⟨by rw [relV_int]; rfl, by rw [relV_bool], by rw [relV_d]; exact e7.1⟩

/-! ### What may come out in more than one way: a map's entries in whatever order -/
/-- A call; R: what holds of the result and the heap behind it. -/
def HeapCallP (P : Program) (G : Nat → Option (List D)) (c : C) (args : List V) (H : Heap) (R : V → Heap → Prop) : Prop :=
  ∀ (M : MM) (w : World) (cv : Value) (us : List Value), GlobOk G M.imm → RelC M c cv → RelVs M args us → args.length = us.length → Sat P M H 0 w →
    ∃ f first caps, cv = .func (.func f) first caps ∧ Enters P f ∧ Calls P f (first ++ us.toArray ++ caps) w fun e w' => ∃ v H', R v H' ∧ ∃ v' M', e = .returned v' ∧ RelV M' v v' ∧ Sat P M' H' 0 w' ∧ Fr M M' w w'
/-- Behind a range over a function. -/
def rfEnd (s : St) (R : Ex → St → Prop) (_ : V) (H1 : Heap) : Prop :=
  match ob? H1 s.heap.length with
  | some (.loop true none _ _ _ _) => R .nrm ⟨s.regs, setOb H1 s.heap.length .dead⟩
  | some (.loop false (some e) _ _ _ _) => R e ⟨s.regs, setOb H1 s.heap.length .dead⟩
  | _ => False

theorem rf_okP {f : A} {ps : List Nat} {asg body : I} {g : Operand} {params : Array Tmp} {ca cb : Code} {s : St} {a : Act} {w : World} {Q : Exit → Act → World → Prop} {R : Ex → St → Prop} {x : C} (hx : look E s.regs [] f = .c x) (_hfn : x.isFn ≠ false)
    (hcall : HeapCallP P E.glob x [.c (.yld s.heap.length)] (s.heap ++ [.loop true none s.regs ps asg body]) (rfEnd s R))
    (k1 : okA ⟨0, tm, [], [], fun _ => true⟩ g f = true) (k2 : ps.map (fun j => tm[j]?) = params.toList.map some) (k3 : once tm = true) (k4 : tm.all (fun t => decide (t < nt)) = true) (k5 : okI P tm nt asg ca = true) (k6 : okI P tm nt body cb = true)
    (hG : GlobOk E.glob M0.imm) (hs : StRel P tm nt M0 w0 s a w) (hQ : ∀ e s', R e s' → ∀ a' w', StRel P tm nt M0 w0 s' a' w' → Q (exitOf e) a' w') : (Code.rangeFunc g params ca cb).wpIn (rnd none) 0 P Q a w := by
  obtain ⟨M, s1, s2, s3, s4, s5⟩ := hs
  refine wpIn_rangeFunc fun fn _ => ?_
  obtain ⟨t1, t2⟩ := enter_sat fn s1 s3 s4 k2 k3 k4 k5 k6
  have hxr : RelC (M.loop s.heap.length (w.heap.size + 1) w.heap.size) x (a.eval g) := by
    have := RelV.mono t2.ext (operand0 (E := E) (hG.mono s2.ext.imm) s3 k1)
    rw [hx, relV_c] at this
    exact this
  have hy : RelVs (M.loop s.heap.length (w.heap.size + 1) w.heap.size) [.c (.yld s.heap.length)] [.func (.yield (w.heap.size + 1)) #[] #[]] := by
    simp only [RelVs, RelV, RelC, and_true]
    exact ⟨by simp [MM.loop], w.heap.size + 1, rfl, fun _ => ⟨w.heap.size, 0, by simp [MM.loop]⟩⟩
  obtain ⟨fid, first, caps, hcv, hent, hc⟩ := hcall _ _ _ _ (hG.mono (s2.trans t2).ext.imm) hxr hy rfl t1
  obtain ⟨fn', e1, e2, e3⟩ := hent
  refine ⟨w.heap.size + 1, [markOf w.heap.size], enterW fn a w params ca cb, ⟨.fn (.func fid) caps, first ++ #[.func (.yield (w.heap.size + 1)) #[] #[]]⟩, enterW fn a w params ca cb, fid, first ++ #[.func (.yield (w.heap.size + 1)) #[] #[]] ++ caps, enterW fn a w params ca cb, ?_, ?_, fun _ _ => trivial, ?_, fun h => by simp [rnd, Fence.wide] at h, ?_⟩
  · exact run_enterLoop_outer fn a.tmps params ca cb
  · show (Deferred.ofValue (a.eval g) (#[Operand.const (.func (.yield (w.heap.size + 1)) #[] #[])].map a.eval)).run P _ = _
    rw [hcv]
    simp [Deferred.ofValue, Act.eval]
  · simp only [invoke, callFunc, Sem.run_bind, run_program, Result.andThen_ok, e1, e2, Bool.false_eq_true, if_false, e3, Sem.run_pure]
  · refine callsIn_rnd (rd := none) (hc.mono fun e' w' hh => ?_)
    obtain ⟨v, H1, h, v', M', rfl, r1, r2, r3⟩ := hh
    -- the record, when the function has ended
    have hrec : ∀ rdy pend regs ps' asg' body', ob? H1 s.heap.length = some (.loop rdy pend regs ps' asg' body') → M'.gen s.heap.length = 0 ∧ M'.loc s.heap.length = some (some (w.heap.size + 1, w.heap.size, 0)) ∧ LoopSat P M' w' 0 rdy pend regs ps' asg' body' (w.heap.size + 1) := by
      intro rdy pend regs ps' asg' body' ho
      have hg0 : M'.gen s.heap.length = 0 := by
        cases hl : M'.loc s.heap.length with
        | none =>
          rcases r2.idle _ _ ho hl with e | e
          · cases e
          · exact e
        | some l =>
          obtain ⟨o, ho', hos⟩ := r2.obj _ _ hl
          rw [ho] at ho'
          cases ho'
          cases l with
          | none => simp [ObSat] at hos
          | some l => simp only [ObSat] at hos; exact hos.1
      have hl := r3.ext.loc s.heap.length (some (w.heap.size + 1, w.heap.size, 0)) (by simp [MM.loop]) (by rw [hg0]; exact (s1.out _ (by rw [s1.n]; exact Nat.le_refl _)).2) (by simp [MM.loop])
      obtain ⟨o, ho', hos⟩ := r2.obj _ _ hl
      rw [ho] at ho'
      cases ho'
      simp only [ObSat] at hos
      exact ⟨hg0, hl, hos.2⟩
    have fin : ∀ (rdy : Bool) (pend : Option Ex) (regs : List V) (ps' : List Nat) (asg' body' : I) (L : Loop), ob? H1 s.heap.length = some (.loop rdy pend regs ps' asg' body') → w'.heap[w.heap.size + 1]? = some (.loop L) → M'.imm (w.heap.size + 1) = none →
        StRel P tm nt M0 w0 ⟨s.regs, setOb H1 s.heap.length .dead⟩ { a with defers := [markOf w.heap.size] ++ a.defers } (w'.putObj (w.heap.size + 1) (.loop { L with state := .exhausted })) := by
      intro rdy pend regs ps' asg' body' L ho hL him
      obtain ⟨g1, g2, _⟩ := hrec _ _ _ _ _ _ ho
      obtain ⟨u1, u2⟩ := dead_sat (o := .loop { L with state := .exhausted }) r2 g2 him g1 ho ⟨_, hL⟩
      have hall := t2.trans (r3.trans u2)
      refine ⟨_, u1, s2.trans hall, fun j t hj => RelV.mono hall.ext (s3 j t hj), s4, ?_⟩
      have hback := r3.trans u2
      have hsz := enterW_size fn a w params ca cb
      have hno : ¬ (M.loop s.heap.length (w.heap.size + 1) w.heap.size).Owns w.heap.size := fun ho => by
        rcases t2.own _ ho with ⟨id, b, c, hid⟩ | _
        · exact Nat.lt_irrefl _ (s1.block_lt ⟨id, b, c, hid⟩)
        · obtain ⟨id, b, c, hid⟩ := ho
          simp only [MM.loop] at hid
          split at hid
          · simp only [Option.some.injEq, Prod.mk.injEq] at hid
            omega
          · exact Nat.lt_irrefl _ (s1.block_lt ⟨id, b, c, hid⟩)
      obtain ⟨rs, q1, q2, q3⟩ := s5
      have hold := (show Marks M w0 w a.defers from ⟨rs, q1, q2, q3⟩).keep hall
      obtain ⟨rs', z1, z2, z3⟩ := hold
      have hlt : ∀ r ∈ rs, r < w.heap.size := fun r hr => (Array.getElem?_eq_some_iff.1 (q3 r hr).2.1).1
      refine ⟨w.heap.size :: rs, by simp [q1], List.nodup_cons.2 ⟨fun hm => Nat.lt_irrefl _ (hlt _ hm), q2⟩, fun r hr => ?_⟩
      rcases List.mem_cons.1 hr with rfl | hr
      · refine ⟨s2.size, ?_, fun ho => ?_, ?_⟩
        · rw [hback.keep _ (by omega) hno]
          exact enterW_mark fn a w params ca cb
        · rcases hback.own _ ho with h' | h'
          · exact hno h'
          · omega
        · cases hi : (M'.dead s.heap.length).imm w.heap.size with
          | none => rfl
          | some o =>
            exfalso
            rcases hback.imm _ o hi with h' | h' | h'
            · have := s1.imm _ _ h'
              have := (Array.getElem?_eq_some_iff.1 this).1
              omega
            · exact hno h'
            · omega
      · have hm := marks_mem hall (q3 r hr)
        exact hm
    unfold rfEnd at h
    split at h <;> try (exact h.elim)
    · rename_i regs ps' asg' body' ho
      obtain ⟨_, _, L, hL, _, him, ⟨hst, hpe⟩, _⟩ := hrec _ _ _ _ _ _ ho
      refine ⟨_, _, run_endLoop hL (by rw [hst]; simp), ?_⟩
      have := hQ _ _ h _ _ (fin _ _ _ _ _ _ L ho hL him)
      generalize w'.putObj (w.heap.size + 1) (.loop { L with state := .exhausted }) = W at this ⊢
      rw [hpe]
      exact this
    · rename_i ex regs ps' asg' body' ho
      obtain ⟨_, _, L, hL, _, him, ⟨hst, hpe, hne⟩, _⟩ := hrec _ _ _ _ _ _ ho
      refine ⟨_, _, run_endLoop hL (by rw [hst]; simp), ?_⟩
      have := hQ _ _ h _ _ (fin _ _ _ _ _ _ L ho hL him)
      generalize w'.putObj (w.heap.size + 1) (.loop { L with state := .exhausted }) = W at this ⊢
      rw [hpe]
      cases ex with
      | nrm => exact absurd rfl hne
      | exit id => exact wpIn_exit this
      | ret => exact wpIn_ret this

/-! ### The code, carried out -/
def iterP (js : Option (List Nat)) (hl : Nat) (body : St → (Ex → St → Prop) → Prop) : Nat → St → (Ex → St → Prop) → Prop
  | 0, _, _ => False
  | n + 1, s, R => body s fun e s' => match e with
    | .nrm => iterP js hl body n (tidy hl js s') R
    | e => R e s'

/-- What holds behind the code, whatever entries the maps hand out. -/
def execP (E : Env) (callP : C → List V → Heap → (V → Heap → Prop) → Prop) (fuel : Nat) : I → St → (Ex → St → Prop) → Prop
  | .seq a b, s, R => execP E callP fuel a s fun e s' => match e with
    | .nrm => execP E callP fuel b s' R
    | e => R e s'
  | .cond c a b, s, R => match look E s.regs [] c with
    | .c (.d (.bool t)) => bif t then execP E callP fuel a s R else execP E callP fuel b s R
    | _ => False
  | .block id b, s, R => execP E callP fuel b s fun e s' => match e with
    | .exit id' => if id' = id then R .nrm s' else R (.exit id') s'
    | e => R e s'
  | .loop js b, s, R => iterP js s.heap.length (execP E callP fuel b) fuel (tidy s.heap.length js s) R
  | .chain xs, s, R => match chainRun E xs s with
    | some s' => R .nrm s'
    | none => False
  | .nxm it jt jb, s, R => match look E s.regs [] it with
    | .c (.ptr id 0 0) => match ob? s.heap id with
      | some (.mit left _) => (left = [] → R .nrm ⟨put (put s.regs jt .any) jb (.c (.d (.bool false))), s.heap⟩) ∧
          ∀ j k v, left[j]? = some (k, v) → R .nrm ⟨put (put s.regs jt .any) jb (.c (.d (.bool true))), setOb s.heap id (.mit (left.eraseIdx j) (some (k, v)))⟩
      | _ => False
    | _ => False
  | .rf f ps asg body, s, R => match look E s.regs [] f with
    | .c x => x.isFn ≠ false ∧ callP x [.c (.yld s.heap.length)] (s.heap ++ [.loop true none s.regs ps asg body]) (rfEnd s R)
    | _ => False
  | i, s, R => match exec E fuel false i s with
    | some (e, s') => R e s'
    | none => False

def HoldsP (P : Program) (tm : List Nat) (nt : Nat) (E : Env) (callP : C → List V → Heap → (V → Heap → Prop) → Prop) (fuel : Nat) (i : I) : Prop :=
  ∀ (M0 : MM) (w0 : World) (c : Code) (s : St) (a : Act) (w : World) (R : Ex → St → Prop) (Q : Ex → Act → World → Prop), execP E callP fuel i s R → okI P tm nt i c = true → GlobOk E.glob M0.imm → StRel P tm nt M0 w0 s a w →
    (∀ e s', R e s' → ∀ a' w', StRel P tm nt M0 w0 s' a' w' → Q e a' w') → Walks P c a w Q

variable {callP : C → List V → Heap → (V → Heap → Prop) → Prop}

theorem execP_leaf (hE : EnvOk P E) {fuel : Nat} {i : I} (hi : ∀ s R, execP E callP fuel i s R → ∃ e s', exec E fuel false i s = some (e, s') ∧ R e s') : HoldsP P tm nt E callP fuel i := by
  intro M0 w0 c s a w R Q h hok hG hs hQ
  obtain ⟨e, s', h1, h2⟩ := hi s R h
  exact walks_of_wp (exec_ok hE fuel i none M0 w0 c s s' e a w _ h1 hok hG hs fun a' w' k => ⟨e, rfl, hQ e s' h2 a' w' k⟩)

theorem leafR {x : Option (Ex × St)} {R : Ex → St → Prop} (h : match x with | some (e, s') => R e s' | none => False) : ∃ e s', x = some (e, s') ∧ R e s' := by
  cases x with
  | none => exact h.elim
  | some p => exact ⟨p.1, p.2, rfl, h⟩

theorem execP_loop {fuel : Nat} {js : Option (List Nat)} {i : I} (ih : HoldsP P tm nt E callP fuel i) : HoldsP P tm nt E callP fuel (.loop js i) := by
  intro M0 w0 c s a w R Q h hok hG hs hQ
  cases c <;> simp only [okI] at hok <;> try (cases hok; done)
  rename_i c
  simp only [execP] at h
  have hle : M0.n ≤ s.heap.length := by
    obtain ⟨M, h1, h2, _⟩ := hs
    rw [← h1.n]
    exact h2.ext.n
  have key : ∀ (n : Nat) (s1 : St) (a : Act) (w : World), iterP js s.heap.length (execP E callP fuel i) n s1 R → StRel P tm nt M0 w0 s1 a w →
      ∀ (b : Frame) (k : List Item) (cs : List Frame), b.kind = .normal → b.roundOf = none → ∃ e a' w', Q e a' w' ∧ ArrivesIn (Machine.fenced P Fence.wide) P (lone (b.atR a (.code c :: .inLoop c :: k)) cs w) b k cs (exitOf e) a' w' := by
    intro n
    induction n with
    | zero => intro s1 a w h1; exact h1.elim
    | succ n ihn =>
      intro s1 a w h1 h2 b k cs hk hro
      simp only [iterP] at h1
      obtain ⟨e2, a1, w1, ⟨s2, hr, hq⟩, harr⟩ := ih M0 w0 c s1 a w _ (fun e2 a' w' => ∃ s2, (match e2 with
        | .nrm => iterP js s.heap.length (execP E callP fuel i) n (tidy s.heap.length js s2) R
        | e => R e s2) ∧ StRel P tm nt M0 w0 s2 a' w') h1 hok hG h2 (fun e s' hr a' w' k => ⟨s', by cases e <;> exact hr, k⟩) b (.inLoop c :: k) cs hk hro
      cases e2 with
      | nrm =>
        obtain ⟨e3, a3, w3, hq3, harr3⟩ := ihn _ a1 w1 hr (hq.tidy hle js) b k cs hk hro
        exact ⟨e3, a3, w3, hq3, .of_steps (StepsIn.trans harr (.one (fenced_wide P _) stepR_inLoop)) harr3⟩
      | exit id => exact ⟨_, a1, w1, hQ _ _ hr a1 w1 hq, .pass (x := .inLoop c) rfl (fun _ _ => .inl (by simp [exitOf])) harr⟩
      | ret => exact ⟨_, a1, w1, hQ _ _ hr a1 w1 hq, .pass (x := .inLoop c) rfl (fun _ _ => .inl (by simp [exitOf])) harr⟩
  intro b k cs hk hro
  obtain ⟨e1, a1, w1, hq, harr⟩ := key fuel _ a w h (hs.tidy hle js) b k cs hk hro
  exact ⟨e1, a1, w1, hq, .of_steps (.one (fenced_wide P _) stepR_loop) harr⟩

theorem execP_ok (hE : EnvOk P E) (hC : ∀ c args H R, callP c args H R → HeapCallP P E.glob c args H R) (fuel : Nat) : ∀ i : I, HoldsP P tm nt E callP fuel i
  | .skip => execP_leaf hE fun _ _ h => leafR h
  | .exit _ => execP_leaf hE fun _ _ h => leafR h
  | .ret => execP_leaf hE fun _ _ h => leafR h
  | .keep _ => execP_leaf hE fun _ _ h => leafR h
  | .fresh _ _ _ => execP_leaf hE fun _ _ h => leafR h
  | .freshb _ _ => execP_leaf hE fun _ _ h => leafR h
  | .bad => execP_leaf hE fun _ _ h => leafR h
  | .reg _ _ _ _ => execP_leaf hE fun _ _ h => leafR h
  | .regk _ _ _ _ _ => execP_leaf hE fun _ _ h => leafR h
  | .scope _ => execP_leaf hE fun _ _ h => leafR h
  | .loop js i => execP_loop (execP_ok hE hC fuel i)
  | .nxm it jt jb => by
    intro M0 w0 c s a w R Q h hok hG hs hQ
    simp only [execP] at h
    split at h <;> try (exact h.elim)
    rename_i id hit
    split at h <;> try (exact h.elim)
    rename_i left cur ho
    exact walks_of_wp (nxm_ok hok hG hs hit ho (fun hl a' w' k1 => ⟨.nrm, rfl, hQ _ _ (h.1 hl) a' w' k1⟩) (fun j k v hj a' w' k1 => ⟨.nrm, rfl, hQ _ _ (h.2 j k v hj) a' w' k1⟩))
  | .rf f ps asg body => by
    intro M0 w0 c s a w R Q h hok hG hs hQ
    cases c <;> simp only [okI] at hok <;> try (cases hok; done)
    rename_i g params ca cb
    simp only [Bool.and_eq_true, beq_iff_eq] at hok
    obtain ⟨⟨⟨⟨⟨k1, k2⟩, k3⟩, k4⟩, k5⟩, k6⟩ := hok
    simp only [execP] at h
    split at h <;> try (exact h.elim)
    rename_i x hx
    exact walks_of_wp (rf_okP hx h.1 (hC _ _ _ _ h.2) k1 k2 k3 k4 k5 k6 hG hs fun e s' hr a' w' k => ⟨e, rfl, hQ e s' hr a' w' k⟩)
  | .chain xs => by
    intro M0 w0 c s a w R Q h hok hG hs hQ
    cases c <;> try (simp [okI] at hok; done)
    rename_i rid ops draw
    cases draw with
    | true => simp [okI] at hok
    | false =>
    simp only [okI] at hok
    simp only [execP] at h
    split at h <;> try (exact h.elim)
    rename_i s1 h1
    refine walks_region ?_
    have := chain_ok (ops := ops) (Q := Q) xs ops.toList [] s s1 a w h1 hok rfl hG hs (hQ _ _ h)
    rw [List.range_eq_range']
    simpa using this
  | .cond x i j => by
    intro M0 w0 c s a w R Q h hok hG hs hQ
    cases c <;> simp only [okI] at hok <;> try (cases hok; done)
    simp only [Bool.and_eq_true] at hok
    obtain ⟨⟨h1, h2⟩, h3⟩ := hok
    simp only [execP] at h
    split at h <;> try (exact h.elim)
    rename_i t hx
    obtain ⟨M, k1, k2, k3, k4⟩ := hs
    have hrel := operand1 (E := E) (hG.mono k2.ext.imm) k3 h1
    rw [hx, relV_bool] at hrel
    refine walks_cond hrel ?_
    cases t with
    | true => exact execP_ok hE hC fuel i M0 w0 _ s a w R Q h h2 hG ⟨M, k1, k2, k3, k4⟩ hQ
    | false => exact execP_ok hE hC fuel j M0 w0 _ s a w R Q h h3 hG ⟨M, k1, k2, k3, k4⟩ hQ
  | .block id i => by
    intro M0 w0 c s a w R Q h hok hG hs hQ
    cases c <;> simp only [okI] at hok <;> try (cases hok; done)
    simp only [Bool.and_eq_true, beq_iff_eq] at hok
    obtain ⟨rfl, hok⟩ := hok
    simp only [execP] at h
    refine walks_block ?_
    refine execP_ok hE hC fuel i M0 w0 _ s a w _ _ h hok hG hs fun e s' hr a' w' k => ?_
    cases e with
    | nrm => exact hQ _ _ hr a' w' k
    | ret => exact hQ _ _ hr a' w' k
    | exit id' =>
      simp only at hr ⊢
      split
      · rename_i he
        rw [if_pos he] at hr
        exact hQ _ _ hr a' w' k
      · rename_i he
        rw [if_neg he] at hr
        exact hQ _ _ hr a' w' k
  | .seq i j => by
    intro M0 w0 c s a w R Q h hok hG hs hQ
    have hj := execP_ok hE hC fuel j
    have hi := execP_ok hE hC fuel i
    have plain : ∀ c d, okI P tm nt i c = true → okI P tm nt j d = true → Walks P (Code.seq c d) a w Q := by
      intro c d h1 h2
      refine walks_seq ?_
      simp only [execP] at h
      refine hi M0 w0 c s a w _ _ h h1 hG hs fun e s' hr a' w' k => ?_
      cases e with
      | nrm => exact hj M0 w0 d s' a' w' R Q hr h2 hG k hQ
      | exit id => exact hQ _ _ hr a' w' k
      | ret => exact hQ _ _ hr a' w' k
    cases i with
    | keep js =>
      simp only [okI] at hok
      simp only [execP, exec] at h
      exact hj M0 w0 c _ a w R Q h hok hG (hs.keep js) hQ
    | fresh jj off sz =>
      simp only [okI] at hok
      simp only [execP, exec] at h
      exact hj M0 w0 c _ a w R Q h hok hG (hs.fresh jj off sz) hQ
    | freshb jj off =>
      simp only [okI] at hok
      simp only [execP, exec] at h
      exact hj M0 w0 c _ a w R Q h hok hG (hs.freshB jj off) hQ
    | _ =>
      cases c <;> simp only [okI] at hok <;> try (cases hok; done)
      all_goals (rw [Bool.and_eq_true] at hok; exact plain _ _ hok.1 hok.2)

/-! ### Where the code has one answer: channels -/
def execC (E : Env) (fuel : Nat) : I → St → Option (Ex × St)
  | .seq a b, s => match execC E fuel a s with
    | some (.nrm, s') => execC E fuel b s'
    | r => r
  | .cond c a b, s => match look E s.regs [] c with
    | .c (.d (.bool t)) => bif t then execC E fuel a s else execC E fuel b s
    | _ => none
  | .block id b, s => match execC E fuel b s with
    | some (.exit id', s') => if id' = id then some (.nrm, s') else some (.exit id', s')
    | r => r
  | .loop js b, s => iter js s.heap.length (execC E fuel b) fuel (tidy s.heap.length js s)
  | .chain xs, s => (chainRun E xs s).map fun s' => (.nrm, s')
  | .rf _ _ _ _, _ => none
  | .nxm _ _ _, _ => none
  | i, s => exec E fuel false i s

theorem iterC_P {js : Option (List Nat)} {hl : Nat} {b : St → Option (Ex × St)} {b' : St → (Ex → St → Prop) → Prop} (hb : ∀ s r (R : Ex → St → Prop), b s = some r → R r.1 r.2 → b' s R) : ∀ (n : Nat) (s : St) (r : Ex × St) (R : Ex → St → Prop), iter js hl b n s = some r → R r.1 r.2 → iterP js hl b' n s R
  | 0, _, _, _, h, _ => by simp [iter] at h
  | n + 1, s, r, R, h, hR => by
    simp only [iter] at h
    simp only [iterP]
    cases hx : b s with
    | none => rw [hx] at h; simp at h
    | some p =>
      obtain ⟨e, s'⟩ := p
      rw [hx] at h
      refine hb s (e, s') _ hx ?_
      cases e with
      | nrm => exact iterC_P hb n _ r R h hR
      | _ => simp only [Option.some.injEq] at h; subst h; exact hR

theorem execC_P (callP : C → List V → Heap → (V → Heap → Prop) → Prop) (fuel : Nat) : ∀ (i : I) (s : St) (r : Ex × St) (R : Ex → St → Prop), execC E fuel i s = some r → R r.1 r.2 → execP E callP fuel i s R
  | .skip, s, r, R, h, hR => by simp only [execC] at h; simp only [execP, h]; exact hR
  | .exit _, s, r, R, h, hR => by simp only [execC] at h; simp only [execP, h]; exact hR
  | .ret, s, r, R, h, hR => by simp only [execC] at h; simp only [execP, h]; exact hR
  | .keep _, s, r, R, h, hR => by simp only [execC] at h; simp only [execP, h]; exact hR
  | .fresh _ _ _, s, r, R, h, hR => by simp only [execC] at h; simp only [execP, h]; exact hR
  | .freshb _ _, s, r, R, h, hR => by simp only [execC] at h; simp only [execP, h]; exact hR
  | .bad, s, r, R, h, hR => by simp only [execC] at h; simp only [execP, h]; exact hR
  | .reg _ _ _ _, s, r, R, h, hR => by simp only [execC] at h; simp only [execP, h]; exact hR
  | .regk _ _ _ _ _, s, r, R, h, hR => by simp only [execC] at h; simp only [execP, h]; exact hR
  | .scope _, s, r, R, h, hR => by simp only [execC] at h; simp only [execP, h]; exact hR
  | .nxm _ _ _, s, r, R, h, hR => by simp [execC] at h
  | .rf _ _ _ _, s, r, R, h, hR => by simp [execC] at h
  | .chain xs, s, r, R, h, hR => by
    simp only [execC, Option.map_eq_some_iff] at h
    obtain ⟨s1, h1, rfl⟩ := h
    simp only [execP, h1]
    exact hR
  | .loop js i, s, r, R, h, hR => by
    simp only [execC] at h
    simp only [execP]
    exact iterC_P (fun s r R h hR => execC_P callP fuel i s r R h hR) fuel _ r R h hR
  | .cond c a b, s, r, R, h, hR => by
    simp only [execC] at h
    simp only [execP]
    split at h <;> try (cases h; done)
    rename_i t hx
    cases t with
    | true => exact execC_P callP fuel a s r R h hR
    | false => exact execC_P callP fuel b s r R h hR
  | .block id b, s, r, R, h, hR => by
    simp only [execC] at h
    simp only [execP]
    cases hx : execC E fuel b s with
    | none => rw [hx] at h; simp at h
    | some p =>
      obtain ⟨e, s'⟩ := p
      rw [hx] at h
      refine execC_P callP fuel b s (e, s') _ hx ?_
      cases e with
      | exit id' =>
        simp only at h ⊢
        split at h
        · rename_i he
          rw [if_pos he]
          simp only [Option.some.injEq] at h; subst h; exact hR
        · rename_i he
          rw [if_neg he]
          simp only [Option.some.injEq] at h; subst h; exact hR
      | _ => simp only [Option.some.injEq] at h; subst h; exact hR
  | .seq a b, s, r, R, h, hR => by
    simp only [execC] at h
    simp only [execP]
    cases hx : execC E fuel a s with
    | none => rw [hx] at h; simp at h
    | some p =>
      obtain ⟨e, s'⟩ := p
      rw [hx] at h
      refine execC_P callP fuel a s (e, s') _ hx ?_
      cases e with
      | nrm => exact execC_P callP fuel b s' r R h hR
      | _ => simp only [Option.some.injEq] at h; subst h; exact hR

/-! ### The function -/
def runFnP (E : Env) (callP : C → List V → Heap → (V → Heap → Prop) → Prop) (fuel : Nat) (F : Fn) (args : List V) (H : Heap) (T : V → Heap → Prop) : Prop :=
  args.length = F.np ∧ execP E callP fuel F.body ⟨pad F.nr args, H⟩ fun e s => (∀ id, e ≠ .exit id) ∧ ∃ v, results s.regs s.heap F.res = some v ∧ T v s.heap

def runFnC (E : Env) (fuel : Nat) (F : Fn) (args : List V) (H : Heap) : Option (V × Heap) :=
  if args.length = F.np then
    match execC E fuel F.body ⟨pad F.nr args, H⟩ with
    | some (.exit _, _) => none
    | some (_, s) => (results s.regs s.heap F.res).map fun v => (v, s.heap)
    | none => none
  else none

theorem runFnC_P {fuel : Nat} {F : Fn} {args : List V} {H H' : Heap} {v : V} (h : runFnC E fuel F args H = some (v, H')) : runFnP E callP fuel F args H (fun v1 H1 => v1 = v ∧ H1 = H') := by
  unfold runFnC at h
  split at h <;> try (cases h; done)
  rename_i hl
  refine ⟨hl, ?_⟩
  cases hx : execC E fuel F.body ⟨pad F.nr args, H⟩ with
  | none => rw [hx] at h; cases h
  | some p =>
    obtain ⟨e, s⟩ := p
    rw [hx] at h
    have hne : ∀ id, e ≠ .exit id := fun id he => by subst he; simp at h
    refine execC_P callP fuel _ _ _ _ hx ⟨hne, ?_⟩
    have h' : ((results s.regs s.heap F.res).map fun v => (v, s.heap)) = some (v, H') := by
      cases e with
      | exit id => exact absurd rfl (hne id)
      | _ => exact h
    simp only [Option.map_eq_some_iff, Prod.mk.injEq] at h'
    obtain ⟨v0, h1, rfl, rfl⟩ := h'
    exact ⟨v0, h1, rfl, rfl⟩

theorem calls_of_walks {f : FuncId} {fn : Func} {c : Code} {args : Array Value} {w : World} {R : Ending → World → Prop} (hf : P.funcs[f]? = some fn) (hb : fn.body = some c)
    (h : Walks P c { tmps := args ++ Array.replicate (fn.ntmps - args.size) undef, defers := [] } w (fun e a w => bodyPostM Fence.wide 0 P fn R (exitOf e) a w)) : Calls P f args w R := by
  refine (callsIn_wide (n := 0)).1 ⟨trivial, fun cs hr => ?_⟩
  let b : Frame := { (default : Frame) with fn := f, kind := .normal, roundOf := none }
  have henter : Frame.enter P f args .normal = b.atR { tmps := args ++ Array.replicate (fn.ntmps - args.size) undef, defers := [] } [.code c] := by
    simp [Frame.enter, Frame.atR, hf, hb, b]
  obtain ⟨e, a', w', hq, harr⟩ := h b [] cs rfl rfl
  rw [← henter] at harr
  cases e with
  | nrm =>
    obtain ⟨e', w'', fr', hR, hs, hfn, hl⟩ := leaves_stepsInM a'.defers .returning w' { b.atR a' [] with mode := .returning } cs rfl rfl rfl hf rfl trivial hr hq
    exact ⟨e', w'', fr', hR, ComesIn.of_steps (StepsIn.trans harr (.one (fenced_wide P _) (stepR_end rfl))) hs, hfn, hl⟩
  | ret =>
    obtain ⟨todo, hs0⟩ := harr.1 rfl
    obtain ⟨e', w'', fr', hR, hs, hfn, hl⟩ := leaves_stepsInM a'.defers .returning w' { b.atR a' todo with mode := .returning } cs rfl rfl rfl hf rfl trivial hr hq
    exact ⟨e', w'', fr', hR, ComesIn.of_steps hs0 hs, hfn, hl⟩
  | exit id => exact hq.elim

theorem runFnP_ok {w : World} (hE : EnvOk P E) (hC : ∀ c args H R, callP c args H R → HeapCallP P E.glob c args H R) {fuel : Nat} {F : Fn} {fn : Func} {f : FuncId} {args : List V} {us : List Value} {H : Heap} {T : V → Heap → Prop} (hf : P.funcs[f]? = some fn) (hok : okFn P F fn = true) (h : runFnP E callP fuel F args H T)
    (hG : GlobOk E.glob M.imm) (hs : Sat P M H 0 w) (hargs : RelVs M args us) (hl : args.length = us.length) :
    Calls P f us.toArray w fun e w' => ∃ v H', T v H' ∧ ∃ v' M', e = .returned v' ∧ RelV M' v v' ∧ Sat P M' H' 0 w' ∧ Fr M M' w w' := by
  unfold okFn at hok
  simp only [Bool.and_eq_true, decide_eq_true_eq, List.all_eq_true] at hok
  obtain ⟨⟨⟨⟨⟨⟨⟨h1, h2⟩, h3⟩, h4⟩, h5⟩, h6⟩, h7⟩, h8⟩ := hok
  split at h8 <;> try (cases h8; done)
  rename_i c hc
  obtain ⟨hnp, hx⟩ := h
  -- how the frame begins
  have hle : us.length ≤ fn.ntmps := by
    rw [← hl, hnp]
    rcases Nat.eq_zero_or_pos F.np with h0 | hpos
    · omega
    · have hm : F.np - 1 ∈ F.tm := by
        have : (F.tm.take F.np)[F.np - 1]? = some (F.np - 1) := by rw [h4, List.getElem?_range (by omega)]
        rw [List.getElem?_take, if_pos (by omega)] at this
        exact List.mem_of_getElem? this
      have := h6 _ hm
      omega
  have hst : StRel P F.tm fn.ntmps M w ⟨pad F.nr args, H⟩ { tmps := us.toArray ++ Array.replicate (fn.ntmps - us.toArray.size) undef, defers := [] } w := by
    refine ⟨M, hs, Fr.refl M w, ?_, by simp; omega, Marks.nil M w w⟩
    intro j t hj
    simp only [pad]
    rw [nth_append]
    split
    · rename_i hlt
      have ht : t = j := by
        have : (F.tm.take F.np)[j]? = some t := by rw [List.getElem?_take, if_pos (by omega)]; exact hj
        rw [h4, List.getElem?_range (by omega)] at this
        exact (Option.some.inj this).symm
      subst ht
      have := nth_rel (j := t) hargs
      have e : (us.toArray ++ Array.replicate (fn.ntmps - us.toArray.size) undef).getD t undef = us.getD t undef := by
        rw [Array.getD_eq_getD_getElem?, List.getD_eq_getElem?_getD, Array.getElem?_append_left (by simp; omega)]
        simp
      rw [e]
      exact this
    · rw [nth_replicate]; exact relV_any
  refine calls_of_walks hf hc (execP_ok hE hC fuel F.body M w c _ _ w _ _ hx h8 hG hst fun e s hr a' w' hs' => ?_)
  obtain ⟨hne, v0, hres, hT⟩ := hr
  obtain ⟨M', k1, k2, k3, k4, rs, k5, k6, k7⟩ := hs'
  have hb : LeavesInM Fence.wide 0 P fn a'.tmps (fun e w' => ∃ v H', T v H' ∧ ∃ v' M', e = .returned v' ∧ RelV M' v v' ∧ Sat P M' H' 0 w' ∧ Fr M M' w w') a'.defers .returning w' := by
    rw [k5]
    refine leaves_marks rs k6 k7 k1 k2 fun w1 q1 q2 => ?_
    obtain ⟨u, hu, hru⟩ := results_ok q1 k3 hres h7
    exact ⟨u, hu, v0, s.heap, hT, u, M', rfl, hru, q1, q2⟩
  cases e with
  | nrm => exact hb
  | ret => exact hb
  | exit id => exact absurd rfl (hne id)
end
end Mini
end Go.Proofs.YtmcgaakbkgdljaaGreatDoor
