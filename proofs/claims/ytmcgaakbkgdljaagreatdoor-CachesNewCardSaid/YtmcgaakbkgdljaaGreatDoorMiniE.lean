/-
  The quiet operations: each comes to the value that the abstract machine tells; the world stays as it is.
-/
import Derived.Test.YtmcgaakbkgdljaaGreatDoorMiniD
import Derived.Laws.StructEq
namespace Go.Proofs.YtmcgaakbkgdljaaGreatDoor
namespace Mini
open Go

/-- The operation hands back a value that the abstract one stands for; nothing turns. -/
def Quiet (P : Program) (M : MM) (w : World) (x : Sem Next) (v : V) : Prop := ∃ v', x.run P w = .ok (.value v') w ∧ RelV M v v'

section rel
variable {M : MM} {v : Value}
theorem relV_int {k : IntKind} {n : Int} : RelV M (.c (.d (.int k n))) v ↔ v = .int k n := by simp only [RelV, RelC, RelD]
theorem relV_bool {b : Bool} : RelV M (.c (.d (.bool b))) v ↔ v = .bool b := by simp only [RelV, RelC, RelD]
theorem relV_str {s : List Nat} : RelV M (.c (.d (.str s))) v ↔ ∃ bs, v = .string bs ∧ bs.data.toList.map UInt8.toNat = s := by simp only [RelV, RelC, RelD]
theorem relV_nilp : RelV M (.c (.d .nilp)) v ↔ v = .pointer none := by simp only [RelV, RelC, RelD]
theorem relV_nils : RelV M (.c (.d .nils)) v ↔ v = .slice none 0 0 := by simp only [RelV, RelC, RelD]
theorem relV_nili : RelV M (.c (.d .nili)) v ↔ v = .nilIface := by simp only [RelV, RelC, RelD]
theorem relV_agg {cs : List C} : RelV M (.agg cs) v ↔ ∃ arr, v = .agg arr ∧ arr.size = cs.length ∧ RelCs M cs arr.toList := by simp only [RelV]
theorem relV_tup {vs : List V} : RelV M (.tup vs) v ↔ ∃ arr, v = .tuple arr ∧ arr.size = vs.length ∧ RelVs M vs arr.toList := by simp only [RelV]
theorem relV_d {d : D} : RelV M (.c (.d d)) v ↔ RelD M.imm d v := by simp only [RelV, RelC]
theorem relV_any : RelV M .any v := by simp only [RelV]
theorem relV_c {c : C} : RelV M (.c c) v ↔ RelC M c v := by simp only [RelV]
end rel

/-- Constants. -/
theorem okD_rel {I : Imm} {v : Value} {d : D} (h : okD v d = true) : RelD I d v := by
  unfold okD at h
  split at h <;> first | (simp at h; done) | skip
  all_goals simp only [RelD, Bool.and_eq_true, beq_iff_eq] at h ⊢
  · rw [h]
  · rw [h.1, h.2]
  · exact ⟨_, rfl, h⟩
theorem okDs_rel {I : Imm} : ∀ {vs : List Value} {ds : List D}, okDs vs ds = true → RelDs I ds vs ∧ vs.length = ds.length
  | [], [], _ => ⟨RelDs.nil _ _, rfl⟩
  | [], _ :: _, h => by simp [okDs] at h
  | _ :: _, [], h => by simp [okDs] at h
  | v :: vs, d :: ds, h => by
    simp only [okDs, Bool.and_eq_true] at h
    obtain ⟨h1, h2⟩ := okDs_rel (I := I) h.2
    exact ⟨by simp only [RelDs]; exact ⟨okD_rel h.1, h1⟩, by simp [h2]⟩
theorem okCs_rel {M : MM} : ∀ {vs : List Value} {ds : List C}, okCs vs ds = true → RelCs M ds vs ∧ vs.length = ds.length
  | [], [], _ => ⟨RelCs.nil _ _, rfl⟩
  | [], _ :: _, h => by simp [okCs] at h
  | _ :: _, [], h => by simp [okCs] at h
  | v :: vs, .d d :: ds, h => by
    simp only [okCs, Bool.and_eq_true] at h
    obtain ⟨h1, h2⟩ := okCs_rel (M := M) h.2
    exact ⟨by simp only [RelCs, RelC]; exact ⟨okD_rel h.1, h1⟩, by simp [h2]⟩
  | v :: vs, .ptr _ _ _ :: ds, h => by simp [okCs] at h
  | v :: vs, .os _ _ _ _ _ _ :: ds, h => by simp [okCs] at h
  | v :: vs, .fn _ _ _ :: ds, h => by simp [okCs] at h
  | v :: vs, .yld _ :: ds, h => by simp [okCs] at h
  | v :: vs, .bt _ _ :: ds, h => by simp [okCs] at h
  | v :: vs, .mp _ :: ds, h => by simp [okCs] at h
  | v :: vs, .ch _ :: ds, h => by simp [okCs] at h
theorem okV_rel {M : MM} {v : Value} {x : V} (h : okV v x = true) : RelV M x v := by
  unfold okV at h
  split at h
  · obtain ⟨h1, h2⟩ := okCs_rel (M := M) h
    rw [relV_agg]
    exact ⟨_, rfl, by simpa using h2, h1⟩
  · rw [relV_d]; exact okD_rel h
  · cases h

/-! ### Whole numbers -/
theorem asInt_rel {M : MM} {x : V} {v : Value} {n : Int} (h : asInt x = some n) (r : RelV M x v) : ∃ k, v = .int k n := by
  unfold asInt at h
  split at h
  · cases h; rw [relV_int] at r; exact ⟨_, r⟩
  · cases h
theorem asNat_rel {M : MM} {x : V} {v : Value} {n : Nat} (h : asNat x = some n) (r : RelV M x v) : ∃ k, v = .int k (n : Int) := by
  unfold asNat at h
  cases hi : asInt x with
  | none => rw [hi] at h; cases h
  | some m =>
    rw [hi] at h
    simp only at h
    split at h
    · rename_i h0
      cases h
      obtain ⟨k, rfl⟩ := asInt_rel hi r
      exact ⟨k, by rw [Int.toNat_of_nonneg h0]⟩
    · cases h

def valD : D → Value
  | .bool b => .bool b
  | .int k n => .int k n
  | _ => undef

section
variable {P : Program} {M : MM} {w : World}

theorem fin_int {I : Imm} {x : Sem Value} {k : IntKind} {n : Int} (h : x.run P w = .ok (.int k n) w) : ∃ v', x.run P w = .ok v' w ∧ RelD I (.int k n) v' := ⟨_, h, by simp only [RelD]⟩
theorem fin_bool {I : Imm} {x : Sem Value} {b : Bool} (h : x.run P w = .ok (.bool b) w) : ∃ v', x.run P w = .ok v' w ∧ RelD I (.bool b) v' := ⟨_, h, by simp only [RelD]⟩

theorem binInt_rel {I : Imm} {op : BinOp} {k : IntKind} {a b : Int} {d : D} (t : TypeId) (h : binInt op k a b = some d) :
    ∃ v', (binOp op t (.int k a) (.int k b)).run P w = .ok v' w ∧ RelD I d v' := by
  unfold binInt at h
  cases op <;> simp only [] at h
  case quo =>
    split at h
    · cases h
    · rename_i hb
      cases h
      refine ⟨.int k (k.wrap (a.tdiv b)), by simp [binOp, Op.intDiv, hb], by simp only [RelD]⟩
  case rem =>
    split at h
    · cases h
    · rename_i hb
      cases h
      refine ⟨.int k (a.tmod b), by simp [binOp, Op.intDiv, hb], by simp only [RelD]⟩
  all_goals first
    | (cases h; done)
    | (cases h; exact fin_int (by simp [binOp, Op.intArith, Op.intBits, bits]))
    | (cases h; exact fin_bool (by simp [binOp, Op.intCmp]))

theorem bytes_inj {a b : ByteArray} (h : a.data.toList.map UInt8.toNat = b.data.toList.map UInt8.toNat) : a = b := by
  have : a.data.toList = b.data.toList := by
    apply List.map_inj_right (f := UInt8.toNat) (fun x y e => UInt8.toNat_inj.1 e) |>.1 h
  cases a; cases b
  simp only [ByteArray.mk.injEq]
  exact Array.toList_inj.1 this

theorem toList_bytes (a : ByteArray) : a.toList = a.data.toList := ByteArray.toList_eq a

theorem strEq_rel (a b : ByteArray) : (a.data.toList == b.data.toList) = (a.data.toList.map UInt8.toNat == b.data.toList.map UInt8.toNat) := by
  rw [Bool.eq_iff_iff, beq_iff_eq, beq_iff_eq]
  exact ⟨fun h => by rw [h], fun h => by rw [bytes_inj h]⟩

theorem strLess_rel : ∀ (a b : List UInt8), Op.bytesLess a b = strLess (a.map UInt8.toNat) (b.map UInt8.toNat)
  | [], [] => rfl
  | _ :: _, [] => rfl
  | [], _ :: _ => rfl
  | x :: xs, y :: ys => by
    simp only [Op.bytesLess, strLess, List.map_cons, strLess_rel xs ys]
    congr 1
    congr 1
    rw [Bool.eq_iff_iff, beq_iff_eq, beq_iff_eq]
    exact UInt8.toNat_inj.symm

theorem binStr_rel {I : Imm} {op : BinOp} {a b : ByteArray} {d : D} (t : TypeId) (h : binStr op (a.data.toList.map UInt8.toNat) (b.data.toList.map UInt8.toNat) = some d) :
    ∃ v', (binOp op t (.string a) (.string b)).run P w = .ok v' w ∧ RelD I d v' := by
  unfold binStr at h
  cases op <;> simp only [] at h
  case add =>
    split at h
    · rename_i hl
      cases h
      simp only [List.length_map, Array.length_toList] at hl
      have hs : ¬ (((a.size + b.size : Nat) : Int) > IntKind.i64.max) := by
        have ha : a.size = a.data.size := rfl
        have hb : b.size = b.data.size := rfl
        have hm : IntKind.i64.max = 9223372036854775807 := rfl
        rw [hm]; omega
      refine ⟨.string (a ++ b), by simp only [binOp, Op.stringOp, hs, if_false, Sem.run_pure], ?_⟩
      simp only [RelD]
      exact ⟨_, rfl, by simp⟩
    · cases h
  all_goals first
    | (cases h; done)
    | (cases h; exact fin_bool (by simp only [binOp, Op.stringOp, Sem.run_pure, toList_bytes, strLess_rel, ← strEq_rel]))

theorem eqGuard_int {op : BinOp} {t : TypeId} {x y : Operand} {k k' : IntKind} {a b : Int} : (eqGuard op t x y (.int k a) (.int k' b)).run P w = .ok () w := by
  cases op <;> simp [eqGuard]
theorem eqGuard_str {op : BinOp} {t : TypeId} {x y : Operand} {a b : ByteArray} : (eqGuard op t x y (.string a) (.string b)).run P w = .ok () w := by
  cases op <;> simp [eqGuard]
theorem eqGuard_bool {op : BinOp} {t : TypeId} {x y : Operand} {a b : Bool} : (eqGuard op t x y (.bool a) (.bool b)).run P w = .ok () w := by
  cases op <;> simp [eqGuard]

/-- Two operands. -/
theorem bin_rel {op : BinOp} {t : TypeId} {x y : Operand} {a b : C} {d : D} {va vb : Value} (h : bin op a b = some d) (ra : RelC M a va) (rb : RelC M b vb) :
    ∃ v', (do eqGuard op t x y va vb; binOp op t va vb : Sem Value).run P w = .ok v' w ∧ RelD M.imm d v' := by
  unfold bin at h
  split at h
  · simp only [RelC, RelD] at ra rb
    subst ra rb
    split at h
    · cases h
    · rename_i hb
      cases h
      exact fin_int (by rw [Sem.run_bind, eqGuard_int]; simp [binOp, Op.shift, hb])
  · simp only [RelC, RelD] at ra rb
    subst ra rb
    split at h
    · cases h
    · rename_i hb
      cases h
      exact fin_int (by rw [Sem.run_bind, eqGuard_int]; simp [binOp, Op.shift, hb])
  · simp only [RelC, RelD] at ra rb
    subst ra rb
    split at h
    · rename_i hk
      subst hk
      obtain ⟨v', hv, hr⟩ := binInt_rel (P := P) (w := w) (I := M.imm) t h
      exact ⟨v', by rw [Sem.run_bind, eqGuard_int]; exact hv, hr⟩
    · cases h
  · simp only [RelC, RelD] at ra rb
    obtain ⟨ba, rfl, rfl⟩ := ra
    obtain ⟨bb, rfl, rfl⟩ := rb
    obtain ⟨v', hv, hr⟩ := binStr_rel (P := P) (w := w) (I := M.imm) t h
    exact ⟨v', by rw [Sem.run_bind, eqGuard_str]; exact hv, hr⟩
  · cases h

/-! ### Each quiet operation -/
theorem quiet_of {x : Sem Value} {s : Sem Next} (hs : s = (do pure (.value (← x)))) {v : V} {v' : Value} (h : x.run P w = .ok v' w) (r : RelV M v v') : Quiet P M w s v :=
  ⟨v', by rw [hs]; simp [h], r⟩
theorem quiet_of' {x : Sem Value} {s : Sem Next} (hs : s = (do pure (.value (← x)))) {v : V} (h : ∃ v', x.run P w = .ok v' w ∧ RelV M v v') : Quiet P M w s v := by
  obtain ⟨v', h1, h2⟩ := h
  exact quiet_of hs h1 h2

/-- Objects that are alike but for the mark that they are written no more. -/
def Same : Ob → Ob → Prop
  | .cells cs g _, .cells cs' g' _ => cs = cs' ∧ g = g'
  | a, b => a = b
/-- Every object of the first heap lies in the second. -/
def Sub (H H' : Heap) : Prop := ∀ id o, ob? H id = some o → ∃ o', ob? H' id = some o' ∧ Same o o'

theorem Same.refl (o : Ob) : Same o o := by cases o <;> simp [Same]
theorem Same.trans {a b c : Ob} (h : Same a b) (k : Same b c) : Same a c := by
  cases a <;> cases b <;> cases c <;> simp_all [Same]
theorem Sub.refl (H : Heap) : Sub H H := fun _ o h => ⟨o, h, Same.refl o⟩
theorem Sub.trans {A B D : Heap} (h : Sub A B) (k : Sub B D) : Sub A D := fun id o ho => by
  obtain ⟨o', h1, h2⟩ := h id o ho
  obtain ⟨o'', h3, h4⟩ := k id o' h1
  exact ⟨o'', h3, h2.trans h4⟩

variable {k : K} {o : Oper} {lk : A → V} {ρ : Operand → Value} {Hi H : Heap} {base : Nat}

theorem mapA {xs : List Operand} {as : List A} (hA : ∀ x a, okA k x a = true → RelV M (lk a) (ρ x)) (h : okAs k xs as = true) : RelVs M (as.map lk) (xs.map ρ) ∧ xs.length = as.length := by
  induction xs generalizing as with
  | nil => cases as <;> simp_all [okAs, RelVs.nil]
  | cons x xs ih =>
    cases as with
    | nil => simp [okAs] at h
    | cons a as =>
      simp only [okAs, Bool.and_eq_true] at h
      obtain ⟨h1, h2⟩ := ih h.2
      exact ⟨by simp only [List.map_cons, RelVs]; exact ⟨hA _ _ h.1, h1⟩, by simp [h2]⟩

theorem q_mov {a : A} {v : V} {n : List Ob} (hA : ∀ x a, okA k x a = true → RelV M (lk a) (ρ x)) (hok : okOp P k o (.mov a) = true) (h : stepP lk Hi (.mov a) = some (v, n)) : Quiet P M w (execOp ρ o) v := by
  simp only [stepP, Option.some.injEq, Prod.mk.injEq] at h
  obtain ⟨rfl, rfl⟩ := h
  cases hop : o.op <;> simp only [okOp, hop] at hok <;> try (cases hok; done)
  case move x => exact ⟨ρ x, by simp [execOp, hop], hA _ _ hok⟩
  case assign x => exact ⟨ρ x, by simp [execOp, hop], hA _ _ hok⟩

theorem q_cvs {a : A} {v : V} {n : List Ob} (hA : ∀ x a, okA k x a = true → RelV M (lk a) (ρ x)) (hok : okOp P k o (.cvs a) = true) (h : stepP lk Hi (.cvs a) = some (v, n)) : Quiet P M w (execOp ρ o) v := by
  simp only [stepP] at h
  split at h <;> try (cases h; done)
  rename_i l hl
  simp only [Option.some.injEq, Prod.mk.injEq] at h
  obtain ⟨rfl, rfl⟩ := h
  cases hop : o.op <;> simp only [okOp, hop] at hok <;> try (cases hok; done)
  rename_i s t x
  simp only [Bool.and_eq_true] at hok
  obtain ⟨h1, h2⟩ := hok
  have hr := hA _ _ h2
  rw [hl, relV_str] at hr
  obtain ⟨bs, hbs, hl2⟩ := hr
  split at h1 <;> try (cases h1; done)
  rename_i hs ht
  refine ⟨.string bs, ?_, by rw [relV_str]; exact ⟨bs, rfl, hl2⟩⟩
  simp [execOp, hop, hbs, convert, run_underlying hs, run_underlying ht]

theorem q_pick {a b c : A} {v : V} {n : List Ob} (hA : ∀ x a, okA k x a = true → RelV M (lk a) (ρ x)) (hok : okOp P k o (.pick c a b) = true) (h : stepP lk Hi (.pick c a b) = some (v, n)) : Quiet P M w (execOp ρ o) v := by
  simp only [stepP] at h
  split at h <;> try (cases h; done)
  rename_i t ht
  simp only [Option.some.injEq, Prod.mk.injEq] at h
  obtain ⟨rfl, rfl⟩ := h
  cases hop : o.op <;> simp only [okOp, hop] at hok <;> try (cases hok; done)
  simp only [Bool.and_eq_true] at hok
  obtain ⟨⟨h1, h2⟩, h3⟩ := hok
  have r1 := hA _ _ h1
  rw [ht, relV_bool] at r1
  cases t
  · exact ⟨_, by simp [execOp, hop, r1, asBool], hA _ _ h3⟩
  · exact ⟨_, by simp [execOp, hop, r1, asBool], hA _ _ h2⟩

theorem q_bin {op : BinOp} {a b : A} {v : V} {n : List Ob} (hA : ∀ x a, okA k x a = true → RelV M (lk a) (ρ x)) (hok : okOp P k o (.bin op a b) = true) (h : stepP lk Hi (.bin op a b) = some (v, n)) : Quiet P M w (execOp ρ o) v := by
  simp only [stepP] at h
  split at h <;> try (cases h; done)
  rename_i x y hx hy
  cases hb : bin op x y with
  | none => rw [hb] at h; cases h
  | some d =>
    rw [hb] at h
    simp only [Option.map_some, Option.some.injEq, Prod.mk.injEq] at h
    obtain ⟨rfl, rfl⟩ := h
    cases hop : o.op <;> simp only [okOp, hop] at hok <;> try (cases hok; done)
    simp only [Bool.and_eq_true, beq_iff_eq] at hok
    obtain ⟨⟨rfl, h1⟩, h2⟩ := hok
    have r1 := hA _ _ h1
    have r2 := hA _ _ h2
    rw [hx, relV_c] at r1
    rw [hy, relV_c] at r2
    rename_i t x' y' u
    refine quiet_of' (by simp only [execOp, hop]; rfl) ?_
    obtain ⟨v', hv, hr⟩ := bin_rel (P := P) (w := w) (t := t) (x := x') (y := y') hb r1 r2
    exact ⟨v', hv, by rw [relV_d]; exact hr⟩

theorem q_beq {neg : Bool} {a b : A} {v : V} {n : List Ob} (hA : ∀ x a, okA k x a = true → RelV M (lk a) (ρ x)) (hok : okOp P k o (.beq neg a b) = true) (h : stepP lk Hi (.beq neg a b) = some (v, n)) : Quiet P M w (execOp ρ o) v := by
  simp only [stepP] at h
  split at h <;> try (cases h; done)
  rename_i x y hx hy
  simp only [Option.some.injEq, Prod.mk.injEq] at h
  obtain ⟨rfl, rfl⟩ := h
  cases hop : o.op <;> simp only [okOp, hop] at hok <;> try (cases hok; done)
  simp only [Bool.and_eq_true] at hok
  obtain ⟨⟨⟨h0, ht⟩, h1⟩, h2⟩ := hok
  have r1 := hA _ _ h1
  have r2 := hA _ _ h2
  rw [hx, relV_bool] at r1
  rw [hy, relV_bool] at r2
  rename_i op t x' y' u
  have ht' : P.underlying t = some .bool := by split at ht <;> first | assumption | cases ht
  split at h0
  · refine quiet_of (v' := .bool (x == y)) (by simp only [execOp, hop]; rfl) ?_ (by rw [relV_bool]; cases neg <;> simp_all)
    rw [r1, r2, Sem.run_bind, eqGuard_bool]
    simp [binOp, Op.equal, Op.maxDepth, run_equalIn_bool' w 9999 t x y ht']
  · refine quiet_of (v' := .bool (!(x == y))) (by simp only [execOp, hop]; rfl) ?_ (by rw [relV_bool]; cases neg <;> simp_all)
    rw [r1, r2, Sem.run_bind, eqGuard_bool]
    simp [binOp, Op.equal, Op.maxDepth, run_equalIn_bool' w 9999 t x y ht']
  · cases h0

theorem eqIn_nn (d : Nat) {t : TypeId} {ms : Array (String × TypeId)} (h : P.underlying t = some (.interface ms)) : (Op.equalIn (d + 1) t .nilIface .nilIface).run P w = .ok true w := by simp [Op.equalIn, run_underlying h]
theorem eqIn_xn (d : Nat) {t : TypeId} {ms : Array (String × TypeId)} (h : P.underlying t = some (.interface ms)) (u : TypeId) (x : Value) : (Op.equalIn (d + 1) t (.iface u x) .nilIface).run P w = .ok false w := by simp [Op.equalIn, run_underlying h]

theorem q_isn {neg : Bool} {a : A} {v : V} {n : List Ob} (hA : ∀ x a, okA k x a = true → RelV M (lk a) (ρ x)) (hc : ∀ x, ρ (.const x) = x) (hok : okOp P k o (.isn neg a) = true) (h : stepP lk Hi (.isn neg a) = some (v, n)) : Quiet P M w (execOp ρ o) v := by
  cases hop : o.op <;> simp only [okOp, hop] at hok <;> try (cases hok; done)
  rename_i op t x y u
  simp only [Bool.and_eq_true] at hok
  obtain ⟨⟨⟨hy, h0⟩, ht⟩, h1⟩ := hok
  split at hy
  · have r1 := hA _ _ h1
    have ht' : ∃ ms, P.underlying t = some (.interface ms) := by split at ht <;> first | exact ⟨_, by assumption⟩ | cases ht
    obtain ⟨ms, ht'⟩ := ht'
    simp only [stepP] at h
    split at h
    · rename_i hx
      simp only [Option.some.injEq, Prod.mk.injEq] at h
      obtain ⟨rfl, rfl⟩ := h
      rw [hx, relV_nili] at r1
      split at h0
      · refine quiet_of (v' := .bool true) (by simp only [execOp, hop]; rfl) ?_ (by rw [relV_bool]; cases neg <;> simp_all)
        rw [hc, r1]
        simp [eqGuard, binOp, Op.equal, Op.maxDepth, eqIn_nn (w := w) 9999 ht']
      · refine quiet_of (v' := .bool false) (by simp only [execOp, hop]; rfl) ?_ (by rw [relV_bool]; cases neg <;> simp_all)
        rw [hc, r1]
        simp [eqGuard, binOp, Op.equal, Op.maxDepth, eqIn_nn (w := w) 9999 ht']
      · cases h0
    · rename_i hx
      simp only [Option.some.injEq, Prod.mk.injEq] at h
      obtain ⟨rfl, rfl⟩ := h
      rw [hx, relV_d] at r1
      simp only [RelD] at r1
      obtain ⟨ty, vy, r1⟩ := r1
      split at h0
      · refine quiet_of (v' := .bool false) (by simp only [execOp, hop]; rfl) ?_ (by rw [relV_bool]; cases neg <;> simp_all)
        rw [hc, r1]
        simp [eqGuard, binOp, Op.equal, Op.maxDepth, eqIn_xn (w := w) 9999 ht']
      · refine quiet_of (v' := .bool true) (by simp only [execOp, hop]; rfl) ?_ (by rw [relV_bool]; cases neg <;> simp_all)
        rw [hc, r1]
        simp [eqGuard, binOp, Op.equal, Op.maxDepth, eqIn_xn (w := w) 9999 ht']
      · cases h0
    · rename_i t' g' ds' hx
      simp only [Option.some.injEq, Prod.mk.injEq] at h
      obtain ⟨rfl, rfl⟩ := h
      rw [hx, relV_d] at r1
      obtain ⟨ty, vy, r1⟩ : ∃ ty vy, ρ x = .iface ty vy := by
        cases g' <;> simp only [RelD] at r1
        · obtain ⟨vy, r1, _⟩ := r1; exact ⟨_, _, r1⟩
        · obtain ⟨arr, r1, _⟩ := r1; exact ⟨_, _, r1⟩
      split at h0
      · refine quiet_of (v' := .bool false) (by simp only [execOp, hop]; rfl) ?_ (by rw [relV_bool]; cases neg <;> simp_all)
        rw [hc, r1]
        simp [eqGuard, binOp, Op.equal, Op.maxDepth, eqIn_xn (w := w) 9999 ht']
      · refine quiet_of (v' := .bool true) (by simp only [execOp, hop]; rfl) ?_ (by rw [relV_bool]; cases neg <;> simp_all)
        rw [hc, r1]
        simp [eqGuard, binOp, Op.equal, Op.maxDepth, eqIn_xn (w := w) 9999 ht']
      · cases h0
    · cases h
  · cases hy
end
end Mini
end Go.Proofs.YtmcgaakbkgdljaaGreatDoor
