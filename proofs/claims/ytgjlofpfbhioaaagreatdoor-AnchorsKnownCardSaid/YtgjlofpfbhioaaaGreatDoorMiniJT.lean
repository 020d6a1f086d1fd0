/-
  Loops of the abstract machine, its steps as equations, rows of elements; fuel and contexts.
-/
import Derived.Test.YtgjlofpfbhioaaaGreatDoorMiniV2
namespace Go.Proofs.YtgjlofpfbhioaaaGreatDoor
namespace Mini
open Go

theorem ob_eq : ∀ (H : Heap) id, ob? H id = H[id]?
  | [], _ => rfl
  | _ :: _, 0 => rfl
  | _ :: H, n + 1 => by simpa [ob?] using ob_eq H n
theorem setOb_eq (o : Ob) : ∀ (H : Heap) id, setOb H id o = H.set id o
  | [], _ => rfl
  | _ :: _, 0 => rfl
  | x :: H, n + 1 => by simpa [setOb] using setOb_eq o H n
theorem asNat_nat (k : IntKind) (n : Nat) : asNat (.c (.d (.int k (n : Int)))) = some n := by simp [asNat, asInt]
theorem iter_step {js : Option (List Nat)} {hl : Nat} {body : St → Option (Ex × St)} {n : Nat} {s s' : St} (h : body s = some (.nrm, s')) : iter js hl body (n + 1) s = iter js hl body n (tidy hl js s') := by simp only [iter, h]
theorem iter_stop {js : Option (List Nat)} {hl : Nat} {body : St → Option (Ex × St)} {n : Nat} {s s' : St} {b : Nat} (h : body s = some (.exit b, s')) : iter js hl body (n + 1) s = some (.exit b, s') := by simp only [iter, h]
theorem gc_le {hl : Nat} {s : St} (h : s.heap.length ≤ hl) : gc hl s = s := by
  unfold gc
  rw [List.take_of_length_le h]
  split <;> rfl
theorem gc_yes {hl : Nat} {r : List V} {H : Heap} (h1 : r.all (V.under hl) = true) (h2 : (H.take hl).all (Ob.under hl) = true) : gc hl ⟨r, H⟩ = ⟨r, H.take hl⟩ := by
  unfold gc
  rw [if_pos (by simp only [h1, h2, Bool.and_self])]
theorem gc_no {hl : Nat} {r : List V} {H : Heap} (h1 : r.all (V.under hl) = false) : gc hl ⟨r, H⟩ = ⟨r, H⟩ := by
  unfold gc
  rw [if_neg (by simp [h1])]
theorem zq {E : Env} {N : Nat} {rd : Bool} {a b : I} {s s' : St} (h : exec E N rd a s = some (.nrm, s')) : exec E N rd (.seq a b) s = exec E N rd b s' := by simp only [exec, h]
theorem zq_out {E : Env} {N : Nat} {rd : Bool} {a b : I} {s s' : St} {e : Ex} (h : exec E N rd a s = some (e, s')) (he : e ≠ .nrm) : exec E N rd (.seq a b) s = some (e, s') := by
  cases e with
  | nrm => exact absurd rfl he
  | _ => simp only [exec, h]
theorem zb {E : Env} {N : Nat} {rd : Bool} {id : Nat} {b : I} {s s' : St} (h : exec E N rd b s = some (.exit id, s')) : exec E N rd (.block id b) s = some (.nrm, s') := by simp [exec, h]
theorem zb_nrm {E : Env} {N : Nat} {rd : Bool} {id : Nat} {b : I} {s s' : St} (h : exec E N rd b s = some (.nrm, s')) : exec E N rd (.block id b) s = some (.nrm, s') := by simp [exec, h]
theorem zl {E : Env} {N : Nat} {rd : Bool} {js : Option (List Nat)} {b : I} {s : St} {r : Option (Ex × St)} (h : iter js s.heap.length (exec E N rd b) N (tidy s.heap.length js s) = r) : exec E N rd (.loop js b) s = r := by simpa only [exec] using h

/-- Objects without references. -/
def dOb : Ob → Bool
  | .cells cs _ _ => cs.all C.isD
  | .bld _ => true
  | .dead => true
  | _ => false
theorem undersC_d (n : Nat) : ∀ cs : List C, cs.all C.isD = true → undersC n cs = true
  | [], _ => rfl
  | c :: cs, h => by
    rw [List.all_cons, Bool.and_eq_true] at h
    cases c with
    | d x => simp only [undersC, C.under, undersC_d n cs h.2, Bool.and_self]
    | _ => cases h.1
theorem dOb_under (n : Nat) (o : Ob) (h : dOb o = true) : o.under n = true := by
  cases o with
  | cells cs g f => exact undersC_d n cs h
  | loop _ _ _ _ _ _ => cases h
  | _ => rfl
theorem heap_under {H : Heap} (n m : Nat) (h : ∀ o ∈ H, dOb o = true) : (H.take n).all (Ob.under m) = true := by
  rw [List.all_eq_true]
  exact fun o ho => dOb_under m o (h o (List.mem_of_mem_take ho))
theorem mem_set {H : Heap} {i : Nat} {o : Ob} (h : ∀ x ∈ H, dOb x = true) (ho : dOb o = true) : ∀ x ∈ H.set i o, dOb x = true := fun x hx => by
  rcases List.mem_or_eq_of_mem_set hx with h' | rfl
  · exact h x h'
  · exact ho

theorem zip_ld {β : Type} (pre post : List β) (x : β) : ((pre ++ x :: post).drop pre.length).take 1 = [x] := by simp
theorem zip_st (pre post : List C) (x y : C) : splice (pre ++ x :: post) pre.length [y] = pre ++ y :: post := by
  unfold splice
  simp [List.drop_append]
theorem set_same {β : Type} {H : List β} {id : Nat} {o : β} (h : H[id]? = some o) : H.set id o = H := by
  obtain ⟨hi, rfl⟩ := List.getElem?_eq_some_iff.1 h
  exact List.set_getElem_self hi
theorem wrap_nat {k : Nat} (h : k < 9223372036854775808) : IntKind.i64.wrap (k : Int) = (k : Int) := by
  simp only [IntKind.wrap, IntKind.bits, IntKind.signed]
  simp
  omega
theorem wrap_succ {k : Nat} (h : k + 1 < 9223372036854775808) : IntKind.i64.wrap ((k : Int) + 1) = ((k + 1 : Nat) : Int) := by
  rw [← wrap_nat h]
  rfl
/-! ### Calls -/
def zenv (X : Ctx) (n : Nat) : Env := {
      call := callN X n
      vcall := fun f vs => match X.prim f vs with
        | some r => some r
        | none => match callN X n (.d (.fn f [] [])) vs [] with
          | some (r, H') => deepV H' r
          | none => none
      prim := X.prim, bprim := X.bprim, glob := X.glob }
theorem callN_fn {X : Ctx} {n : Nat} {f : FuncId} {F : Fn} {args : List V} {H : Heap} (h : X.fns f = some F) : callN X (n + 1) (.d (.fn f [] [])) args H = runFn (zenv X n) n F args H := by
  have : callN X (n + 1) (.d (.fn f [] [])) args H = match X.fns f with
      | some F => runFn (zenv X n) n F (([] : List D).map (fun x => .c (.d x)) ++ args ++ ([] : List D).map (fun x => .c (.d x))) H
      | none => X.hprim f (([] : List D).map (fun x => .c (.d x)) ++ args ++ ([] : List D).map (fun x => .c (.d x))) H := rfl
  rw [this, h]
  simp
theorem zenv_prim {X : Ctx} {n : Nat} {f : FuncId} {vs : List V} {r : V} (h : X.prim f vs = some r) : (zenv X n).vcall f vs = some r := by
  show (match X.prim f vs with
        | some r => some r
        | none => match callN X n (.d (.fn f [] [])) vs [] with
          | some (r, H') => deepV H' r
          | none => none) = some r
  rw [h]
theorem zenv_vcall {X : Ctx} {n : Nat} {f : FuncId} {vs : List V} {r : Option V} (h : X.prim f vs = none) (hr : vcallN X n f vs = r) : (zenv X n).vcall f vs = r := by
  show (match X.prim f vs with
        | some r => some r
        | none => match callN X n (.d (.fn f [] [])) vs [] with
          | some (r, H') => deepV H' r
          | none => none) = r
  rw [h]
  exact hr
theorem zenv_call {X : Ctx} {n : Nat} : (zenv X n).call = callN X n := rfl
theorem vcall_of {X : Ctx} {n : Nat} {f : FuncId} {vs : List V} {r v : V} {H : Heap} (h : callN X n (.d (.fn f [] [])) vs [] = some (r, H)) (hd : deepV H r = some v) : vcallN X n f vs = some v := by
  unfold vcallN
  rw [h]
  exact hd
end Mini
end Go.Proofs.YtgjlofpfbhioaaaGreatDoor
namespace Go.Proofs.YtgjlofpfbhioaaaGreatDoor
namespace Mini
open Go
def cont (x : Option (V × Heap)) (E : Env) (regs : List V) (ps : List Gp) (ts : List V) : Option (List V × Heap) :=
  match x with
  | some (v, H') => runOps E regs ps (v :: ts) H'
  | none => none
theorem cont_some (v : V) (H' : Heap) (E : Env) (regs : List V) (ps : List Gp) (ts : List V) : cont (some (v, H')) E regs ps ts = runOps E regs ps (v :: ts) H' := rfl
theorem ro_nil (E : Env) (regs ts : List V) (H : Heap) : runOps E regs [] ts H = some (ts, H) := rfl
theorem ro_none (op : O) (E : Env) (regs : List V) (ps : List Gp) (ts : List V) (H : Heap) : runOps E regs (⟨none, op⟩ :: ps) ts H = cont (step E (look E regs ts) H op) E regs ps ts := by
  simp only [runOps, wants, cont]
  cases step E (look E regs ts) H op with
  | none => rfl
  | some p => rfl
def gcont (g : V) (b : Bool) (op : O) (E : Env) (regs : List V) (ps : List Gp) (ts : List V) (H : Heap) : Option (List V × Heap) :=
  match g with
  | .c (.d (.bool t)) => if (t == b) = true then cont (step E (look E regs ts) H op) E regs ps ts else runOps E regs ps (.tup [] :: ts) H
  | .tup [] => runOps E regs ps (.tup [] :: ts) H
  | _ => none
theorem ro_some (k : Nat) (b : Bool) (op : O) (E : Env) (regs : List V) (ps : List Gp) (ts : List V) (H : Heap) : runOps E regs (⟨some (k, b), op⟩ :: ps) ts H = gcont (nth ts k) b op E regs ps ts H := by
  simp only [runOps, wants, gcont, cont]
  cases nth ts k with
  | c x =>
    cases x with
    | d y =>
      cases y with
      | bool t =>
        cases t <;> cases b <;> first
          | rfl
          | (simp only [beq_self_eq_true, if_true]
             cases step E (look E regs ts) H op with
             | none => rfl
             | some p => rfl)
      | _ => rfl
    | _ => rfl
  | tup vs => cases vs <;> rfl
  | _ => rfl
theorem gc_tt (op : O) (E : Env) (regs : List V) (ps : List Gp) (ts : List V) (H : Heap) : gcont (.c (.d (.bool true))) true op E regs ps ts H = cont (step E (look E regs ts) H op) E regs ps ts := rfl
theorem gc_ff (op : O) (E : Env) (regs : List V) (ps : List Gp) (ts : List V) (H : Heap) : gcont (.c (.d (.bool false))) false op E regs ps ts H = cont (step E (look E regs ts) H op) E regs ps ts := rfl
theorem gc_tf (op : O) (E : Env) (regs : List V) (ps : List Gp) (ts : List V) (H : Heap) : gcont (.c (.d (.bool true))) false op E regs ps ts H = runOps E regs ps (.tup [] :: ts) H := rfl
theorem gc_ft (op : O) (E : Env) (regs : List V) (ps : List Gp) (ts : List V) (H : Heap) : gcont (.c (.d (.bool false))) true op E regs ps ts H = runOps E regs ps (.tup [] :: ts) H := rfl
theorem gc_t (b : Bool) (op : O) (E : Env) (regs : List V) (ps : List Gp) (ts : List V) (H : Heap) : gcont (.tup []) b op E regs ps ts H = runOps E regs ps (.tup [] :: ts) H := rfl
def seqc (x : Option (Ex × St)) (E : Env) (N : Nat) (rd : Bool) (b : I) : Option (Ex × St) :=
  match x with
  | some (.nrm, s') => exec E N rd b s'
  | r => r
theorem ex_seq (E : Env) (N : Nat) (rd : Bool) (a b : I) (s : St) : exec E N rd (.seq a b) s = seqc (exec E N rd a s) E N rd b := rfl
theorem sq_nrm (s : St) (E : Env) (N : Nat) (rd : Bool) (b : I) : seqc (some (.nrm, s)) E N rd b = exec E N rd b s := rfl
theorem sq_ret (s : St) (E : Env) (N : Nat) (rd : Bool) (b : I) : seqc (some (.ret, s)) E N rd b = some (.ret, s) := rfl
theorem sq_exit (id : Nat) (s : St) (E : Env) (N : Nat) (rd : Bool) (b : I) : seqc (some (.exit id, s)) E N rd b = some (.exit id, s) := rfl
def regc (x : Option (List V × Heap)) (E : Env) (regs : List V) (exp : List (Nat × Nat)) (aps : List (A × A)) : Option (Ex × St) :=
  match x with
  | some (ts, H) => if aps.all (fun (a, b) => apart (look E regs ts a) (look E regs ts b)) then some (.nrm, ⟨exports regs ts exp, H⟩) else none
  | none => none
theorem ex_reg (E : Env) (N : Nat) (rd d : Bool) (ops : List Gp) (exp : List (Nat × Nat)) (aps : List (A × A)) (regs : List V) (H : Heap) : exec E N rd (.reg d ops exp aps) ⟨regs, H⟩ = regc (runOps E regs ops [] H) E regs exp aps := rfl
theorem rg_some (ts : List V) (H : Heap) (E : Env) (regs : List V) (exp : List (Nat × Nat)) : regc (some (ts, H)) E regs exp [] = some (.nrm, ⟨exports regs ts exp, H⟩) := rfl
def condc (v : V) (E : Env) (N : Nat) (rd : Bool) (a b : I) (s : St) : Option (Ex × St) :=
  match v with
  | .c (.d (.bool t)) => bif t then exec E N rd a s else exec E N rd b s
  | _ => none
theorem ex_cond (E : Env) (N : Nat) (rd : Bool) (c : A) (a b : I) (regs : List V) (H : Heap) : exec E N rd (.cond c a b) ⟨regs, H⟩ = condc (look E regs [] c) E N rd a b ⟨regs, H⟩ := rfl
theorem cd_t (E : Env) (N : Nat) (rd : Bool) (a b : I) (s : St) : condc (.c (.d (.bool true))) E N rd a b s = exec E N rd a s := rfl
theorem cd_f (E : Env) (N : Nat) (rd : Bool) (a b : I) (s : St) : condc (.c (.d (.bool false))) E N rd a b s = exec E N rd b s := rfl
theorem ex_skip (E : Env) (N : Nat) (rd : Bool) (s : St) : exec E N rd .skip s = some (.nrm, s) := rfl
theorem ex_ret (E : Env) (N : Nat) (rd : Bool) (s : St) : exec E N rd .ret s = some (.ret, s) := rfl
theorem ex_exit (E : Env) (N : Nat) (rd : Bool) (id : Nat) (s : St) : exec E N rd (.exit id) s = some (.exit id, s) := rfl
/-- The end of a function. -/
def fin (x : Option (Ex × St)) (F : List Rv) : Option (V × Heap) :=
  match x with
  | some (.exit _, _) => none
  | some (_, s) => (results s.regs s.heap F).map fun v => (v, s.heap)
  | none => none
theorem rf_fin (E : Env) (fuel np nr : Nat) (tm : List Nat) (res : List Rv) (body : I) (args : List V) (H : Heap) (h : args.length = np) : runFn E fuel ⟨np, nr, tm, res, body⟩ args H = fin (exec E fuel false body ⟨pad nr args, H⟩) res := by
  unfold runFn
  rw [if_pos h]
  simp only [fin]
  cases exec E fuel false body ⟨pad nr args, H⟩ with
  | none => rfl
  | some p => obtain ⟨e, s⟩ := p; cases e <;> rfl
theorem fin_ret (s : St) (F : List Rv) : fin (some (.ret, s)) F = (results s.regs s.heap F).map fun v => (v, s.heap) := rfl
theorem fin_nrm (s : St) (F : List Rv) : fin (some (.nrm, s)) F = (results s.regs s.heap F).map fun v => (v, s.heap) := rfl
end Mini
end Go.Proofs.YtgjlofpfbhioaaaGreatDoor
namespace Go.Proofs.YtgjlofpfbhioaaaGreatDoor
namespace Mini
open Go

/-! ### Rows of elements -/
theorem flat_len {sz : Nat} : ∀ es : List (List C), (∀ e ∈ es, e.length = sz) → es.flatten.length = es.length * sz
  | [], _ => by simp
  | e :: es, h => by
    rw [List.flatten_cons, List.length_append, flat_len es (fun x hx => h x (List.mem_cons_of_mem _ hx)), h e List.mem_cons_self, List.length_cons, Nat.succ_mul, Nat.add_comm]
theorem flat_split {sz : Nat} {es : List (List C)} {i : Nat} {e : List C} (h : ∀ e ∈ es, e.length = sz) (hi : es[i]? = some e) : es.flatten = (es.take i).flatten ++ (e ++ (es.drop (i + 1)).flatten) ∧ (es.take i).flatten.length = i * sz := by
  obtain ⟨hlt, rfl⟩ := List.getElem?_eq_some_iff.1 hi
  refine ⟨?_, ?_⟩
  · have := congrArg List.flatten (List.take_append_drop i es).symm
    rw [List.drop_eq_getElem_cons hlt, List.flatten_append, List.flatten_cons] at this
    exact this
  · rw [flat_len _ (fun x hx => h x (List.mem_of_mem_take hx)), List.length_take, Nat.min_eq_left (Nat.le_of_lt hlt)]
theorem flat_ld {sz : Nat} {es : List (List C)} {i : Nat} {e : List C} (h : ∀ e ∈ es, e.length = sz) (hi : es[i]? = some e) : (es.flatten.drop (i * sz)).take sz = e := by
  obtain ⟨h1, h2⟩ := flat_split h hi
  have he : e.length = sz := h e (List.mem_of_getElem? hi)
  rw [h1, ← h2, List.drop_left, ← he, List.take_left]
theorem flat_st {sz : Nat} {es : List (List C)} {i : Nat} {e : List C} (new : List C) (h : ∀ e ∈ es, e.length = sz) (hi : es[i]? = some e) (hn : new.length ≤ sz) : splice es.flatten (i * sz) new = (es.set i (new ++ e.drop new.length)).flatten := by
  obtain ⟨h1, h2⟩ := flat_split h hi
  obtain ⟨hlt, _⟩ := List.getElem?_eq_some_iff.1 hi
  have he : e.length = sz := h e (List.mem_of_getElem? hi)
  unfold splice
  rw [List.set_eq_take_append_cons_drop, if_pos hlt, List.flatten_append, List.flatten_cons]
  rw [h1, ← h2, List.take_left, ← List.drop_drop, List.drop_left, List.drop_append_of_le_length (by omega)]
  simp
theorem flat_set_len {sz : Nat} {es : List (List C)} {i : Nat} {e : List C} (h : ∀ e ∈ es, e.length = sz) (he : e.length = sz) : ∀ x ∈ es.set i e, x.length = sz := fun x hx => by
  rcases List.mem_or_eq_of_mem_set hx with h' | rfl
  · exact h x h'
  · exact he

/-! ### Behind a heap -/
theorem at0 {H t : Heap} {a : Ob} : (H ++ a :: t)[H.length]? = some a := by simp
theorem at1 {H t : Heap} {a b : Ob} : (H ++ a :: b :: t)[H.length + 1]? = some b := by rw [List.getElem?_append_right (by omega)]; simp
theorem at2 {H t : Heap} {a b c : Ob} : (H ++ a :: b :: c :: t)[H.length + 2]? = some c := by rw [List.getElem?_append_right (by omega)]; simp
theorem at3 {H t : Heap} {a b c d : Ob} : (H ++ a :: b :: c :: d :: t)[H.length + 3]? = some d := by rw [List.getElem?_append_right (by omega)]; simp
theorem at4 {H t : Heap} {a b c d e : Ob} : (H ++ a :: b :: c :: d :: e :: t)[H.length + 4]? = some e := by rw [List.getElem?_append_right (by omega)]; simp
theorem at5 {H t : Heap} {a b c d e f : Ob} : (H ++ a :: b :: c :: d :: e :: f :: t)[H.length + 5]? = some f := by rw [List.getElem?_append_right (by omega)]; simp
theorem se0 {H t : Heap} {a x : Ob} : (H ++ a :: t).set H.length x = H ++ x :: t := by simp
theorem se1 {H t : Heap} {a b x : Ob} : (H ++ a :: b :: t).set (H.length + 1) x = H ++ a :: x :: t := by rw [List.set_append_right _ _ (by omega)]; simp
theorem se2 {H t : Heap} {a b c x : Ob} : (H ++ a :: b :: c :: t).set (H.length + 2) x = H ++ a :: b :: x :: t := by rw [List.set_append_right _ _ (by omega)]; simp
theorem se3 {H t : Heap} {a b c d x : Ob} : (H ++ a :: b :: c :: d :: t).set (H.length + 3) x = H ++ a :: b :: c :: x :: t := by rw [List.set_append_right _ _ (by omega)]; simp
theorem se4 {H t : Heap} {a b c d e x : Ob} : (H ++ a :: b :: c :: d :: e :: t).set (H.length + 4) x = H ++ a :: b :: c :: d :: x :: t := by rw [List.set_append_right _ _ (by omega)]; simp
theorem atL {H t : Heap} {i : Nat} {o : Ob} (h : H[i]? = some o) : (H ++ t)[i]? = some o := by
  rw [List.getElem?_append_left (List.getElem?_eq_some_iff.1 h).1]; exact h

/-! ### References that stay inside -/
def uC (n : Nat) : C → Bool
  | .d _ => true
  | .ptr id _ _ => decide (id < n)
  | .os id _ _ _ _ _ => decide (id < n)
  | _ => false
theorem uC_mono {n m : Nat} (h : n ≤ m) {c : C} (hc : uC n c = true) : uC m c = true := by
  cases c with
  | d x => rfl
  | ptr id g o => exact decide_eq_true (Nat.lt_of_lt_of_le (of_decide_eq_true hc) h)
  | os id g o l s c => exact decide_eq_true (Nat.lt_of_lt_of_le (of_decide_eq_true hc) h)
  | _ => cases hc
theorem uC_under {n : Nat} {c : C} (hc : uC n c = true) : c.under n = true := by
  cases c with
  | d x => rfl
  | ptr id g o => exact hc
  | os id g o l s c => exact hc
  | _ => cases hc
theorem uCs_under {n : Nat} : ∀ {cs : List C}, cs.all (uC n) = true → undersC n cs = true
  | [], _ => rfl
  | c :: cs, h => by
    rw [List.all_cons, Bool.and_eq_true] at h
    simp only [undersC, uC_under h.1, uCs_under h.2, Bool.and_self]
def uO (n : Nat) : Ob → Bool
  | .cells cs _ _ => cs.all (uC n)
  | _ => false
theorem uO_under {n : Nat} {o : Ob} (h : uO n o = true) : o.under n = true := by
  cases o with
  | cells cs g f => exact uCs_under h
  | _ => cases h
theorem uO_mono {n m : Nat} (h : n ≤ m) {o : Ob} (ho : uO n o = true) : uO m o = true := by
  cases o with
  | cells cs g f =>
    simp only [uO, List.all_eq_true] at ho ⊢
    exact fun c hc => uC_mono h (ho c hc)
  | _ => cases ho
/-- A heap whose references stay below n. -/
def Hp (n : Nat) (H : Heap) : Prop := ∀ o ∈ H, uO n o = true
theorem Hp.mono {n m : Nat} {H : Heap} (h : Hp n H) (hm : n ≤ m) : Hp m H := fun o ho => uO_mono hm (h o ho)
theorem Hp.app {n : Nat} {H t : Heap} (h : Hp n H) (ht : Hp n t) : Hp n (H ++ t) := fun o ho => by
  rcases List.mem_append.1 ho with h' | h'
  · exact h o h'
  · exact ht o h'
theorem Hp.cons {n : Nat} {o : Ob} {t : Heap} (h : uO n o = true) (ht : Hp n t) : Hp n (o :: t) := fun x hx => by
  rcases List.mem_cons.1 hx with rfl | h'
  · exact h
  · exact ht x h'
theorem Hp.nil {n : Nat} : Hp n [] := fun o ho => by cases ho
theorem Hp.set {n i : Nat} {o : Ob} {H : Heap} (h : Hp n H) (ho : uO n o = true) : Hp n (H.set i o) := fun x hx => by
  rcases List.mem_or_eq_of_mem_set hx with h' | rfl
  · exact h x h'
  · exact ho
/-- What is behind goes. -/
theorem gc_back {H t : Heap} {r : List V} (hl : Nat) (hn : hl = H.length) (h1 : r.all (V.under H.length) = true) (h2 : Hp H.length H) : gc hl ⟨r, H ++ t⟩ = ⟨r, H⟩ := by
  subst hn
  rw [gc_yes h1 (by rw [List.take_left, List.all_eq_true]; exact fun o ho => uO_under (h2 o ho)), List.take_left]
theorem flat_u {n : Nat} {es : List (List C)} (h : ∀ e ∈ es, e.all (uC n) = true) : es.flatten.all (uC n) = true := by
  rw [List.all_eq_true]
  intro c hc
  obtain ⟨e, he, hce⟩ := List.mem_flatten.1 hc
  exact List.all_eq_true.1 (h e he) c hce
theorem rep_flat (z : List C) : ∀ n, rep z n = (List.replicate n z).flatten
  | 0 => rfl
  | n + 1 => by rw [rep, rep_flat z n, List.replicate_succ, List.flatten_cons]
theorem flat_mem {sz : Nat} {es : List (List C)} {i : Nat} {e : List C} (h : ∀ e ∈ es, e.length = sz) (hi : es[i]? = some e) : i * sz + sz ≤ es.flatten.length := by
  obtain ⟨hlt, _⟩ := List.getElem?_eq_some_iff.1 hi
  rw [flat_len es h, ← Nat.succ_mul]
  exact Nat.mul_le_mul_right _ hlt
end Mini
end Go.Proofs.YtgjlofpfbhioaaaGreatDoor
namespace Go.Proofs.YtgjlofpfbhioaaaGreatDoor
namespace Mini
open Go

structure EnvLe (E E' : Env) : Prop where
  call : ∀ {f vs H r}, E.call f vs H = some r → E'.call f vs H = some r
  vcall : ∀ {f vs r}, E.vcall f vs = some r → E'.vcall f vs = some r
  prim : ∀ {f vs r}, E.prim f vs = some r → E'.prim f vs = some r
  bprim : ∀ {f s vs r}, E.bprim f s vs = some r → E'.bprim f s vs = some r
  glob : E'.glob = E.glob
variable {E E' : Env}
theorem look_le (h : EnvLe E E') (regs ts : List V) : look E' regs ts = look E regs ts := by
  funext a
  cases a with
  | g b => simp only [look, h.glob]
  | _ => rfl
theorem byValue_le {f g : List V → Option V} (h : ∀ {vs r}, f vs = some r → g vs = some r) {lk : A → V} {H : Heap} {args : List A} {r : V × Heap} (hr : byValue f lk H args = some r) : byValue g lk H args = some r := by
  unfold byValue at hr ⊢
  cases hm : mapO (fun a => deepV1 H (lk a)) args with
  | none => rw [hm] at hr; cases hr
  | some vs =>
    rw [hm] at hr
    simp only at hr ⊢
    cases hf : f vs with
    | none => rw [hf] at hr; cases hr
    | some v => rw [hf] at hr; rw [h hf]; exact hr
theorem stepE_le (h : EnvLe E E') {lk : A → V} {H : Heap} {o : O} {r : V × Heap} (hr : stepE E lk H o = some r) : stepE E' lk H o = some r := by
  cases o with
  | hc f args =>
    simp only [stepE] at hr ⊢
    cases hf : lk f with
    | c x => rw [hf] at hr; exact h.call hr
    | _ => rw [hf] at hr; cases hr
  | bc f a args =>
    simp only [stepE] at hr ⊢
    split at hr
    · rename_i id vs hid hvs
      split at hr
      · rename_i s hs
        cases hb : E.bprim f s vs with
        | none => rw [hb] at hr; cases hr
        | some p => rw [hb] at hr; rw [h.bprim hb]; exact hr
      · cases hr
    · cases hr
  | _ => exact hr
theorem step_le (h : EnvLe E E') {lk : A → V} {H : Heap} {o : O} {r : V × Heap} (hr : step E lk H o = some r) : step E' lk H o = some r := by
  cases o with
  | vc f args => exact byValue_le (fun h1 => h.vcall h1) hr
  | pc f args => exact byValue_le (fun h1 => h.prim h1) hr
  | st n a v => exact stepE_le (o := .st n a v) (lk := lk) (H := H) h hr
  | app n a v => exact stepE_le (o := .app n a v) (lk := lk) (H := H) h hr
  | apb a v => exact stepE_le (o := .apb a v) (lk := lk) (H := H) h hr
  | cpy n a v => exact stepE_le (o := .cpy n a v) (lk := lk) (H := H) h hr
  | hc f args => exact stepE_le (o := .hc f args) (lk := lk) (H := H) h hr
  | bc f a args => exact stepE_le (o := .bc f a args) (lk := lk) (H := H) h hr
  | _ => exact hr
theorem runOps_le (h : EnvLe E E') {regs : List V} : ∀ {ps : List Gp} {ts : List V} {H : Heap} {r : List V × Heap}, runOps E regs ps ts H = some r → runOps E' regs ps ts H = some r
  | [], _, _, _, hr => hr
  | p :: ps, ts, H, r, hr => by
    simp only [runOps] at hr ⊢
    cases hw : wants ts p.guard with
    | none => rw [hw] at hr; cases hr
    | some b =>
      rw [hw] at hr
      cases b with
      | false => exact runOps_le h hr
      | true =>
        simp only [look_le h] at hr ⊢
        cases hs : step E (look E regs ts) H p.op with
        | none => rw [hs] at hr; cases hr
        | some q =>
          obtain ⟨v, H'⟩ := q
          rw [hs] at hr
          rw [step_le h hs]
          exact runOps_le h hr
theorem iter_le {js : Option (List Nat)} {hl : Nat} {b b' : St → Option (Ex × St)} (h : ∀ {s r}, b s = some r → b' s = some r) : ∀ {n n' : Nat} (_ : n ≤ n') {s : St} {r : Ex × St}, iter js hl b n s = some r → iter js hl b' n' s = some r
  | 0, _, _, _, _, hr => by cases hr
  | n + 1, 0, hn, _, _, _ => absurd hn (by omega)
  | n + 1, n' + 1, hn, s, r, hr => by
    simp only [iter] at hr ⊢
    cases hb : b s with
    | none => rw [hb] at hr; cases hr
    | some q =>
      obtain ⟨e, s'⟩ := q
      rw [hb] at hr
      rw [h hb]
      cases e with
      | nrm => exact iter_le h (by omega) hr
      | _ => exact hr
theorem exec_le (h : EnvLe E E') {n n' : Nat} (hn : n ≤ n') : ∀ (i : I) {rd : Bool} {s : St} {r : Ex × St}, exec E n rd i s = some r → exec E' n' rd i s = some r := by
  intro i
  induction i with
  | seq a b iha ihb =>
    intro rd s r hr
    simp only [exec] at hr ⊢
    cases ha : exec E n rd a s with
    | none => rw [ha] at hr; cases hr
    | some q =>
      obtain ⟨e, s'⟩ := q
      rw [ha] at hr
      rw [iha ha]
      cases e with
      | nrm => exact ihb hr
      | _ => exact hr
  | reg d ops exp aps =>
    intro rd s r hr
    simp only [exec, look_le h] at hr ⊢
    cases ho : runOps E s.regs ops [] s.heap with
    | none => rw [ho] at hr; cases hr
    | some q => rw [ho] at hr; rw [runOps_le h ho]; exact hr
  | cond c a b iha ihb =>
    intro rd s r hr
    simp only [exec, look_le h] at hr ⊢
    split at hr
    · rename_i t ht
      cases t
      · exact ihb hr
      · exact iha hr
    · cases hr
  | block id b ihb =>
    intro rd s r hr
    simp only [exec] at hr ⊢
    cases hb : exec E n rd b s with
    | none => rw [hb] at hr; cases hr
    | some q => rw [hb] at hr; rw [ihb hb]; exact hr
  | loop js b ihb =>
    intro rd s r hr
    exact iter_le (fun h1 => ihb h1) hn hr
  | rf f ps asg body =>
    intro rd s r hr
    simp only [exec, look_le h] at hr ⊢
    cases rd with
    | true => exact hr
    | false =>
      simp only [Bool.false_eq_true, if_false] at hr ⊢
      split at hr
      · rename_i x hx
        split at hr
        · cases hr
        · rename_i hfn
          rw [if_neg hfn]
          cases hc : E.call x [.c (.yld s.heap.length)] (s.heap ++ [.loop true none s.regs ps asg body]) with
          | none => rw [hc] at hr; cases hr
          | some q => rw [hc] at hr; rw [h.call hc]; exact hr
      · cases hr
  | _ => exact fun hr => hr
theorem runFn_le (h : EnvLe E E') {n n' : Nat} (hn : n ≤ n') {F : Fn} {args : List V} {H : Heap} {r : V × Heap} (hr : runFn E n F args H = some r) : runFn E' n' F args H = some r := by
  unfold runFn at hr ⊢
  by_cases hl : args.length = F.np
  · rw [if_pos hl] at hr ⊢
    cases he : exec E n false F.body ⟨pad F.nr args, H⟩ with
    | none => rw [he] at hr; cases hr
    | some q => rw [he] at hr; rw [exec_le h hn _ he]; exact hr
  · rw [if_neg hl] at hr; cases hr
structure CtxLe (X Y : Ctx) : Prop where
  fns : ∀ {f F}, X.fns f = some F → Y.fns f = some F
  prim : ∀ {f vs r}, X.prim f vs = some r → Y.prim f vs = some r
  npr : ∀ {f F}, X.fns f = some F → ∀ vs, X.prim f vs = none → Y.prim f vs = none
  hprim : ∀ {f vs H r}, X.fns f = none → X.hprim f vs H = some r → Y.fns f = none ∧ Y.hprim f vs H = some r ∧ ∀ vs, X.prim f vs = none → Y.prim f vs = none
  bprim : ∀ {f s vs r}, X.bprim f s vs = some r → Y.bprim f s vs = some r
  glob : Y.glob = X.glob
theorem CtxLe.refl (X : Ctx) : CtxLe X X := ⟨fun h => h, fun h => h, fun _ _ h => h, fun h1 h2 => ⟨h1, h2, fun _ h => h⟩, fun h => h, rfl⟩
def zenv' (X : Ctx) (n : Nat) : Env := {
      call := callN X n
      vcall := fun f vs => match X.prim f vs with
        | some r => some r
        | none => match callN X n (.d (.fn f [] [])) vs [] with
          | some (r, H') => deepV H' r
          | none => none
      prim := X.prim, bprim := X.bprim, glob := X.glob }
theorem callN_le {X Y : Ctx} (h : CtxLe X Y) : ∀ {n n' : Nat} (_ : n ≤ n') {f : C} {args : List V} {H : Heap} {r : V × Heap}, callN X n f args H = some r → callN Y n' f args H = some r
  | 0, _, _, _, _, _, _, hr => by cases hr
  | n + 1, 0, hn, _, _, _, _, _ => absurd hn (by omega)
  | n + 1, n' + 1, hn, f, args, H, r, hr => by
    have hn2 : n ≤ n' := by omega
    have hE : EnvLe (zenv' X n) (zenv' Y n') := by
      refine ⟨fun h1 => callN_le h hn2 h1, ?_, fun h1 => h.prim h1, fun h1 => h.bprim h1, h.glob⟩
      intro f vs r hr
      simp only [zenv'] at hr ⊢
      cases hp : X.prim f vs with
      | some v => rw [hp] at hr; rw [h.prim hp]; exact hr
      | none =>
        rw [hp] at hr
        cases hc : callN X n (.d (.fn f [] [])) vs [] with
        | none => rw [hc] at hr; cases hr
        | some q =>
          rw [hc] at hr
          rw [callN_le h hn2 hc]
          have hy : Y.prim f vs = none := by
            cases n with
            | zero => cases hc
            | succ k =>
              simp only [callN] at hc
              cases hf : X.fns f with
              | some F => exact h.npr hf vs hp
              | none =>
                rw [hf] at hc
                exact (h.hprim hf hc).2.2 vs hp
          rw [hy]
          exact hr
    have hdef : ∀ (Z : Ctx) (k : Nat) (g : C), callN Z (k + 1) g args H = match g with
    | .d (.fn f first caps) => match Z.fns f with
      | some F => runFn (zenv' Z k) k F (first.map (fun x => .c (.d x)) ++ args ++ caps.map (fun x => .c (.d x))) H
      | none => Z.hprim f (first.map (fun x => .c (.d x)) ++ args ++ caps.map (fun x => .c (.d x))) H
    | .fn f first caps => match Z.fns f with
      | some F => runFn (zenv' Z k) k F (first.map .c ++ args ++ caps.map .c) H
      | none => Z.hprim f (first.map .c ++ args ++ caps.map .c) H
    | .yld id => match ob? H id with
      | some (.loop true none regs ps asg body) =>
        if args.length = ps.length then
          match exec (zenv' Z k) k true asg ⟨putAll regs ps args, H⟩ with
          | some (.nrm, s) =>
            match ob? s.heap id with
            | some (.loop true none regs1 ps1 asg1 body1) =>
              match exec (zenv' Z k) k true body ⟨s.regs, setOb s.heap id (.loop false none regs1 ps1 asg1 body1)⟩ with
              | some (e, s') =>
                match ob? s'.heap id with
                | some (.loop false none regs2 ps2 asg2 body2) =>
                  some (.c (.d (.bool (e == .nrm))), setOb s'.heap id (.loop (e == .nrm) (if e == .nrm then none else some e) regs2 ps2 asg2 body2))
                | _ => none
              | none => none
            | _ => none
          | _ => none
        else none
      | _ => none
    | _ => none := fun _ _ _ => rfl
    rw [hdef] at hr ⊢
    cases f with
    | d x =>
      cases x with
      | fn f first caps =>
        simp only at hr ⊢
        cases hf : X.fns f with
        | some F => rw [hf] at hr; rw [h.fns hf]; exact runFn_le hE hn2 hr
        | none => rw [hf] at hr; obtain ⟨h1, h2, _⟩ := h.hprim hf hr; rw [h1]; exact h2
      | _ => cases hr
    | fn f first caps =>
      simp only at hr ⊢
      cases hf : X.fns f with
      | some F => rw [hf] at hr; rw [h.fns hf]; exact runFn_le hE hn2 hr
      | none => rw [hf] at hr; obtain ⟨h1, h2, _⟩ := h.hprim hf hr; rw [h1]; exact h2
    | yld id =>
      simp only at hr ⊢
      split at hr
      · rename_i regs ps asg body hob
        by_cases hl : args.length = ps.length
        · rw [if_pos hl] at hr ⊢
          split at hr
          · rename_i s hs
            rw [exec_le hE hn2 _ hs]
            simp only
            split at hr
            · rename_i regs1 ps1 asg1 body1 hob1
              split at hr
              · rename_i e s' hs'
                rw [exec_le hE hn2 _ hs']
                exact hr
              · cases hr
            · cases hr
          · cases hr
        · rw [if_neg hl] at hr; cases hr
      · cases hr
    | _ => cases hr
theorem vcallN_le {X Y : Ctx} (h : CtxLe X Y) {n n' : Nat} (hn : n ≤ n') {f : FuncId} {vs : List V} {r : V} (hr : vcallN X n f vs = some r) : vcallN Y n' f vs = some r := by
  unfold vcallN at hr ⊢
  cases hc : callN X n (.d (.fn f [] [])) vs [] with
  | none => rw [hc] at hr; cases hr
  | some q => rw [hc] at hr; rw [callN_le h hn hc]; exact hr
end Mini
end Go.Proofs.YtgjlofpfbhioaaaGreatDoor
