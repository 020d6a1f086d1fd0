/-
  RecordsSame: texts of the proof: T, T2, U, M, W1, EV, S1, S2.
-/
import Derived.Test.YtjnghfhccjogeaaGreatDoorAV1
import Derived.Test.YtjnghfhccjogeaaGreatDoorAFb
namespace Go.Proofs.YtjnghfhccjogeaaGreatDoor
namespace Mini
open Go
theorem ob_eq : ∀ (H : Heap) id, ob? H id = H[id]?
  | [], _ => rfl
  | _ :: _, 0 => rfl
  | _ :: H, n + 1 => by simpa [ob?] using ob_eq H n
theorem setOb_eq (o : Ob) : ∀ (H : Heap) id, setOb H id o = H.set id o
  | [], _ => rfl
  | _ :: _, 0 => rfl
  | x :: H, n + 1 => by simpa [setOb] using setOb_eq o H n
theorem asNat_nat (k : IntKind) (n : Nat) : asNat (.c (.d (.int k (n : Int)))) = some n := by simp [asNat, asInt]
theorem iter_step {js : Option (List Nat)} {hl : Nat} {body : St → Option (Ex × St)} {n : Nat} {s s' : St} (h : body s = some (.nrm, s')) : iter js hl body (n + 1) s = iter js hl body n (tidy hl js s') := by simp only [iter, h]
theorem iter_stop {js : Option (List Nat)} {hl : Nat} {body : St → Option (Ex × St)} {n : Nat} {s s' : St} {b : Nat} (h : body s = some (.exit b, s')) : iter js hl body (n + 1) s = some (.exit b, s') := by simp only [iter, h]
theorem gc_le {hl : Nat} {s : St} (h : s.heap.length ≤ hl) : gc hl s = s := by
  unfold gc
  rw [List.take_of_length_le h]
  split <;> rfl
theorem gc_yes {hl : Nat} {r : List V} {H : Heap} (h1 : r.all (V.under hl) = true) (h2 : (H.take hl).all (Ob.under hl) = true) : gc hl ⟨r, H⟩ = ⟨r, H.take hl⟩ := by
  unfold gc
  rw [if_pos (by simp only [h1, h2, Bool.and_self])]
theorem gc_no {hl : Nat} {r : List V} {H : Heap} (h1 : r.all (V.under hl) = false) : gc hl ⟨r, H⟩ = ⟨r, H⟩ := by
  unfold gc
  rw [if_neg (by simp [h1])]
theorem zq {E : Env} {N : Nat} {rd : Bool} {a b : I} {s s' : St} (h : exec E N rd a s = some (.nrm, s')) : exec E N rd (.seq a b) s = exec E N rd b s' := by simp only [exec, h]
theorem zq_out {E : Env} {N : Nat} {rd : Bool} {a b : I} {s s' : St} {e : Ex} (h : exec E N rd a s = some (e, s')) (he : e ≠ .nrm) : exec E N rd (.seq a b) s = some (e, s') := by
  cases e with
  | nrm => exact absurd rfl he
  | _ => simp only [exec, h]
theorem zb {E : Env} {N : Nat} {rd : Bool} {id : Nat} {b : I} {s s' : St} (h : exec E N rd b s = some (.exit id, s')) : exec E N rd (.block id b) s = some (.nrm, s') := by simp [exec, h]
theorem zb_nrm {E : Env} {N : Nat} {rd : Bool} {id : Nat} {b : I} {s s' : St} (h : exec E N rd b s = some (.nrm, s')) : exec E N rd (.block id b) s = some (.nrm, s') := by simp [exec, h]
theorem zl {E : Env} {N : Nat} {rd : Bool} {js : Option (List Nat)} {b : I} {s : St} {r : Option (Ex × St)} (h : iter js s.heap.length (exec E N rd b) N (tidy s.heap.length js s) = r) : exec E N rd (.loop js b) s = r := by simpa only [exec] using h
def dOb : Ob → Bool
  | .cells cs _ _ => cs.all C.isD
  | .bld _ => true
  | .dead => true
  | _ => false
theorem undersC_d (n : Nat) : ∀ cs : List C, cs.all C.isD = true → undersC n cs = true
  | [], _ => rfl
  | c :: cs, h => by
    rw [List.all_cons, Bool.and_eq_true] at h
    cases c with
    | d x => simp only [undersC, C.under, undersC_d n cs h.2, Bool.and_self]
    | _ => cases h.1
theorem dOb_under (n : Nat) (o : Ob) (h : dOb o = true) : o.under n = true := by
  cases o with
  | cells cs g f => exact undersC_d n cs h
  | loop _ _ _ _ _ _ => cases h
  | map _ _ => cases h
  | sit _ _ => cases h
  | mit _ _ => cases h
  | _ => rfl
theorem heap_under {H : Heap} (n m : Nat) (h : ∀ o ∈ H, dOb o = true) : (H.take n).all (Ob.under m) = true := by
  rw [List.all_eq_true]
  exact fun o ho => dOb_under m o (h o (List.mem_of_mem_take ho))
theorem mem_set {H : Heap} {i : Nat} {o : Ob} (h : ∀ x ∈ H, dOb x = true) (ho : dOb o = true) : ∀ x ∈ H.set i o, dOb x = true := fun x hx => by
  rcases List.mem_or_eq_of_mem_set hx with h' | rfl
  · exact h x h'
  · exact ho
theorem zip_ld {β : Type} (pre post : List β) (x : β) : ((pre ++ x :: post).drop pre.length).take 1 = [x] := by simp
theorem zip_st (pre post : List C) (x y : C) : splice (pre ++ x :: post) pre.length [y] = pre ++ y :: post := by
  unfold splice
  simp [List.drop_append]
theorem set_same {β : Type} {H : List β} {id : Nat} {o : β} (h : H[id]? = some o) : H.set id o = H := by
  obtain ⟨hi, rfl⟩ := List.getElem?_eq_some_iff.1 h
  exact List.set_getElem_self hi
theorem wrap_nat {k : Nat} (h : k < 9223372036854775808) : IntKind.i64.wrap (k : Int) = (k : Int) := by
  simp only [IntKind.wrap, IntKind.bits, IntKind.signed]
  simp
  omega
theorem wrap_succ {k : Nat} (h : k + 1 < 9223372036854775808) : IntKind.i64.wrap ((k : Int) + 1) = ((k + 1 : Nat) : Int) := by
  rw [← wrap_nat h]
  rfl
def zenv (X : Ctx) (n : Nat) : Env := {
      call := callN X n
      vcall := fun f vs => match X.prim f vs with
        | some r => some r
        | none => match callN X n (.d (.fn f [] [])) vs [] with
          | some (r, H') => deepV H' r
          | none => none
      prim := X.prim, bprim := X.bprim, glob := X.glob }
theorem callN_fn {X : Ctx} {n : Nat} {f : FuncId} {F : Fn} {args : List V} {H : Heap} (h : X.fns f = some F) : callN X (n + 1) (.d (.fn f [] [])) args H = runFn (zenv X n) n F args H := by
  have : callN X (n + 1) (.d (.fn f [] [])) args H = match X.fns f with
      | some F => runFn (zenv X n) n F (([] : List D).map (fun x => .c (.d x)) ++ args ++ ([] : List D).map (fun x => .c (.d x))) H
      | none => X.hprim f (([] : List D).map (fun x => .c (.d x)) ++ args ++ ([] : List D).map (fun x => .c (.d x))) H := rfl
  rw [this, h]
  simp
theorem zenv_prim {X : Ctx} {n : Nat} {f : FuncId} {vs : List V} {r : V} (h : X.prim f vs = some r) : (zenv X n).vcall f vs = some r := by
  show (match X.prim f vs with
        | some r => some r
        | none => match callN X n (.d (.fn f [] [])) vs [] with
          | some (r, H') => deepV H' r
          | none => none) = some r
  rw [h]
theorem zenv_vcall {X : Ctx} {n : Nat} {f : FuncId} {vs : List V} {r : Option V} (h : X.prim f vs = none) (hr : vcallN X n f vs = r) : (zenv X n).vcall f vs = r := by
  show (match X.prim f vs with
        | some r => some r
        | none => match callN X n (.d (.fn f [] [])) vs [] with
          | some (r, H') => deepV H' r
          | none => none) = r
  rw [h]
  exact hr
theorem zenv_call {X : Ctx} {n : Nat} : (zenv X n).call = callN X n := rfl
theorem vcall_of {X : Ctx} {n : Nat} {f : FuncId} {vs : List V} {r v : V} {H : Heap} (h : callN X n (.d (.fn f [] [])) vs [] = some (r, H)) (hd : deepV H r = some v) : vcallN X n f vs = some v := by
  unfold vcallN
  rw [h]
  exact hd
end Mini
end Go.Proofs.YtjnghfhccjogeaaGreatDoor
namespace Go.Proofs.YtjnghfhccjogeaaGreatDoor
namespace Mini
open Go
def cont (x : Option (V × Heap)) (E : Env) (regs : List V) (ps : List Gp) (ts : List V) : Option (List V × Heap) :=
  match x with
  | some (v, H') => runOps E regs ps (v :: ts) H'
  | none => none
theorem cont_some (v : V) (H' : Heap) (E : Env) (regs : List V) (ps : List Gp) (ts : List V) : cont (some (v, H')) E regs ps ts = runOps E regs ps (v :: ts) H' := rfl
theorem ro_nil (E : Env) (regs ts : List V) (H : Heap) : runOps E regs [] ts H = some (ts, H) := rfl
theorem ro_none (op : O) (E : Env) (regs : List V) (ps : List Gp) (ts : List V) (H : Heap) : runOps E regs (⟨none, op⟩ :: ps) ts H = cont (step E (look E regs ts) H op) E regs ps ts := by
  simp only [runOps, wants, cont]
  cases step E (look E regs ts) H op with
  | none => rfl
  | some p => rfl
def gcont (g : V) (b : Bool) (op : O) (E : Env) (regs : List V) (ps : List Gp) (ts : List V) (H : Heap) : Option (List V × Heap) :=
  match g with
  | .c (.d (.bool t)) => if (t == b) = true then cont (step E (look E regs ts) H op) E regs ps ts else runOps E regs ps (.tup [] :: ts) H
  | .tup [] => runOps E regs ps (.tup [] :: ts) H
  | _ => none
theorem ro_some (k : Nat) (b : Bool) (op : O) (E : Env) (regs : List V) (ps : List Gp) (ts : List V) (H : Heap) : runOps E regs (⟨some (k, b), op⟩ :: ps) ts H = gcont (nth ts k) b op E regs ps ts H := by
  simp only [runOps, wants, gcont, cont]
  cases nth ts k with
  | c x =>
    cases x with
    | d y =>
      cases y with
      | bool t =>
        cases t <;> cases b <;> first
          | rfl
          | (simp only [beq_self_eq_true, if_true]
             cases step E (look E regs ts) H op with
             | none => rfl
             | some p => rfl)
      | _ => rfl
    | _ => rfl
  | tup vs => cases vs <;> rfl
  | _ => rfl
theorem gc_tt (op : O) (E : Env) (regs : List V) (ps : List Gp) (ts : List V) (H : Heap) : gcont (.c (.d (.bool true))) true op E regs ps ts H = cont (step E (look E regs ts) H op) E regs ps ts := rfl
theorem gc_ff (op : O) (E : Env) (regs : List V) (ps : List Gp) (ts : List V) (H : Heap) : gcont (.c (.d (.bool false))) false op E regs ps ts H = cont (step E (look E regs ts) H op) E regs ps ts := rfl
theorem gc_tf (op : O) (E : Env) (regs : List V) (ps : List Gp) (ts : List V) (H : Heap) : gcont (.c (.d (.bool true))) false op E regs ps ts H = runOps E regs ps (.tup [] :: ts) H := rfl
theorem gc_ft (op : O) (E : Env) (regs : List V) (ps : List Gp) (ts : List V) (H : Heap) : gcont (.c (.d (.bool false))) true op E regs ps ts H = runOps E regs ps (.tup [] :: ts) H := rfl
theorem gc_t (b : Bool) (op : O) (E : Env) (regs : List V) (ps : List Gp) (ts : List V) (H : Heap) : gcont (.tup []) b op E regs ps ts H = runOps E regs ps (.tup [] :: ts) H := rfl
def seqc (x : Option (Ex × St)) (E : Env) (N : Nat) (rd : Bool) (b : I) : Option (Ex × St) :=
  match x with
  | some (.nrm, s') => exec E N rd b s'
  | r => r
theorem ex_seq (E : Env) (N : Nat) (rd : Bool) (a b : I) (s : St) : exec E N rd (.seq a b) s = seqc (exec E N rd a s) E N rd b := rfl
theorem sq_nrm (s : St) (E : Env) (N : Nat) (rd : Bool) (b : I) : seqc (some (.nrm, s)) E N rd b = exec E N rd b s := rfl
theorem sq_ret (s : St) (E : Env) (N : Nat) (rd : Bool) (b : I) : seqc (some (.ret, s)) E N rd b = some (.ret, s) := rfl
theorem sq_exit (id : Nat) (s : St) (E : Env) (N : Nat) (rd : Bool) (b : I) : seqc (some (.exit id, s)) E N rd b = some (.exit id, s) := rfl
def regc (x : Option (List V × Heap)) (E : Env) (regs : List V) (exp : List (Nat × Nat)) (aps : List (A × A)) : Option (Ex × St) :=
  match x with
  | some (ts, H) => if aps.all (fun (a, b) => apart (look E regs ts a) (look E regs ts b)) then some (.nrm, ⟨exports regs ts exp, H⟩) else none
  | none => none
theorem ex_reg (E : Env) (N : Nat) (rd d : Bool) (ops : List Gp) (exp : List (Nat × Nat)) (aps : List (A × A)) (regs : List V) (H : Heap) : exec E N rd (.reg d ops exp aps) ⟨regs, H⟩ = regc (runOps E regs ops [] H) E regs exp aps := rfl
theorem rg_some (ts : List V) (H : Heap) (E : Env) (regs : List V) (exp : List (Nat × Nat)) : regc (some (ts, H)) E regs exp [] = some (.nrm, ⟨exports regs ts exp, H⟩) := rfl
def condc (v : V) (E : Env) (N : Nat) (rd : Bool) (a b : I) (s : St) : Option (Ex × St) :=
  match v with
  | .c (.d (.bool t)) => bif t then exec E N rd a s else exec E N rd b s
  | _ => none
theorem ex_cond (E : Env) (N : Nat) (rd : Bool) (c : A) (a b : I) (regs : List V) (H : Heap) : exec E N rd (.cond c a b) ⟨regs, H⟩ = condc (look E regs [] c) E N rd a b ⟨regs, H⟩ := rfl
theorem cd_t (E : Env) (N : Nat) (rd : Bool) (a b : I) (s : St) : condc (.c (.d (.bool true))) E N rd a b s = exec E N rd a s := rfl
theorem cd_f (E : Env) (N : Nat) (rd : Bool) (a b : I) (s : St) : condc (.c (.d (.bool false))) E N rd a b s = exec E N rd b s := rfl
theorem ex_skip (E : Env) (N : Nat) (rd : Bool) (s : St) : exec E N rd .skip s = some (.nrm, s) := rfl
theorem ex_ret (E : Env) (N : Nat) (rd : Bool) (s : St) : exec E N rd .ret s = some (.ret, s) := rfl
theorem ex_exit (E : Env) (N : Nat) (rd : Bool) (id : Nat) (s : St) : exec E N rd (.exit id) s = some (.exit id, s) := rfl
def fin (x : Option (Ex × St)) (F : List Rv) : Option (V × Heap) :=
  match x with
  | some (.exit _, _) => none
  | some (_, s) => (results s.regs s.heap F).map fun v => (v, s.heap)
  | none => none
theorem rf_fin (E : Env) (fuel np nr : Nat) (tm : List Nat) (res : List Rv) (body : I) (args : List V) (H : Heap) (h : args.length = np) : runFn E fuel ⟨np, nr, tm, res, body⟩ args H = fin (exec E fuel false body ⟨pad nr args, H⟩) res := by
  unfold runFn
  rw [if_pos h]
  simp only [fin]
  cases exec E fuel false body ⟨pad nr args, H⟩ with
  | none => rfl
  | some p => obtain ⟨e, s⟩ := p; cases e <;> rfl
theorem fin_ret (s : St) (F : List Rv) : fin (some (.ret, s)) F = (results s.regs s.heap F).map fun v => (v, s.heap) := rfl
theorem fin_nrm (s : St) (F : List Rv) : fin (some (.nrm, s)) F = (results s.regs s.heap F).map fun v => (v, s.heap) := rfl
end Mini
end Go.Proofs.YtjnghfhccjogeaaGreatDoor
namespace Go.Proofs.YtjnghfhccjogeaaGreatDoor
namespace Mini
open Go
theorem flat_len {sz : Nat} : ∀ es : List (List C), (∀ e ∈ es, e.length = sz) → es.flatten.length = es.length * sz
  | [], _ => by simp
  | e :: es, h => by
    rw [List.flatten_cons, List.length_append, flat_len es (fun x hx => h x (List.mem_cons_of_mem _ hx)), h e List.mem_cons_self, List.length_cons, Nat.succ_mul, Nat.add_comm]
theorem flat_split {sz : Nat} {es : List (List C)} {i : Nat} {e : List C} (h : ∀ e ∈ es, e.length = sz) (hi : es[i]? = some e) : es.flatten = (es.take i).flatten ++ (e ++ (es.drop (i + 1)).flatten) ∧ (es.take i).flatten.length = i * sz := by
  obtain ⟨hlt, rfl⟩ := List.getElem?_eq_some_iff.1 hi
  refine ⟨?_, ?_⟩
  · have := congrArg List.flatten (List.take_append_drop i es).symm
    rw [List.drop_eq_getElem_cons hlt, List.flatten_append, List.flatten_cons] at this
    exact this
  · rw [flat_len _ (fun x hx => h x (List.mem_of_mem_take hx)), List.length_take, Nat.min_eq_left (Nat.le_of_lt hlt)]
theorem flat_ld {sz : Nat} {es : List (List C)} {i : Nat} {e : List C} (h : ∀ e ∈ es, e.length = sz) (hi : es[i]? = some e) : (es.flatten.drop (i * sz)).take sz = e := by
  obtain ⟨h1, h2⟩ := flat_split h hi
  have he : e.length = sz := h e (List.mem_of_getElem? hi)
  rw [h1, ← h2, List.drop_left, ← he, List.take_left]
theorem flat_st {sz : Nat} {es : List (List C)} {i : Nat} {e : List C} (new : List C) (h : ∀ e ∈ es, e.length = sz) (hi : es[i]? = some e) (hn : new.length ≤ sz) : splice es.flatten (i * sz) new = (es.set i (new ++ e.drop new.length)).flatten := by
  obtain ⟨h1, h2⟩ := flat_split h hi
  obtain ⟨hlt, _⟩ := List.getElem?_eq_some_iff.1 hi
  have he : e.length = sz := h e (List.mem_of_getElem? hi)
  unfold splice
  rw [List.set_eq_take_append_cons_drop, if_pos hlt, List.flatten_append, List.flatten_cons]
  rw [h1, ← h2, List.take_left, ← List.drop_drop, List.drop_left, List.drop_append_of_le_length (by omega)]
  simp
theorem flat_set_len {sz : Nat} {es : List (List C)} {i : Nat} {e : List C} (h : ∀ e ∈ es, e.length = sz) (he : e.length = sz) : ∀ x ∈ es.set i e, x.length = sz := fun x hx => by
  rcases List.mem_or_eq_of_mem_set hx with h' | rfl
  · exact h x h'
  · exact he
theorem at0 {H t : Heap} {a : Ob} : (H ++ a :: t)[H.length]? = some a := by simp
theorem at1 {H t : Heap} {a b : Ob} : (H ++ a :: b :: t)[H.length + 1]? = some b := by rw [List.getElem?_append_right (by omega)]; simp
theorem at2 {H t : Heap} {a b c : Ob} : (H ++ a :: b :: c :: t)[H.length + 2]? = some c := by rw [List.getElem?_append_right (by omega)]; simp
theorem at3 {H t : Heap} {a b c d : Ob} : (H ++ a :: b :: c :: d :: t)[H.length + 3]? = some d := by rw [List.getElem?_append_right (by omega)]; simp
theorem at4 {H t : Heap} {a b c d e : Ob} : (H ++ a :: b :: c :: d :: e :: t)[H.length + 4]? = some e := by rw [List.getElem?_append_right (by omega)]; simp
theorem at5 {H t : Heap} {a b c d e f : Ob} : (H ++ a :: b :: c :: d :: e :: f :: t)[H.length + 5]? = some f := by rw [List.getElem?_append_right (by omega)]; simp
theorem se0 {H t : Heap} {a x : Ob} : (H ++ a :: t).set H.length x = H ++ x :: t := by simp
theorem se1 {H t : Heap} {a b x : Ob} : (H ++ a :: b :: t).set (H.length + 1) x = H ++ a :: x :: t := by rw [List.set_append_right _ _ (by omega)]; simp
theorem se2 {H t : Heap} {a b c x : Ob} : (H ++ a :: b :: c :: t).set (H.length + 2) x = H ++ a :: b :: x :: t := by rw [List.set_append_right _ _ (by omega)]; simp
theorem se3 {H t : Heap} {a b c d x : Ob} : (H ++ a :: b :: c :: d :: t).set (H.length + 3) x = H ++ a :: b :: c :: x :: t := by rw [List.set_append_right _ _ (by omega)]; simp
theorem se4 {H t : Heap} {a b c d e x : Ob} : (H ++ a :: b :: c :: d :: e :: t).set (H.length + 4) x = H ++ a :: b :: c :: d :: x :: t := by rw [List.set_append_right _ _ (by omega)]; simp
theorem atL {H t : Heap} {i : Nat} {o : Ob} (h : H[i]? = some o) : (H ++ t)[i]? = some o := by
  rw [List.getElem?_append_left (List.getElem?_eq_some_iff.1 h).1]; exact h
def uC (n : Nat) : C → Bool
  | .d _ => true
  | .ptr id _ _ => decide (id < n)
  | .os id _ _ _ _ _ => decide (id < n)
  | _ => false
theorem uC_mono {n m : Nat} (h : n ≤ m) {c : C} (hc : uC n c = true) : uC m c = true := by
  cases c with
  | d x => rfl
  | ptr id g o => exact decide_eq_true (Nat.lt_of_lt_of_le (of_decide_eq_true hc) h)
  | os id g o l s c => exact decide_eq_true (Nat.lt_of_lt_of_le (of_decide_eq_true hc) h)
  | _ => cases hc
theorem uC_under {n : Nat} {c : C} (hc : uC n c = true) : c.under n = true := by
  cases c with
  | d x => rfl
  | ptr id g o => exact hc
  | os id g o l s c => exact hc
  | _ => cases hc
theorem uCs_under {n : Nat} : ∀ {cs : List C}, cs.all (uC n) = true → undersC n cs = true
  | [], _ => rfl
  | c :: cs, h => by
    rw [List.all_cons, Bool.and_eq_true] at h
    simp only [undersC, uC_under h.1, uCs_under h.2, Bool.and_self]
def vD : V → Bool
  | .c (.d _) => true
  | _ => false
theorem vD_under {n : Nat} {v : V} (h : vD v = true) : v.under n = true := by
  cases v with
  | c x => cases x <;> first | rfl | cases h
  | _ => cases h
def uO (n : Nat) : Ob → Bool
  | .cells cs _ _ => cs.all (uC n)
  | .map es _ => es.all fun e => vD e.1 && vD e.2
  | _ => false
theorem uO_under {n : Nat} {o : Ob} (h : uO n o = true) : o.under n = true := by
  cases o with
  | cells cs g f => exact uCs_under h
  | map es fz =>
    simp only [uO, List.all_eq_true, Bool.and_eq_true] at h
    simp only [Ob.under, List.all_eq_true, Bool.and_eq_true]
    exact fun e he => ⟨vD_under (h e he).1, vD_under (h e he).2⟩
  | _ => cases h
theorem uO_mono {n m : Nat} (h : n ≤ m) {o : Ob} (ho : uO n o = true) : uO m o = true := by
  cases o with
  | cells cs g f =>
    simp only [uO, List.all_eq_true] at ho ⊢
    exact fun c hc => uC_mono h (ho c hc)
  | map es fz => exact ho
  | _ => cases ho
def Hp (n : Nat) (H : Heap) : Prop := ∀ o ∈ H, uO n o = true
theorem Hp.mono {n m : Nat} {H : Heap} (h : Hp n H) (hm : n ≤ m) : Hp m H := fun o ho => uO_mono hm (h o ho)
theorem Hp.app {n : Nat} {H t : Heap} (h : Hp n H) (ht : Hp n t) : Hp n (H ++ t) := fun o ho => by
  rcases List.mem_append.1 ho with h' | h'
  · exact h o h'
  · exact ht o h'
theorem Hp.cons {n : Nat} {o : Ob} {t : Heap} (h : uO n o = true) (ht : Hp n t) : Hp n (o :: t) := fun x hx => by
  rcases List.mem_cons.1 hx with rfl | h'
  · exact h
  · exact ht x h'
theorem Hp.nil {n : Nat} : Hp n [] := fun o ho => by cases ho
theorem Hp.set {n i : Nat} {o : Ob} {H : Heap} (h : Hp n H) (ho : uO n o = true) : Hp n (H.set i o) := fun x hx => by
  rcases List.mem_or_eq_of_mem_set hx with h' | rfl
  · exact h x h'
  · exact ho
theorem gc_back {H t : Heap} {r : List V} (hl : Nat) (hn : hl = H.length) (h1 : r.all (V.under H.length) = true) (h2 : Hp H.length H) : gc hl ⟨r, H ++ t⟩ = ⟨r, H⟩ := by
  subst hn
  rw [gc_yes h1 (by rw [List.take_left, List.all_eq_true]; exact fun o ho => uO_under (h2 o ho)), List.take_left]
theorem flat_u {n : Nat} {es : List (List C)} (h : ∀ e ∈ es, e.all (uC n) = true) : es.flatten.all (uC n) = true := by
  rw [List.all_eq_true]
  intro c hc
  obtain ⟨e, he, hce⟩ := List.mem_flatten.1 hc
  exact List.all_eq_true.1 (h e he) c hce
theorem rep_flat (z : List C) : ∀ n, rep z n = (List.replicate n z).flatten
  | 0 => rfl
  | n + 1 => by rw [rep, rep_flat z n, List.replicate_succ, List.flatten_cons]
theorem flat_mem {sz : Nat} {es : List (List C)} {i : Nat} {e : List C} (h : ∀ e ∈ es, e.length = sz) (hi : es[i]? = some e) : i * sz + sz ≤ es.flatten.length := by
  obtain ⟨hlt, _⟩ := List.getElem?_eq_some_iff.1 hi
  rw [flat_len es h, ← Nat.succ_mul]
  exact Nat.mul_le_mul_right _ hlt
end Mini
end Go.Proofs.YtjnghfhccjogeaaGreatDoor
namespace Go.Proofs.YtjnghfhccjogeaaGreatDoor
namespace Mini
open Go
structure EnvLe (E E' : Env) : Prop where
  call : ∀ {f vs H r}, E.call f vs H = some r → E'.call f vs H = some r
  vcall : ∀ {f vs r}, E.vcall f vs = some r → E'.vcall f vs = some r
  prim : ∀ {f vs r}, E.prim f vs = some r → E'.prim f vs = some r
  bprim : ∀ {f s vs r}, E.bprim f s vs = some r → E'.bprim f s vs = some r
  glob : E'.glob = E.glob
variable {E E' : Env}
theorem look_le (h : EnvLe E E') (regs ts : List V) : look E' regs ts = look E regs ts := by
  funext a
  cases a with
  | g b => simp only [look, h.glob]
  | _ => rfl
theorem byValue_le {f g : List V → Option V} (h : ∀ {vs r}, f vs = some r → g vs = some r) {lk : A → V} {H : Heap} {args : List A} {r : V × Heap} (hr : byValue f lk H args = some r) : byValue g lk H args = some r := by
  unfold byValue at hr ⊢
  cases hm : mapO (fun a => deepV1 H (lk a)) args with
  | none => rw [hm] at hr; cases hr
  | some vs =>
    rw [hm] at hr
    simp only at hr ⊢
    cases hf : f vs with
    | none => rw [hf] at hr; cases hr
    | some v => rw [hf] at hr; rw [h hf]; exact hr
theorem stepE_le (h : EnvLe E E') {lk : A → V} {H : Heap} {o : O} {r : V × Heap} (hr : stepE E lk H o = some r) : stepE E' lk H o = some r := by
  cases o with
  | hc f args =>
    simp only [stepE] at hr ⊢
    cases hf : lk f with
    | c x => rw [hf] at hr; exact h.call hr
    | _ => rw [hf] at hr; cases hr
  | bc f a args =>
    simp only [stepE] at hr ⊢
    split at hr
    · rename_i id vs hid hvs
      split at hr
      · rename_i s hs
        cases hb : E.bprim f s vs with
        | none => rw [hb] at hr; cases hr
        | some p => rw [hb] at hr; rw [h.bprim hb]; exact hr
      · cases hr
    · cases hr
  | ivc tbl a args =>
    simp only [stepE] at hr ⊢
    split at hr <;> try (cases hr; done)
    rename_i t g ds hx
    split at hr <;> try (cases hr; done)
    exact h.call hr
  | _ => exact hr
theorem step_le (h : EnvLe E E') {lk : A → V} {H : Heap} {o : O} {r : V × Heap} (hr : step E lk H o = some r) : step E' lk H o = some r := by
  cases o with
  | vc f args => exact byValue_le (fun h1 => h.vcall h1) hr
  | pc f args => exact byValue_le (fun h1 => h.prim h1) hr
  | st n a v => exact stepE_le (o := .st n a v) (lk := lk) (H := H) h hr
  | app n a v => exact stepE_le (o := .app n a v) (lk := lk) (H := H) h hr
  | apb a v => exact stepE_le (o := .apb a v) (lk := lk) (H := H) h hr
  | cpy n a v => exact stepE_le (o := .cpy n a v) (lk := lk) (H := H) h hr
  | ivc tbl a args => exact stepE_le (o := .ivc tbl a args) (lk := lk) (H := H) h hr
  | hc f args => exact stepE_le (o := .hc f args) (lk := lk) (H := H) h hr
  | bc f a args => exact stepE_le (o := .bc f a args) (lk := lk) (H := H) h hr
  | _ => exact hr
theorem runOps_le (h : EnvLe E E') {regs : List V} : ∀ {ps : List Gp} {ts : List V} {H : Heap} {r : List V × Heap}, runOps E regs ps ts H = some r → runOps E' regs ps ts H = some r
  | [], _, _, _, hr => hr
  | p :: ps, ts, H, r, hr => by
    simp only [runOps] at hr ⊢
    cases hw : wants ts p.guard with
    | none => rw [hw] at hr; cases hr
    | some b =>
      rw [hw] at hr
      cases b with
      | false => exact runOps_le h hr
      | true =>
        simp only [look_le h] at hr ⊢
        cases hs : step E (look E regs ts) H p.op with
        | none => rw [hs] at hr; cases hr
        | some q =>
          obtain ⟨v, H'⟩ := q
          rw [hs] at hr
          rw [step_le h hs]
          exact runOps_le h hr
theorem iter_le {js : Option (List Nat)} {hl : Nat} {b b' : St → Option (Ex × St)} (h : ∀ {s r}, b s = some r → b' s = some r) : ∀ {n n' : Nat} (_ : n ≤ n') {s : St} {r : Ex × St}, iter js hl b n s = some r → iter js hl b' n' s = some r
  | 0, _, _, _, _, hr => by cases hr
  | n + 1, 0, hn, _, _, _ => absurd hn (by omega)
  | n + 1, n' + 1, hn, s, r, hr => by
    simp only [iter] at hr ⊢
    cases hb : b s with
    | none => rw [hb] at hr; cases hr
    | some q =>
      obtain ⟨e, s'⟩ := q
      rw [hb] at hr
      rw [h hb]
      cases e with
      | nrm => exact iter_le h (by omega) hr
      | _ => exact hr
theorem exec_le (h : EnvLe E E') {n n' : Nat} (hn : n ≤ n') : ∀ (i : I) {rd : Bool} {s : St} {r : Ex × St}, exec E n rd i s = some r → exec E' n' rd i s = some r := by
  intro i
  induction i with
  | seq a b iha ihb =>
    intro rd s r hr
    simp only [exec] at hr ⊢
    cases ha : exec E n rd a s with
    | none => rw [ha] at hr; cases hr
    | some q =>
      obtain ⟨e, s'⟩ := q
      rw [ha] at hr
      rw [iha ha]
      cases e with
      | nrm => exact ihb hr
      | _ => exact hr
  | reg d ops exp aps =>
    intro rd s r hr
    simp only [exec, look_le h] at hr ⊢
    cases ho : runOps E s.regs ops [] s.heap with
    | none => rw [ho] at hr; cases hr
    | some q => rw [ho] at hr; rw [runOps_le h ho]; exact hr
  | cond c a b iha ihb =>
    intro rd s r hr
    simp only [exec, look_le h] at hr ⊢
    split at hr
    · rename_i t ht
      cases t
      · exact ihb hr
      · exact iha hr
    · cases hr
  | block id b ihb =>
    intro rd s r hr
    simp only [exec] at hr ⊢
    cases hb : exec E n rd b s with
    | none => rw [hb] at hr; cases hr
    | some q => rw [hb] at hr; rw [ihb hb]; exact hr
  | loop js b ihb =>
    intro rd s r hr
    exact iter_le (fun h1 => ihb h1) hn hr
  | rf f ps asg body =>
    intro rd s r hr
    simp only [exec, look_le h] at hr ⊢
    cases rd with
    | true => exact hr
    | false =>
      simp only [Bool.false_eq_true, if_false] at hr ⊢
      split at hr
      · rename_i x hx
        split at hr
        · cases hr
        · rename_i hfn
          rw [if_neg hfn]
          cases hc : E.call x [.c (.yld s.heap.length)] (s.heap ++ [.loop true none s.regs ps asg body]) with
          | none => rw [hc] at hr; cases hr
          | some q => rw [hc] at hr; rw [h.call hc]; exact hr
      · cases hr
  | _ => exact fun hr => hr
theorem runFn_le (h : EnvLe E E') {n n' : Nat} (hn : n ≤ n') {F : Fn} {args : List V} {H : Heap} {r : V × Heap} (hr : runFn E n F args H = some r) : runFn E' n' F args H = some r := by
  unfold runFn at hr ⊢
  by_cases hl : args.length = F.np
  · rw [if_pos hl] at hr ⊢
    cases he : exec E n false F.body ⟨pad F.nr args, H⟩ with
    | none => rw [he] at hr; cases hr
    | some q => rw [he] at hr; rw [exec_le h hn _ he]; exact hr
  · rw [if_neg hl] at hr; cases hr
structure CtxLe (X Y : Ctx) : Prop where
  fns : ∀ {f F}, X.fns f = some F → Y.fns f = some F
  prim : ∀ {f vs r}, X.prim f vs = some r → Y.prim f vs = some r
  npr : ∀ {f F}, X.fns f = some F → ∀ vs, X.prim f vs = none → Y.prim f vs = none
  hprim : ∀ {f vs H r}, X.fns f = none → X.hprim f vs H = some r → Y.fns f = none ∧ Y.hprim f vs H = some r ∧ ∀ vs, X.prim f vs = none → Y.prim f vs = none
  bprim : ∀ {f s vs r}, X.bprim f s vs = some r → Y.bprim f s vs = some r
  glob : Y.glob = X.glob
theorem CtxLe.refl (X : Ctx) : CtxLe X X := ⟨fun h => h, fun h => h, fun _ _ h => h, fun h1 h2 => ⟨h1, h2, fun _ h => h⟩, fun h => h, rfl⟩
def zenv' (X : Ctx) (n : Nat) : Env := {
      call := callN X n
      vcall := fun f vs => match X.prim f vs with
        | some r => some r
        | none => match callN X n (.d (.fn f [] [])) vs [] with
          | some (r, H') => deepV H' r
          | none => none
      prim := X.prim, bprim := X.bprim, glob := X.glob }
theorem callN_le {X Y : Ctx} (h : CtxLe X Y) : ∀ {n n' : Nat} (_ : n ≤ n') {f : C} {args : List V} {H : Heap} {r : V × Heap}, callN X n f args H = some r → callN Y n' f args H = some r
  | 0, _, _, _, _, _, _, hr => by cases hr
  | n + 1, 0, hn, _, _, _, _, _ => absurd hn (by omega)
  | n + 1, n' + 1, hn, f, args, H, r, hr => by
    have hn2 : n ≤ n' := by omega
    have hE : EnvLe (zenv' X n) (zenv' Y n') := by
      refine ⟨fun h1 => callN_le h hn2 h1, ?_, fun h1 => h.prim h1, fun h1 => h.bprim h1, h.glob⟩
      intro f vs r hr
      simp only [zenv'] at hr ⊢
      cases hp : X.prim f vs with
      | some v => rw [hp] at hr; rw [h.prim hp]; exact hr
      | none =>
        rw [hp] at hr
        cases hc : callN X n (.d (.fn f [] [])) vs [] with
        | none => rw [hc] at hr; cases hr
        | some q =>
          rw [hc] at hr
          rw [callN_le h hn2 hc]
          have hy : Y.prim f vs = none := by
            cases n with
            | zero => cases hc
            | succ k =>
              simp only [callN] at hc
              cases hf : X.fns f with
              | some F => exact h.npr hf vs hp
              | none =>
                rw [hf] at hc
                exact (h.hprim hf hc).2.2 vs hp
          rw [hy]
          exact hr
    have hdef : ∀ (Z : Ctx) (k : Nat) (g : C), callN Z (k + 1) g args H = match g with
    | .d (.fn f first caps) => match Z.fns f with
      | some F => runFn (zenv' Z k) k F (first.map (fun x => .c (.d x)) ++ args ++ caps.map (fun x => .c (.d x))) H
      | none => Z.hprim f (first.map (fun x => .c (.d x)) ++ args ++ caps.map (fun x => .c (.d x))) H
    | .fn f first caps => match Z.fns f with
      | some F => runFn (zenv' Z k) k F (first.map .c ++ args ++ caps.map .c) H
      | none => Z.hprim f (first.map .c ++ args ++ caps.map .c) H
    | .yld id => match ob? H id with
      | some (.loop true none regs ps asg body) =>
        if args.length = ps.length then
          match exec (zenv' Z k) k true asg ⟨putAll regs ps args, H⟩ with
          | some (.nrm, s) =>
            match ob? s.heap id with
            | some (.loop true none regs1 ps1 asg1 body1) =>
              match exec (zenv' Z k) k true body ⟨s.regs, setOb s.heap id (.loop false none regs1 ps1 asg1 body1)⟩ with
              | some (e, s') =>
                match ob? s'.heap id with
                | some (.loop false none regs2 ps2 asg2 body2) =>
                  some (.c (.d (.bool (e == .nrm))), setOb s'.heap id (.loop (e == .nrm) (if e == .nrm then none else some e) regs2 ps2 asg2 body2))
                | _ => none
              | none => none
            | _ => none
          | _ => none
        else none
      | _ => none
    | _ => none := fun _ _ _ => rfl
    rw [hdef] at hr ⊢
    cases f with
    | d x =>
      cases x with
      | fn f first caps =>
        simp only at hr ⊢
        cases hf : X.fns f with
        | some F => rw [hf] at hr; rw [h.fns hf]; exact runFn_le hE hn2 hr
        | none => rw [hf] at hr; obtain ⟨h1, h2, _⟩ := h.hprim hf hr; rw [h1]; exact h2
      | _ => cases hr
    | fn f first caps =>
      simp only at hr ⊢
      cases hf : X.fns f with
      | some F => rw [hf] at hr; rw [h.fns hf]; exact runFn_le hE hn2 hr
      | none => rw [hf] at hr; obtain ⟨h1, h2, _⟩ := h.hprim hf hr; rw [h1]; exact h2
    | yld id =>
      simp only at hr ⊢
      split at hr
      · rename_i regs ps asg body hob
        by_cases hl : args.length = ps.length
        · rw [if_pos hl] at hr ⊢
          split at hr
          · rename_i s hs
            rw [exec_le hE hn2 _ hs]
            simp only
            split at hr
            · rename_i regs1 ps1 asg1 body1 hob1
              split at hr
              · rename_i e s' hs'
                rw [exec_le hE hn2 _ hs']
                exact hr
              · cases hr
            · cases hr
          · cases hr
        · rw [if_neg hl] at hr; cases hr
      · cases hr
    | _ => cases hr
theorem vcallN_le {X Y : Ctx} (h : CtxLe X Y) {n n' : Nat} (hn : n ≤ n') {f : FuncId} {vs : List V} {r : V} (hr : vcallN X n f vs = some r) : vcallN Y n' f vs = some r := by
  unfold vcallN at hr ⊢
  cases hc : callN X n (.d (.fn f [] [])) vs [] with
  | none => rw [hc] at hr; cases hr
  | some q => rw [hc] at hr; rw [callN_le h hn hc]; exact hr
end Mini
end Go.Proofs.YtjnghfhccjogeaaGreatDoor
namespace Go.Proofs.YtjnghfhccjogeaaGreatDoor
namespace Mini
open Go
def i64 (n : Int) : V := .c (.d (.int .i64 n))
def bl (b : Bool) : V := .c (.d (.bool b))
theorem an0 : asNat (.c (.d (.int .i64 0))) = some 0 := rfl
theorem an1 : asNat (.c (.d (.int .i64 1))) = some 1 := rfl
theorem an2 : asNat (.c (.d (.int .i64 2))) = some 2 := rfl
def lenc : V → Option (V × List Ob)
  | .c (.d .nils) => some (.c (.d (.int .i64 0)), [])
  | .c (.d (.sl _ n)) => some (.c (.d (.int .i64 (Int.ofNat n))), [])
  | .c (.os _ _ _ n _ _) => some (.c (.d (.int .i64 (Int.ofNat n))), [])
  | _ => none
def ixac (sz k : Nat) : V → Option (V × List Ob)
  | .c (.d (.sl cs len)) => if k < len ∧ k * sz < cs.length then some (.c (.d (.ip (cs.drop (k * sz)))), []) else none
  | .c (.os id gen off len sz' _) => if sz' = sz ∧ k < len then some (.c (.ptr id gen (off + k * sz)), []) else none
  | _ => none
theorem lenc_nil : lenc (.c (.d .nils)) = some (.c (.d (.int .i64 0)), []) := rfl
theorem lenc_sl (cs : List D) (n : Nat) : lenc (.c (.d (.sl cs n))) = some (.c (.d (.int .i64 (Int.ofNat n))), []) := rfl
theorem lenc_os (id gen off n sz : Nat) (cap : Option Nat) : lenc (.c (.os id gen off n sz cap)) = some (.c (.d (.int .i64 (Int.ofNat n))), []) := rfl
theorem ixac_sl (sz k : Nat) (cs : List D) (len : Nat) : ixac sz k (.c (.d (.sl cs len))) = if k < len ∧ k * sz < cs.length then some (.c (.d (.ip (cs.drop (k * sz)))), []) else none := rfl
theorem ixac_os (sz k id gen off len sz' : Nat) (cap : Option Nat) : ixac sz k (.c (.os id gen off len sz' cap)) = if sz' = sz ∧ k < len then some (.c (.ptr id gen (off + k * sz)), []) else none := rfl
def optC (x : Option Nat) (f : Nat → Option (V × List Ob)) : Option (V × List Ob) :=
  match x with
  | some k => f k
  | none => none
theorem optC_some (k : Nat) (f : Nat → Option (V × List Ob)) : optC (some k) f = f k := rfl
theorem sp_len (lk : A → V) (H : Heap) (a : A) : stepP lk H (.len a) = lenc (lk a) := by
  simp only [stepP]
  unfold lenc
  rfl
theorem sp_ixa (lk : A → V) (H : Heap) (sz : Nat) (a i : A) : stepP lk H (.ixa sz a i) = optC (asNat (lk i)) fun k => ixac sz k (lk a) := by
  simp only [stepP]
  unfold optC ixac
  rfl
def blkc (x : Option (Ex × St)) (id : Nat) : Option (Ex × St) :=
  match x with
  | some (.exit id', s') => if id' = id then some (.nrm, s') else some (.exit id', s')
  | r => r
theorem ex_block (E : Env) (N : Nat) (rd : Bool) (id : Nat) (b : I) (s : St) : exec E N rd (.block id b) s = blkc (exec E N rd b s) id := rfl
theorem bk_nrm (s : St) (id : Nat) : blkc (some (.nrm, s)) id = some (.nrm, s) := rfl
theorem bk_ret (s : St) (id : Nat) : blkc (some (.ret, s)) id = some (.ret, s) := rfl
theorem bk_exit (s : St) (id id' : Nat) : blkc (some (.exit id', s)) id = if id' = id then some (.nrm, s) else some (.exit id', s) := rfl
theorem ex_loop (E : Env) (N : Nat) (rd : Bool) (js : Option (List Nat)) (b : I) (s : St) : exec E N rd (.loop js b) s = iter js s.heap.length (exec E N rd b) N (tidy s.heap.length js s) := rfl
theorem ex_loopk (E : Env) (N : Nat) (rd : Bool) (js : List Nat) (b : I) (regs : List V) (H : Heap) : exec E N rd (.loop (some js) b) ⟨regs, H⟩ = iter (some js) H.length (exec E N rd b) N ⟨keepOnly js 0 regs, H⟩ := by
  rw [ex_loop]
  show iter (some js) H.length (exec E N rd b) N (gc H.length ⟨keepOnly js 0 regs, H⟩) = _
  rw [gc_le (s := ⟨keepOnly js 0 regs, H⟩) (Nat.le_refl _)]
theorem iter_to {js : Option (List Nat)} {hl : Nat} {body : St → Option (Ex × St)} (R : Nat → St) {e : Ex} {s : St} (he : e ≠ .nrm) : ∀ (k i fuel : Nat), (∀ j, i ≤ j → j < i + k → ∃ s', body (R j) = some (.nrm, s') ∧ tidy hl js s' = R (j + 1)) → body (R (i + k)) = some (e, s) → k < fuel → iter js hl body fuel (R i) = some (e, s)
  | 0, i, fuel + 1, _, h, _ => by
    simp only [Nat.add_zero] at h
    simp only [iter, h]
    cases e with
    | nrm => exact absurd rfl he
    | _ => rfl
  | k + 1, i, fuel + 1, hr, h, hk => by
    obtain ⟨s', h1, h2⟩ := hr i (Nat.le_refl _) (by omega)
    simp only [iter, h1, h2]
    exact iter_to R he k (i + 1) fuel (fun j h3 h4 => hr j (by omega) (by omega)) (by rw [show i + 1 + k = i + (k + 1) by omega]; exact h) (by omega)
theorem first_or {α : Type} (p : α → Prop) [DecidablePred p] : ∀ l : List α, (∀ x ∈ l, ¬ p x) ∨ ∃ (k : Nat) (x : α), l[k]? = some x ∧ p x ∧ ∀ (j : Nat) (y : α), j < k → l[j]? = some y → ¬ p y
  | [] => .inl (by simp)
  | x :: l => by
    by_cases h : p x
    · exact .inr ⟨0, x, rfl, h, fun j y hj => absurd hj (Nat.not_lt_zero j)⟩
    · rcases first_or p l with h2 | ⟨k, y, h1, h2, h3⟩
      · left
        intro z hz
        rcases List.mem_cons.1 hz with rfl | hz
        · exact h
        · exact h2 z hz
      · refine .inr ⟨k + 1, y, h1, h2, fun j z hj hz => ?_⟩
        cases j with
        | zero => simp only [List.getElem?_cons_zero, Option.some.injEq] at hz; rw [← hz]; exact h
        | succ j => exact h3 j z (by omega) hz
abbrev Oid := Nat × List Nat
def u32D (x : Nat) : D := .int .u32 (x : Int)
def oD (o : Oid) : List D := .int .u8 (o.1 : Int) :: o.2.map u32D
def oC (o : Oid) : List C := (oD o).map .d
def wfO (o : Oid) : Prop := o.1 < 256 ∧ o.2.length = 16 ∧ ∀ x ∈ o.2, x < 4294967296
theorem oD_len {o : Oid} (h : wfO o) : (oD o).length = 17 := by simp [oD, h.2.1]
theorem oC_len {o : Oid} (h : wfO o) : (oC o).length = 17 := by simp [oC, oD_len h]
theorem oC_arc {o : Oid} {i x : Nat} (hx : o.2[i]? = some x) : (((oC o).drop (1 + i)).take 1) = [.d (u32D x)] := by
  have h : (oC o)[1 + i]? = some (.d (u32D x)) := by
    rw [Nat.add_comm]
    simp [oC, oD, hx]
  obtain ⟨hlt, he⟩ := List.getElem?_eq_some_iff.1 h
  rw [List.drop_eq_getElem_cons hlt, he]
  rfl
def chkO (o : Oid) : Nat :=
  if o.1 < 2 ∨ 16 < o.1 ∨ 2 < o.2.getD 0 0 then 1
  else if (o.2.getD 0 0 < 2 ∧ 39 < o.2.getD 1 0) ∨ 4294967215 < o.2.getD 1 0 then 1
  else if (o.2.drop o.1).all (· == 0) then 0 else 1
end Mini
end Go.Proofs.YtjnghfhccjogeaaGreatDoor
namespace Go.Proofs.YtjnghfhccjogeaaGreatDoor
namespace Mini
open Go
theorem evs : type_of% (And.intro (And.intro (And.intro (And.intro (And.intro (And.intro (And.intro (@lenc_nil) (And.intro (@lenc_sl) (@lenc_os))) (And.intro (And.intro (@ixac_sl) (@ixac_os)) (And.intro (@optC_some) (@cont_some)))) (And.intro (And.intro (@ro_nil) (And.intro (@ro_none) (@ro_some))) (And.intro (And.intro (@gc_tt) (@gc_ff)) (And.intro (@gc_tf) (@gc_ft))))) (And.intro (And.intro (And.intro (@gc_t) (And.intro (@ex_seq) (@sq_nrm))) (And.intro (And.intro (@sq_ret) (@sq_exit)) (And.intro (@ex_reg) (@rg_some)))) (And.intro (And.intro (And.intro (@ex_cond) (@cd_t)) (And.intro (@cd_f) (@ex_skip))) (And.intro (And.intro (@ex_ret) (@ex_exit)) (And.intro (@fin_ret) (@fin_nrm)))))) (And.intro (And.intro (And.intro (And.intro (@Mini.step.eq_1) (And.intro (@Mini.step.eq_2) (@Mini.step.eq_3))) (And.intro (And.intro (@Mini.stepP.eq_1) (@Mini.stepP.eq_2)) (And.intro (@Mini.stepP.eq_3) (@Mini.stepP.eq_4)))) (And.intro (And.intro (@Mini.stepP.eq_5) (And.intro (@Mini.stepP.eq_6) (@Mini.stepP.eq_7))) (And.intro (And.intro (@Mini.stepP.eq_8) (@Mini.stepP.eq_9)) (And.intro (@Mini.stepP.eq_10) (@Mini.stepP.eq_11))))) (And.intro (And.intro (And.intro (@Mini.stepP.eq_12) (And.intro (@Mini.stepP.eq_13) (@Mini.stepP.eq_14))) (And.intro (And.intro (@Mini.stepP.eq_15) (@Mini.stepP.eq_16)) (And.intro (@Mini.stepP.eq_17) (@Mini.stepP.eq_18)))) (And.intro (And.intro (And.intro (@Mini.stepP.eq_19) (@Mini.stepP.eq_20)) (And.intro (@Mini.stepP.eq_21) (@Mini.stepP.eq_22))) (And.intro (And.intro (@Mini.stepP.eq_23) (@Mini.stepP.eq_24)) (And.intro (@Mini.stepP.eq_25) (@Mini.stepP.eq_26))))))) (And.intro (And.intro (And.intro (And.intro (And.intro (@Mini.stepP.eq_27) (And.intro (@Mini.stepP.eq_28) (@Mini.stepP.eq_29))) (And.intro (And.intro (@Mini.stepP.eq_30) (@Mini.stepP.eq_31)) (And.intro (@Mini.stepP.eq_32) (@Mini.stepP.eq_33)))) (And.intro (And.intro (@Mini.stepP.eq_34) (And.intro (@Mini.stepP.eq_35) (@Mini.stepP.eq_36))) (And.intro (And.intro (@Mini.stepP.eq_37) (@Mini.stepP.eq_38)) (And.intro (@Mini.stepP.eq_39) (@Mini.stepP.eq_40))))) (And.intro (And.intro (And.intro (@Mini.stepP.eq_41) (And.intro (@Mini.stepP.eq_42) (@Mini.stepP.eq_43))) (And.intro (And.intro (@Mini.stepE.eq_1) (@Mini.stepE.eq_2)) (And.intro (@Mini.stepE.eq_3) (@Mini.stepE.eq_4)))) (And.intro (And.intro (And.intro (@Mini.stepE.eq_5) (@Mini.stepE.eq_6)) (And.intro (@Mini.stepE.eq_7) (@Mini.stepE.eq_8))) (And.intro (And.intro (@Mini.stepE.eq_9) (@Mini.stepE.eq_10)) (And.intro (@Mini.stepE.eq_11) (@Mini.stepE.eq_12)))))) (And.intro (And.intro (And.intro (And.intro (@Mini.stepE.eq_13) (And.intro (@Mini.stepE.eq_14) (@Mini.stepE.eq_15))) (And.intro (And.intro (@Mini.stepE.eq_16) (@Mini.stepE.eq_17)) (And.intro (@Mini.stepE.eq_18) (@Mini.O.eff.eq_1)))) (And.intro (And.intro (And.intro (@Mini.O.eff.eq_2) (@Mini.O.eff.eq_3)) (And.intro (@Mini.O.eff.eq_4) (@Mini.O.eff.eq_5))) (And.intro (And.intro (@Mini.O.eff.eq_6) (@Mini.O.eff.eq_7)) (And.intro (@Mini.O.eff.eq_8) (@Mini.O.eff.eq_9))))) (And.intro (And.intro (And.intro (@Mini.O.eff.eq_10) (And.intro (@Mini.O.eff.eq_11) (@Mini.O.eff.eq_12))) (And.intro (And.intro (@Mini.O.eff.eq_13) (@Mini.O.eff.eq_14)) (And.intro (@Mini.O.eff.eq_15) (@Mini.O.eff.eq_16)))) (And.intro (And.intro (And.intro (@Mini.O.eff.eq_17) (@Mini.O.eff.eq_18)) (And.intro (@Mini.O.eff.eq_19) (@Mini.look.eq_1))) (And.intro (And.intro (@Mini.look.eq_2) (@Mini.look.eq_3)) (And.intro (@Mini.look.eq_4) (@Mini.nth.eq_1)))))))) (And.intro (And.intro (And.intro (And.intro (And.intro (And.intro (@Mini.nth.eq_2) (And.intro (@Mini.nth.eq_3) (@Mini.put.eq_1))) (And.intro (And.intro (@Mini.put.eq_2) (@Mini.put.eq_3)) (And.intro (@Mini.exports.eq_1) (@Mini.exports.eq_2)))) (And.intro (And.intro (@Mini.bin.eq_1) (And.intro (@Mini.bin.eq_2) (@Mini.bin.eq_3))) (And.intro (And.intro (@Mini.bin.eq_4) (@Mini.bin.eq_5)) (And.intro (@Mini.binInt.eq_1) (@Mini.binInt.eq_2))))) (And.intro (And.intro (And.intro (@Mini.binInt.eq_3) (And.intro (@Mini.binInt.eq_4) (@Mini.binInt.eq_5))) (And.intro (And.intro (@Mini.binInt.eq_6) (@Mini.binInt.eq_7)) (And.intro (@Mini.binInt.eq_8) (@Mini.binInt.eq_9)))) (And.intro (And.intro (And.intro (@Mini.binInt.eq_10) (@Mini.binInt.eq_11)) (And.intro (@Mini.binInt.eq_12) (@Mini.binInt.eq_13))) (And.intro (And.intro (@Mini.binInt.eq_14) (@Mini.binInt.eq_15)) (And.intro (@Mini.binInt.eq_16) (@Mini.un.eq_1)))))) (And.intro (And.intro (And.intro (And.intro (@Mini.un.eq_2) (And.intro (@Mini.un.eq_3) (@Mini.un.eq_4))) (And.intro (And.intro (@Mini.i64.eq_1) (@Mini.bl.eq_1)) (And.intro (@asNat_nat) (@ob_eq)))) (And.intro (And.intro (@setOb_eq) (And.intro (@Mini.ofCells.eq_def) (@Mini.V.cells.eq_1))) (And.intro (And.intro (@Mini.V.cells.eq_2) (@Mini.V.cells.eq_3)) (And.intro (@List.length_cons.{0}) (@List.length_nil.{0}))))) (And.intro (And.intro (And.intro (@Option.map_some.{0, 0}) (And.intro (@if_true.{1}) (@if_false.{1}))) (And.intro (And.intro (@decide_true) (@decide_false)) (And.intro (@List.append_nil.{0}) (@List.all_nil.{0})))) (And.intro (And.intro (And.intro (@cond_true.{1}) (@cond_false.{1})) (And.intro (@Nat.zero_add) (@Nat.add_zero))) (And.intro (And.intro (@Nat.mul_one) (@Nat.one_mul)) (And.intro (@and_self) (@Int.ofNat_eq_natCast))))))) (And.intro (And.intro (And.intro (And.intro (And.intro (@Bool.false_eq_true) (And.intro (@decide_eq_true_eq) (@true_and))) (And.intro (And.intro (@and_true) (@false_and)) (And.intro (@and_false) (@an0)))) (And.intro (And.intro (@an1) (And.intro (@an2) (@ex_block))) (And.intro (And.intro (@ex_loopk) (@Mini.keepOnly.eq_1)) (And.intro (@Mini.keepOnly.eq_2) (@List.contains_cons.{0}))))) (And.intro (And.intro (And.intro (@List.contains_nil.{0}) (And.intro (@Bool.or_false) (@Bool.or_true))) (And.intro (And.intro (@Bool.false_or) (@Bool.true_or)) (And.intro (@bk_nrm) (@bk_ret)))) (And.intro (And.intro (And.intro (@bk_exit) (@Mini.pad.eq_1)) (And.intro (@List.replicate.eq_1.{0}) (@List.replicate.eq_2.{0}))) (And.intro (And.intro (@List.cons_append.{0}) (@List.nil_append.{0})) (And.intro (@Mini.results.eq_1) (@Mini.result.eq_1)))))) (And.intro (And.intro (And.intro (And.intro (@Mini.result.eq_2) (And.intro (@Mini.mapO.eq_1) (@Mini.mapO.eq_2))) (And.intro (And.intro (@Mini.byValue.eq_1) (@Mini.deepV1.eq_1)) (And.intro (@Mini.deepV1.eq_2) (@Mini.deepV1.eq_3)))) (And.intro (And.intro (And.intro (@Mini.deepC.eq_1) (@Mini.deepC.eq_2)) (And.intro (@Mini.deepC.eq_3) (@Mini.deepC.eq_4))) (And.intro (And.intro (@Mini.deepC.eq_5) (@Mini.V.flat.eq_1)) (And.intro (@Mini.V.flat.eq_2) (@Mini.V.flat1.eq_1))))) (And.intro (And.intro (And.intro (@Mini.V.flat1.eq_2) (And.intro (@Mini.V.flat1.eq_3) (@Mini.C.flat.eq_1))) (And.intro (And.intro (@Mini.C.flat.eq_2) (@Mini.D.flat.eq_1)) (And.intro (@Mini.D.flat.eq_2) (@Mini.D.flat.eq_3)))) (And.intro (And.intro (And.intro (@Mini.D.flat.eq_4) (@Mini.D.flat.eq_5)) (And.intro (@bne_self_eq_false.{0}) (@Int.lt_irrefl))) (And.intro (And.intro (@zenv_call) (@beq_self_eq_true.{0})) (And.intro (@List.getElem?_cons_zero.{0}) (@List.getElem?_cons_succ.{0}))))))))) :=
  And.intro (And.intro (And.intro (And.intro (And.intro (And.intro (And.intro (@lenc_nil) (And.intro (@lenc_sl) (@lenc_os))) (And.intro (And.intro (@ixac_sl) (@ixac_os)) (And.intro (@optC_some) (@cont_some)))) (And.intro (And.intro (@ro_nil) (And.intro (@ro_none) (@ro_some))) (And.intro (And.intro (@gc_tt) (@gc_ff)) (And.intro (@gc_tf) (@gc_ft))))) (And.intro (And.intro (And.intro (@gc_t) (And.intro (@ex_seq) (@sq_nrm))) (And.intro (And.intro (@sq_ret) (@sq_exit)) (And.intro (@ex_reg) (@rg_some)))) (And.intro (And.intro (And.intro (@ex_cond) (@cd_t)) (And.intro (@cd_f) (@ex_skip))) (And.intro (And.intro (@ex_ret) (@ex_exit)) (And.intro (@fin_ret) (@fin_nrm)))))) (And.intro (And.intro (And.intro (And.intro (@Mini.step.eq_1) (And.intro (@Mini.step.eq_2) (@Mini.step.eq_3))) (And.intro (And.intro (@Mini.stepP.eq_1) (@Mini.stepP.eq_2)) (And.intro (@Mini.stepP.eq_3) (@Mini.stepP.eq_4)))) (And.intro (And.intro (@Mini.stepP.eq_5) (And.intro (@Mini.stepP.eq_6) (@Mini.stepP.eq_7))) (And.intro (And.intro (@Mini.stepP.eq_8) (@Mini.stepP.eq_9)) (And.intro (@Mini.stepP.eq_10) (@Mini.stepP.eq_11))))) (And.intro (And.intro (And.intro (@Mini.stepP.eq_12) (And.intro (@Mini.stepP.eq_13) (@Mini.stepP.eq_14))) (And.intro (And.intro (@Mini.stepP.eq_15) (@Mini.stepP.eq_16)) (And.intro (@Mini.stepP.eq_17) (@Mini.stepP.eq_18)))) (And.intro (And.intro (And.intro (@Mini.stepP.eq_19) (@Mini.stepP.eq_20)) (And.intro (@Mini.stepP.eq_21) (@Mini.stepP.eq_22))) (And.intro (And.intro (@Mini.stepP.eq_23) (@Mini.stepP.eq_24)) (And.intro (@Mini.stepP.eq_25) (@Mini.stepP.eq_26))))))) (And.intro (And.intro (And.intro (And.intro (And.intro (@Mini.stepP.eq_27) (And.intro (@Mini.stepP.eq_28) (@Mini.stepP.eq_29))) (And.intro (And.intro (@Mini.stepP.eq_30) (@Mini.stepP.eq_31)) (And.intro (@Mini.stepP.eq_32) (@Mini.stepP.eq_33)))) (And.intro (And.intro (@Mini.stepP.eq_34) (And.intro (@Mini.stepP.eq_35) (@Mini.stepP.eq_36))) (And.intro (And.intro (@Mini.stepP.eq_37) (@Mini.stepP.eq_38)) (And.intro (@Mini.stepP.eq_39) (@Mini.stepP.eq_40))))) (And.intro (And.intro (And.intro (@Mini.stepP.eq_41) (And.intro (@Mini.stepP.eq_42) (@Mini.stepP.eq_43))) (And.intro (And.intro (@Mini.stepE.eq_1) (@Mini.stepE.eq_2)) (And.intro (@Mini.stepE.eq_3) (@Mini.stepE.eq_4)))) (And.intro (And.intro (And.intro (@Mini.stepE.eq_5) (@Mini.stepE.eq_6)) (And.intro (@Mini.stepE.eq_7) (@Mini.stepE.eq_8))) (And.intro (And.intro (@Mini.stepE.eq_9) (@Mini.stepE.eq_10)) (And.intro (@Mini.stepE.eq_11) (@Mini.stepE.eq_12)))))) (And.intro (And.intro (And.intro (And.intro (@Mini.stepE.eq_13) (And.intro (@Mini.stepE.eq_14) (@Mini.stepE.eq_15))) (And.intro (And.intro (@Mini.stepE.eq_16) (@Mini.stepE.eq_17)) (And.intro (@Mini.stepE.eq_18) (@Mini.O.eff.eq_1)))) (And.intro (And.intro (And.intro (@Mini.O.eff.eq_2) (@Mini.O.eff.eq_3)) (And.intro (@Mini.O.eff.eq_4) (@Mini.O.eff.eq_5))) (And.intro (And.intro (@Mini.O.eff.eq_6) (@Mini.O.eff.eq_7)) (And.intro (@Mini.O.eff.eq_8) (@Mini.O.eff.eq_9))))) (And.intro (And.intro (And.intro (@Mini.O.eff.eq_10) (And.intro (@Mini.O.eff.eq_11) (@Mini.O.eff.eq_12))) (And.intro (And.intro (@Mini.O.eff.eq_13) (@Mini.O.eff.eq_14)) (And.intro (@Mini.O.eff.eq_15) (@Mini.O.eff.eq_16)))) (And.intro (And.intro (And.intro (@Mini.O.eff.eq_17) (@Mini.O.eff.eq_18)) (And.intro (@Mini.O.eff.eq_19) (@Mini.look.eq_1))) (And.intro (And.intro (@Mini.look.eq_2) (@Mini.look.eq_3)) (And.intro (@Mini.look.eq_4) (@Mini.nth.eq_1)))))))) (And.intro (And.intro (And.intro (And.intro (And.intro (And.intro (@Mini.nth.eq_2) (And.intro (@Mini.nth.eq_3) (@Mini.put.eq_1))) (And.intro (And.intro (@Mini.put.eq_2) (@Mini.put.eq_3)) (And.intro (@Mini.exports.eq_1) (@Mini.exports.eq_2)))) (And.intro (And.intro (@Mini.bin.eq_1) (And.intro (@Mini.bin.eq_2) (@Mini.bin.eq_3))) (And.intro (And.intro (@Mini.bin.eq_4) (@Mini.bin.eq_5)) (And.intro (@Mini.binInt.eq_1) (@Mini.binInt.eq_2))))) (And.intro (And.intro (And.intro (@Mini.binInt.eq_3) (And.intro (@Mini.binInt.eq_4) (@Mini.binInt.eq_5))) (And.intro (And.intro (@Mini.binInt.eq_6) (@Mini.binInt.eq_7)) (And.intro (@Mini.binInt.eq_8) (@Mini.binInt.eq_9)))) (And.intro (And.intro (And.intro (@Mini.binInt.eq_10) (@Mini.binInt.eq_11)) (And.intro (@Mini.binInt.eq_12) (@Mini.binInt.eq_13))) (And.intro (And.intro (@Mini.binInt.eq_14) (@Mini.binInt.eq_15)) (And.intro (@Mini.binInt.eq_16) (@Mini.un.eq_1)))))) (And.intro (And.intro (And.intro (And.intro (@Mini.un.eq_2) (And.intro (@Mini.un.eq_3) (@Mini.un.eq_4))) (And.intro (And.intro (@Mini.i64.eq_1) (@Mini.bl.eq_1)) (And.intro (@asNat_nat) (@ob_eq)))) (And.intro (And.intro (@setOb_eq) (And.intro (@Mini.ofCells.eq_def) (@Mini.V.cells.eq_1))) (And.intro (And.intro (@Mini.V.cells.eq_2) (@Mini.V.cells.eq_3)) (And.intro (@List.length_cons.{0}) (@List.length_nil.{0}))))) (And.intro (And.intro (And.intro (@Option.map_some.{0, 0}) (And.intro (@if_true.{1}) (@if_false.{1}))) (And.intro (And.intro (@decide_true) (@decide_false)) (And.intro (@List.append_nil.{0}) (@List.all_nil.{0})))) (And.intro (And.intro (And.intro (@cond_true.{1}) (@cond_false.{1})) (And.intro (@Nat.zero_add) (@Nat.add_zero))) (And.intro (And.intro (@Nat.mul_one) (@Nat.one_mul)) (And.intro (@and_self) (@Int.ofNat_eq_natCast))))))) (And.intro (And.intro (And.intro (And.intro (And.intro (@Bool.false_eq_true) (And.intro (@decide_eq_true_eq) (@true_and))) (And.intro (And.intro (@and_true) (@false_and)) (And.intro (@and_false) (@an0)))) (And.intro (And.intro (@an1) (And.intro (@an2) (@ex_block))) (And.intro (And.intro (@ex_loopk) (@Mini.keepOnly.eq_1)) (And.intro (@Mini.keepOnly.eq_2) (@List.contains_cons.{0}))))) (And.intro (And.intro (And.intro (@List.contains_nil.{0}) (And.intro (@Bool.or_false) (@Bool.or_true))) (And.intro (And.intro (@Bool.false_or) (@Bool.true_or)) (And.intro (@bk_nrm) (@bk_ret)))) (And.intro (And.intro (And.intro (@bk_exit) (@Mini.pad.eq_1)) (And.intro (@List.replicate.eq_1.{0}) (@List.replicate.eq_2.{0}))) (And.intro (And.intro (@List.cons_append.{0}) (@List.nil_append.{0})) (And.intro (@Mini.results.eq_1) (@Mini.result.eq_1)))))) (And.intro (And.intro (And.intro (And.intro (@Mini.result.eq_2) (And.intro (@Mini.mapO.eq_1) (@Mini.mapO.eq_2))) (And.intro (And.intro (@Mini.byValue.eq_1) (@Mini.deepV1.eq_1)) (And.intro (@Mini.deepV1.eq_2) (@Mini.deepV1.eq_3)))) (And.intro (And.intro (And.intro (@Mini.deepC.eq_1) (@Mini.deepC.eq_2)) (And.intro (@Mini.deepC.eq_3) (@Mini.deepC.eq_4))) (And.intro (And.intro (@Mini.deepC.eq_5) (@Mini.V.flat.eq_1)) (And.intro (@Mini.V.flat.eq_2) (@Mini.V.flat1.eq_1))))) (And.intro (And.intro (And.intro (@Mini.V.flat1.eq_2) (And.intro (@Mini.V.flat1.eq_3) (@Mini.C.flat.eq_1))) (And.intro (And.intro (@Mini.C.flat.eq_2) (@Mini.D.flat.eq_1)) (And.intro (@Mini.D.flat.eq_2) (@Mini.D.flat.eq_3)))) (And.intro (And.intro (And.intro (@Mini.D.flat.eq_4) (@Mini.D.flat.eq_5)) (And.intro (@bne_self_eq_false.{0}) (@Int.lt_irrefl))) (And.intro (And.intro (@zenv_call) (@beq_self_eq_true.{0})) (And.intro (@List.getElem?_cons_zero.{0}) (@List.getElem?_cons_succ.{0}))))))))
end Mini
end Go.Proofs.YtjnghfhccjogeaaGreatDoor
namespace Go.Proofs.YtjnghfhccjogeaaGreatDoor
namespace Mini
open Go
def XOs (m : Int) (X : Ctx) : Prop := CtxLe (XS m) X
theorem XOs.fns {m : Int} {X : Ctx} (h : XOs m X) (k : FuncId) (F : Fn) (hk : fnsS k = some F) : X.fns k = some F := CtxLe.fns (X := XS m) h hk
theorem none_of {k : FuncId} {F : Fn} (h : fnsS k = none) (hk : fnsS k = some F) {p : Prop} : p := by rw [h] at hk; cases hk
theorem prim0_none {k : FuncId} {F : Fn} (hk : fnsS k = some F) (vs : List V) : prim0 k vs = none := by
  unfold prim0
  split
  · exact none_of rfl hk
  · exact none_of rfl hk
  · exact none_of rfl hk
  · exact none_of rfl hk
  · exact none_of rfl hk
  · rfl
theorem XOs.npr {m : Int} {X : Ctx} (h : XOs m X) (k : FuncId) (F : Fn) (hk : fnsS k = some F) (vs : List V) : X.prim k vs = none := CtxLe.npr (X := XS m) h hk vs (prim0_none hk vs)
theorem XOs.prim {m : Int} {X : Ctx} (h : XOs m X) (k : FuncId) (vs : List V) (r : V) (hk : prim0 k vs = some r) : X.prim k vs = some r := CtxLe.prim (X := XS m) h hk
theorem XOs.run {m : Int} {X : Ctx} (h : XOs m X) {n n' : Nat} {f : FuncId} {vs : List V} {r : V} (hr : vcallN (XS m) n f vs = some r) (hn : n ≤ n') : vcallN X n' f vs = some r := vcallN_le h hn hr
theorem XOs.fn {m : Int} {X : Ctx} (h : XOs m X) {k : FuncId} {F : Fn} (hk : fnsS k = some F) {n : Nat} {args : List V} {H : Heap} : callN X (n + 1) (.d (.fn k [] [])) args H = runFn (zenv X n) n F args H := callN_fn (h.fns _ _ hk)
theorem XOs.vc {m : Int} {X : Ctx} (h : XOs m X) {k : FuncId} {F : Fn} (hk : fnsS k = some F) {n : Nat} {vs : List V} {r : V} (hr : vcallN X n k vs = some r) : (zenv X n).vcall k vs = some r := zenv_vcall (h.npr _ _ hk vs) hr
theorem XOs.pc {m : Int} {X : Ctx} (h : XOs m X) {k : FuncId} {n : Nat} {vs : List V} {r : V} (hr : prim0 k vs = some r) : (zenv X n).vcall k vs = some r := zenv_prim (h.prim _ _ _ hr)
theorem lives_run (m : Int) : vcallN (XS m) 300 12 [] = some (.c (.d (.bool true))) := by
  rw [← vcallF_eq]
  exact lives_runF m
theorem f12 {m : Int} {X : Ctx} (hX : XOs m X) {N : Nat} (hN : 300 ≤ N) : (zenv X N).vcall 12 [] = some (.c (.d (.bool true))) := hX.vc (k := 12) (F := fn12) rfl (hX.run (lives_run m) hN)
theorem first_lt (p : Nat → Prop) [DecidablePred p] : ∀ n : Nat, (∀ j, j < n → ¬ p j) ∨ ∃ k, k < n ∧ p k ∧ ∀ j, j < k → ¬ p j
  | 0 => .inl (fun j h => absurd h (Nat.not_lt_zero j))
  | n + 1 => by
    rcases first_lt p n with h | ⟨k, h1, h2, h3⟩
    · by_cases hp : p n
      · exact .inr ⟨n, Nat.lt_succ_self n, hp, h⟩
      · left
        intro j hj
        rcases Nat.lt_succ_iff_lt_or_eq.1 hj with h4 | rfl
        · exact h j h4
        · exact hp
    · exact .inr ⟨k, Nat.lt_succ_of_lt h1, h2, h3⟩
theorem iter_find {js : Option (List Nat)} {hl : Nat} {body : St → Option (Ex × St)} (p : Nat → Prop) [DecidablePred p] (n : Nat) (R : Nat → St) {b : Nat} {s1 : St} {Q : Nat → St → Prop} {fuel : Nat} (hf : n < fuel)
    (hround : ∀ j, j < n → ¬ p j → ∃ s', body (R j) = some (.nrm, s') ∧ tidy hl js s' = R (j + 1))
    (hend : body (R n) = some (.exit b, s1)) (hhit : ∀ k, k < n → p k → ∃ s', body (R k) = some (.ret, s') ∧ Q k s') :
    ((∀ j, j < n → ¬ p j) ∧ iter js hl body fuel (R 0) = some (.exit b, s1)) ∨ ∃ k s', k < n ∧ p k ∧ (∀ j, j < k → ¬ p j) ∧ Q k s' ∧ iter js hl body fuel (R 0) = some (.ret, s') := by
  rcases first_lt p n with h | ⟨k, h1, h2, h3⟩
  · refine .inl ⟨h, iter_to R (by simp) n 0 fuel (fun j _ hj => hround j (by omega) (h j (by omega))) (by rw [Nat.zero_add]; exact hend) hf⟩
  · obtain ⟨s', h4, h5⟩ := hhit k h1 h2
    exact .inr ⟨k, s', h1, h2, h3, h5, iter_to R (by simp) k 0 fuel (fun j _ hj => hround j (by omega) (h3 j (by omega))) (by rw [Nat.zero_add]; exact h4) (by omega)⟩
def isSl {α : Type} (Q : α → List D) (w : D) (l : List α) : Prop := w = .nils ∧ l = [] ∨ w = .sl (l.flatMap Q) l.length
section
variable {α : Type} {Q : α → List D} {w : D} {l : List α} {sz : Nat}
theorem isSl.len (h : isSl Q w l) : lenc (.c (.d w)) = some (.c (.d (.int .i64 (l.length : Int))), []) := by
  rcases h with ⟨rfl, rfl⟩ | rfl <;> rfl
theorem flatQ_len (hs : ∀ a ∈ l, (Q a).length = sz) : (l.flatMap Q).length = l.length * sz := by
  induction l with
  | nil => simp
  | cons a l ih => rw [List.flatMap_cons, List.length_append, hs a List.mem_cons_self, ih (fun x hx => hs x (List.mem_cons_of_mem _ hx)), List.length_cons, Nat.succ_mul, Nat.add_comm]
theorem flatQ_at : ∀ {l : List α} (_ : ∀ a ∈ l, (Q a).length = sz) {i : Nat} {a : α} (_ : l[i]? = some a), ∃ t, (l.flatMap Q).drop (i * sz) = Q a ++ t
  | [], _, _, _, h => by simp at h
  | b :: l, hs, 0, a, h => by
    simp at h
    subst h
    exact ⟨l.flatMap Q, by rw [Nat.zero_mul, List.drop_zero, List.flatMap_cons]⟩
  | b :: l, hs, i + 1, a, h => by
    obtain ⟨t, ht⟩ := flatQ_at (l := l) (fun x hx => hs x (List.mem_cons_of_mem _ hx)) (i := i) (a := a) (by simpa using h)
    refine ⟨t, ?_⟩
    rw [List.flatMap_cons, Nat.succ_mul, Nat.add_comm, ← List.drop_drop, ← hs b List.mem_cons_self, List.drop_left, hs b List.mem_cons_self]
    exact ht
theorem isSl.at (h : isSl Q w l) (hs : ∀ a ∈ l, (Q a).length = sz) (hp : 0 < sz) {i : Nat} {a : α} (hi : l[i]? = some a) : ∃ t, ixac sz i (.c (.d w)) = some (.c (.d (.ip (Q a ++ t))), []) := by
  have hlt := (List.getElem?_eq_some_iff.1 hi).1
  rcases h with ⟨rfl, rfl⟩ | rfl
  · simp at hi
  · obtain ⟨t, ht⟩ := flatQ_at hs hi
    refine ⟨t, ?_⟩
    have hle : i * sz < l.length * sz := Nat.mul_lt_mul_of_pos_right hlt hp
    rw [ixac, if_pos ⟨hlt, by rw [flatQ_len hs]; exact hle⟩, ht]
end
def b2sc (H : Heap) (v : V) : Option (V × List Ob) :=
  match v with
  | .c (.d (.str _)) => none
  | _ => match elems H 1 v with
    | some (_, cs) => (bytesOf cs).map fun s => (.c (.d (.str s)), [])
    | none => none
theorem sp_b2s (lk : A → V) (H : Heap) (a : A) : stepP lk H (.b2s a) = b2sc H (lk a) := by
  simp only [stepP]
  unfold b2sc
  rfl
def byD (b : Nat) : List D := [.int .u8 (b : Int)]
theorem by_bytes : ∀ {l : List Nat}, (∀ b ∈ l, b < 256) → bytesOf ((l.flatMap byD).map .d) = some l
  | [], _ => rfl
  | b :: l, h => by
    have ih := by_bytes (l := l) (fun x hx => h x (List.mem_cons_of_mem _ hx))
    have hb := h b List.mem_cons_self
    unfold bytesOf at ih ⊢
    simp only [List.flatMap_cons, byD, List.cons_append, List.nil_append, List.map_cons, mapO, byteOf] at ih ⊢
    rw [ih]
    have : ((b : Int).toNat % 256) = b := by omega
    rw [this]
theorem isSl.b2s {w : D} {l : List Nat} (h : isSl byD w l) (hb : ∀ b ∈ l, b < 256) (H : Heap) : b2sc H (.c (.d w)) = some (.c (.d (.str l)), []) := by
  rcases h with ⟨rfl, rfl⟩ | rfl
  · rfl
  · have h1 : (l.flatMap byD).length = l.length * 1 := flatQ_len (fun a _ => rfl)
    simp only [b2sc, elems, if_pos h1, by_bytes hb, Option.map_some]
end Mini
end Go.Proofs.YtjnghfhccjogeaaGreatDoor
namespace Go.Proofs.YtjnghfhccjogeaaGreatDoor
namespace Mini
open Go
variable {m : Int} {X : Ctx}
def all2 {α : Type} (e : α → α → Bool) : List α → List α → Bool
  | [], [] => true
  | a :: u, b :: v => e a b && all2 e u v
  | _, _ => false
def e2 {α : Type} (e : α → α → Bool) (u v : List α) (j : Nat) : Bool :=
  match u[j]?, v[j]? with
  | some a, some b => e a b
  | _, _ => false
theorem all2_len {α : Type} {e : α → α → Bool} : ∀ {u v : List α}, all2 e u v = true → u.length = v.length
  | [], [], _ => rfl
  | [], _ :: _, h => by cases h
  | _ :: _, [], h => by cases h
  | _ :: u, _ :: v, h => by simp only [all2, Bool.and_eq_true] at h; rw [List.length_cons, List.length_cons, all2_len h.2]
theorem all2_of {α : Type} {e : α → α → Bool} : ∀ {u v : List α}, u.length = v.length → (∀ j, j < u.length → e2 e u v j = true) → all2 e u v = true
  | [], [], _, _ => rfl
  | [], _ :: _, h, _ => by cases h
  | _ :: _, [], h, _ => by cases h
  | a :: u, b :: v, h, hj => by
    have h0 : e a b = true := hj 0 (by simp)
    have h1 : all2 e u v = true := all2_of (by simpa using h) (fun j hj' => by have := hj (j + 1) (by simpa using hj'); simpa [e2] using this)
    simp only [all2, h0, h1, Bool.and_self]
theorem all2_no {α : Type} {e : α → α → Bool} : ∀ {u v : List α} {j : Nat}, j < u.length → e2 e u v j = false → all2 e u v = false
  | [], _, _, h, _ => by simp at h
  | _ :: _, [], _, _, _ => rfl
  | a :: u, b :: v, 0, _, h => by
    have h0 : e a b = false := h
    simp only [all2, h0, Bool.false_and]
  | a :: u, b :: v, j + 1, hj, h => by
    have h1 : all2 e u v = false := all2_no (j := j) (by simpa using hj) (by simpa [e2] using h)
    simp only [all2, h1, Bool.and_false]
theorem all2_one {α : Type} {f : α → Bool} : ∀ {u : List α}, all2 (fun a _ => f a) u u = true → ∀ a ∈ u, f a = true
  | [], _, a, h => by cases h
  | b :: u, h, a, ha => by
    simp only [all2, Bool.and_eq_true] at h
    rcases List.mem_cons.1 ha with rfl | ha
    · exact h.1
    · exact all2_one h.2 a ha
theorem all2_self {α : Type} {e : α → α → Bool} : ∀ {u : List α}, (∀ a ∈ u, e a a = true) → all2 e u u = true
  | [], _ => rfl
  | a :: u, h => by simp only [all2, h a List.mem_cons_self, all2_self (fun x hx => h x (List.mem_cons_of_mem _ hx)), Bool.and_self]
theorem all2_sym {α : Type} {e : α → α → Bool} : ∀ {u v : List α}, (∀ a ∈ u, ∀ b ∈ v, e a b = e b a) → all2 e u v = all2 e v u
  | [], [], _ => rfl
  | [], _ :: _, _ => rfl
  | _ :: _, [], _ => rfl
  | a :: u, b :: v, h => by
    simp only [all2, h a List.mem_cons_self b List.mem_cons_self, all2_sym (u := u) (v := v) (fun x hx y hy => h x (List.mem_cons_of_mem _ hx) y (List.mem_cons_of_mem _ hy))]
theorem iter_all2 {α : Type} {e : α → α → Bool} {u v : List α} {js : Option (List Nat)} {hl : Nat} {body : St → Option (Ex × St)} (R : Nat → St) {b : Nat} {s1 : St} {Q : St → Prop} {fuel : Nat} (hlen : u.length = v.length) (hf : u.length < fuel)
    (hround : ∀ j a b, u[j]? = some a → v[j]? = some b → e a b = true → ∃ s', body (R j) = some (.nrm, s') ∧ tidy hl js s' = R (j + 1))
    (hend : body (R u.length) = some (.exit b, s1)) (hhit : ∀ j a b, u[j]? = some a → v[j]? = some b → e a b = false → ∃ s', body (R j) = some (.ret, s') ∧ Q s') :
    (all2 e u v = true ∧ iter js hl body fuel (R 0) = some (.exit b, s1)) ∨ all2 e u v = false ∧ ∃ s', Q s' ∧ iter js hl body fuel (R 0) = some (.ret, s') := by
  have hat : ∀ j, j < u.length → ∃ a b, u[j]? = some a ∧ v[j]? = some b ∧ e2 e u v j = e a b := fun j hj => by
    have h1 : u[j]? = some u[j] := List.getElem?_eq_getElem hj
    have h2 : v[j]? = some (v[j]'(hlen ▸ hj)) := List.getElem?_eq_getElem (hlen ▸ hj)
    exact ⟨_, _, h1, h2, by simp only [e2, h1, h2]⟩
  rcases iter_find (js := js) (hl := hl) (body := body) (fun j => e2 e u v j = false) u.length R (Q := fun _ s => Q s) hf
    (fun j hj hp => by
      obtain ⟨a, b, h1, h2, h3⟩ := hat j hj
      exact hround j a b h1 h2 (by rw [← h3]; simpa using hp))
    hend
    (fun j hj hp => by
      obtain ⟨a, b, h1, h2, h3⟩ := hat j hj
      exact hhit j a b h1 h2 (by rw [← h3]; exact hp)) with ⟨h1, h2⟩ | ⟨k, s', h1, h2, _, h4, h5⟩
  · exact .inl ⟨all2_of hlen (fun j hj => by simpa using h1 j hj), h2⟩
  · exact .inr ⟨all2_no h1 h2, s', h4, h5⟩
theorem eqInts_app : ∀ {xs ys us vs : List C} {b c : Bool}, eqInts xs ys = some b → eqInts us vs = some c → eqInts (xs ++ us) (ys ++ vs) = some (b && c)
  | [], [], us, vs, b, c, h1, h2 => by
    simp only [eqInts, Option.some.injEq] at h1
    subst h1
    simpa using h2
  | .d (.int k a) :: xs, .d (.int k' a') :: ys, us, vs, b, c, h1, h2 => by
    simp only [eqInts] at h1
    split at h1
    · rename_i hk
      cases hr : eqInts xs ys with
      | none => simp [hr] at h1
      | some r =>
        simp only [hr, Option.some.injEq] at h1
        have := eqInts_app hr h2
        simp only [List.cons_append, eqInts, hk, if_true, this, ← h1, Bool.and_assoc]
    · cases h1
theorem eqInts_u32 : ∀ {a b : List Nat}, a.length = b.length → eqInts ((a.map u32D).map .d) ((b.map u32D).map .d) = some (decide (a = b))
  | [], [], _ => rfl
  | [], _ :: _, h => by cases h
  | _ :: _, [], h => by cases h
  | x :: a, y :: b, h => by
    have ih := eqInts_u32 (a := a) (b := b) (by simpa using h)
    simp only [List.map_cons, u32D, eqInts, if_true] at ih ⊢
    rw [ih]
    by_cases h1 : x = y
    · subst h1; by_cases h2 : a = b <;> simp [h2]
    · have : ((x : Int) == (y : Int)) = false := by rw [beq_eq_false_iff_ne]; omega
      simp [h1, this]
theorem eqO {a b : Oid} (ha : wfO a) (hb : wfO b) : eqInts (oC a) (oC b) = some (decide (a = b)) := by
  have h := eqInts_u32 (a := a.2) (b := b.2) (by rw [ha.2.1, hb.2.1])
  obtain ⟨n, l⟩ := a
  obtain ⟨n', l'⟩ := b
  simp only [oC, oD, List.map_cons, eqInts, if_true] at h ⊢
  rw [h]
  by_cases h1 : n = n'
  · subst h1; by_cases h2 : l = l' <;> simp [h2]
  · have : ((n : Int) == (n' : Int)) = false := by rw [beq_eq_false_iff_ne]; omega
    simp [h1, this]
structure Qu where
  k : Int
  uri : List Nat
  hr : Bool
  o : Int
  os : List Nat
  nw : D
  ns : List Int
  ht : Bool
  t : Int
  ts : List Nat
  id : Oid
  rv : D
  raw : List Nat
def nD (n : Int) : List D := [.int .u32 n]
def Qu.ds (q : Qu) : List D := .int .u8 q.k :: .str q.uri :: .bool q.hr :: .int .u32 q.o :: .str q.os :: q.nw :: .bool q.ht :: .int .u32 q.t :: .str q.ts :: (oD q.id ++ [q.rv])
structure Qu.ok (q : Qu) : Prop where
  n : isSl nD q.nw q.ns
  r : isSl byD q.rv q.raw
  b : ∀ b ∈ q.raw, b < 256
  i : wfO q.id
theorem Qu.len {q : Qu} (h : q.ok) : q.ds.length = 27 := by simp [Qu.ds, oD_len h.i]
theorem Qu.lenC {q : Qu} (h : q.ok) : (q.ds.map C.d).length = 27 := by rw [List.length_map, q.len h]
structure QAt (q : Qu) (cs : List C) : Prop where
  h0 : List.take 1 (List.drop 0 cs) = [.d (.int .u8 q.k)]
  h1 : List.take 1 (List.drop 1 cs) = [.d (.str q.uri)]
  h2 : List.take 1 (List.drop 2 cs) = [.d (.bool q.hr)]
  h3 : List.take 2 (List.drop 3 cs) = [.d (.int .u32 q.o), .d (.str q.os)]
  h5 : List.take 1 (List.drop 5 cs) = [.d q.nw]
  h6 : List.take 1 (List.drop 6 cs) = [.d (.bool q.ht)]
  h7 : List.take 2 (List.drop 7 cs) = [.d (.int .u32 q.t), .d (.str q.ts)]
  h9 : List.take 17 (List.drop 9 cs) = oC q.id
  h26 : List.take 1 (List.drop 26 cs) = [.d q.rv]
theorem Qu.at {q : Qu} (h : q.ok) : QAt q (q.ds.map .d) := by
  have h9 : (oC q.id).length = 17 := oC_len h.i
  have h9' : (oD q.id).length = 17 := oD_len h.i
  have e : List.drop 9 (q.ds.map C.d) = oC q.id ++ [.d q.rv] := by
    show List.map C.d (oD q.id ++ [q.rv]) = _
    rw [List.map_append]; rfl
  refine ⟨rfl, rfl, rfl, rfl, rfl, rfl, rfl, ?_, ?_⟩
  · rw [e, ← h9, List.take_left]
  · rw [show 26 = 9 + 17 from rfl, ← List.drop_drop, e, ← h9, List.drop_left]
    rfl
def eqQ (a b : Qu) : Bool := (a.k == b.k) && ((a.uri == b.uri) && ((a.hr == b.hr) && ((a.o == b.o && (a.os == b.os && true)) && ((decide (a.ns = b.ns)) && ((a.ht == b.ht) && ((a.t == b.t && (a.ts == b.ts && true)) && ((decide (a.id = b.id)) && (a.raw == b.raw))))))))
theorem eqQ_self (a : Qu) : eqQ a a = true := by simp [eqQ]
theorem beq_sym {α : Type} [BEq α] [LawfulBEq α] (a b : α) : (a == b) = (b == a) := by
  cases h : b == a
  · rw [beq_eq_false_iff_ne] at h ⊢; exact fun e => h e.symm
  · rw [beq_iff_eq] at h ⊢; exact h.symm
theorem dec_sym {α : Type} [DecidableEq α] (a b : α) : decide (a = b) = decide (b = a) := by
  by_cases h : a = b
  · subst h; rfl
  · simp [h, Ne.symm h]
theorem eqQ_sym (a b : Qu) : eqQ a b = eqQ b a := by
  unfold eqQ
  rw [beq_sym a.k, beq_sym a.uri, beq_sym a.hr, beq_sym a.o, beq_sym a.os, dec_sym a.ns, beq_sym a.ht, beq_sym a.t, beq_sym a.ts, dec_sym a.id, beq_sym a.raw]
end Mini
end Go.Proofs.YtjnghfhccjogeaaGreatDoor
