/-
  The abstract machine's steps as equations without binders: a walk by rewriting goes straight on.
-/
import Derived.Test.YtcilepbdddgpoaaDoorMiniT
namespace Go.Proofs.YtcilepbdddgpoaaDoor
namespace Mini
open Go
def cont (x : Option (V × Heap)) (E : Env) (regs : List V) (ps : List Gp) (ts : List V) : Option (List V × Heap) :=
  match x with
  | some (v, H') => runOps E regs ps (v :: ts) H'
  | none => none
theorem cont_some (v : V) (H' : Heap) (E : Env) (regs : List V) (ps : List Gp) (ts : List V) : cont (some (v, H')) E regs ps ts = runOps E regs ps (v :: ts) H' := rfl
theorem ro_nil (E : Env) (regs ts : List V) (H : Heap) : runOps E regs [] ts H = some (ts, H) := rfl
theorem ro_none (op : O) (E : Env) (regs : List V) (ps : List Gp) (ts : List V) (H : Heap) : runOps E regs (⟨none, op⟩ :: ps) ts H = cont (step E (look E regs ts) H op) E regs ps ts := by
  simp only [runOps, wants, cont]
  cases step E (look E regs ts) H op with
  | none => rfl
  | some p => rfl
def gcont (g : V) (b : Bool) (op : O) (E : Env) (regs : List V) (ps : List Gp) (ts : List V) (H : Heap) : Option (List V × Heap) :=
  match g with
  | .c (.d (.bool t)) => if (t == b) = true then cont (step E (look E regs ts) H op) E regs ps ts else runOps E regs ps (.tup [] :: ts) H
  | .tup [] => runOps E regs ps (.tup [] :: ts) H
  | _ => none
theorem ro_some (k : Nat) (b : Bool) (op : O) (E : Env) (regs : List V) (ps : List Gp) (ts : List V) (H : Heap) : runOps E regs (⟨some (k, b), op⟩ :: ps) ts H = gcont (nth ts k) b op E regs ps ts H := by
  simp only [runOps, wants, gcont, cont]
  cases nth ts k with
  | c x =>
    cases x with
    | d y =>
      cases y with
      | bool t =>
        cases t <;> cases b <;> first
          | rfl
          | (simp only [beq_self_eq_true, if_true]
             cases step E (look E regs ts) H op with
             | none => rfl
             | some p => rfl)
      | _ => rfl
    | _ => rfl
  | tup vs => cases vs <;> rfl
  | _ => rfl
theorem gc_tt (op : O) (E : Env) (regs : List V) (ps : List Gp) (ts : List V) (H : Heap) : gcont (.c (.d (.bool true))) true op E regs ps ts H = cont (step E (look E regs ts) H op) E regs ps ts := rfl
theorem gc_ff (op : O) (E : Env) (regs : List V) (ps : List Gp) (ts : List V) (H : Heap) : gcont (.c (.d (.bool false))) false op E regs ps ts H = cont (step E (look E regs ts) H op) E regs ps ts := rfl
theorem gc_tf (op : O) (E : Env) (regs : List V) (ps : List Gp) (ts : List V) (H : Heap) : gcont (.c (.d (.bool true))) false op E regs ps ts H = runOps E regs ps (.tup [] :: ts) H := rfl
theorem gc_ft (op : O) (E : Env) (regs : List V) (ps : List Gp) (ts : List V) (H : Heap) : gcont (.c (.d (.bool false))) true op E regs ps ts H = runOps E regs ps (.tup [] :: ts) H := rfl
theorem gc_t (b : Bool) (op : O) (E : Env) (regs : List V) (ps : List Gp) (ts : List V) (H : Heap) : gcont (.tup []) b op E regs ps ts H = runOps E regs ps (.tup [] :: ts) H := rfl
def seqc (x : Option (Ex × St)) (E : Env) (N : Nat) (rd : Bool) (b : I) : Option (Ex × St) :=
  match x with
  | some (.nrm, s') => exec E N rd b s'
  | r => r
theorem ex_seq (E : Env) (N : Nat) (rd : Bool) (a b : I) (s : St) : exec E N rd (.seq a b) s = seqc (exec E N rd a s) E N rd b := rfl
theorem sq_nrm (s : St) (E : Env) (N : Nat) (rd : Bool) (b : I) : seqc (some (.nrm, s)) E N rd b = exec E N rd b s := rfl
theorem sq_ret (s : St) (E : Env) (N : Nat) (rd : Bool) (b : I) : seqc (some (.ret, s)) E N rd b = some (.ret, s) := rfl
theorem sq_exit (id : Nat) (s : St) (E : Env) (N : Nat) (rd : Bool) (b : I) : seqc (some (.exit id, s)) E N rd b = some (.exit id, s) := rfl
def regc (x : Option (List V × Heap)) (E : Env) (regs : List V) (exp : List (Nat × Nat)) (aps : List (A × A)) : Option (Ex × St) :=
  match x with
  | some (ts, H) => if aps.all (fun (a, b) => apart (look E regs ts a) (look E regs ts b)) then some (.nrm, ⟨exports regs ts exp, H⟩) else none
  | none => none
theorem ex_reg (E : Env) (N : Nat) (rd d : Bool) (ops : List Gp) (exp : List (Nat × Nat)) (aps : List (A × A)) (regs : List V) (H : Heap) : exec E N rd (.reg d ops exp aps) ⟨regs, H⟩ = regc (runOps E regs ops [] H) E regs exp aps := rfl
theorem rg_some (ts : List V) (H : Heap) (E : Env) (regs : List V) (exp : List (Nat × Nat)) : regc (some (ts, H)) E regs exp [] = some (.nrm, ⟨exports regs ts exp, H⟩) := rfl
def condc (v : V) (E : Env) (N : Nat) (rd : Bool) (a b : I) (s : St) : Option (Ex × St) :=
  match v with
  | .c (.d (.bool t)) => bif t then exec E N rd a s else exec E N rd b s
  | _ => none
theorem ex_cond (E : Env) (N : Nat) (rd : Bool) (c : A) (a b : I) (regs : List V) (H : Heap) : exec E N rd (.cond c a b) ⟨regs, H⟩ = condc (look E regs [] c) E N rd a b ⟨regs, H⟩ := rfl
theorem cd_t (E : Env) (N : Nat) (rd : Bool) (a b : I) (s : St) : condc (.c (.d (.bool true))) E N rd a b s = exec E N rd a s := rfl
theorem cd_f (E : Env) (N : Nat) (rd : Bool) (a b : I) (s : St) : condc (.c (.d (.bool false))) E N rd a b s = exec E N rd b s := rfl
theorem ex_skip (E : Env) (N : Nat) (rd : Bool) (s : St) : exec E N rd .skip s = some (.nrm, s) := rfl
theorem ex_ret (E : Env) (N : Nat) (rd : Bool) (s : St) : exec E N rd .ret s = some (.ret, s) := rfl
theorem ex_exit (E : Env) (N : Nat) (rd : Bool) (id : Nat) (s : St) : exec E N rd (.exit id) s = some (.exit id, s) := rfl
/-- The end of a function. -/
def fin (x : Option (Ex × St)) (F : List Rv) : Option (V × Heap) :=
  match x with
  | some (.exit _, _) => none
  | some (_, s) => (results s.regs s.heap F).map fun v => (v, s.heap)
  | none => none
theorem rf_fin (E : Env) (fuel np nr : Nat) (tm : List Nat) (res : List Rv) (body : I) (args : List V) (H : Heap) (h : args.length = np) : runFn E fuel ⟨np, nr, tm, res, body⟩ args H = fin (exec E fuel false body ⟨pad nr args, H⟩) res := by
  unfold runFn
  rw [if_pos h]
  simp only [fin]
  cases exec E fuel false body ⟨pad nr args, H⟩ with
  | none => rfl
  | some p => obtain ⟨e, s⟩ := p; cases e <;> rfl
theorem fin_ret (s : St) (F : List Rv) : fin (some (.ret, s)) F = (results s.regs s.heap F).map fun v => (v, s.heap) := rfl
theorem fin_nrm (s : St) (F : List Rv) : fin (some (.nrm, s)) F = (results s.regs s.heap F).map fun v => (v, s.heap) := rfl
end Mini
end Go.Proofs.YtcilepbdddgpoaaDoor
