/-
  Loops of the abstract machine: rounds, what is let go, cells in a row.
-/
import Derived.Test.YtcilepbdddgpoaaDoorMiniN
namespace Go.Proofs.YtcilepbdddgpoaaDoor
namespace Mini
open Go

theorem ob_eq : ∀ (H : Heap) id, ob? H id = H[id]?
  | [], _ => rfl
  | _ :: _, 0 => rfl
  | _ :: H, n + 1 => by simpa [ob?] using ob_eq H n
theorem setOb_eq (o : Ob) : ∀ (H : Heap) id, setOb H id o = H.set id o
  | [], _ => rfl
  | _ :: _, 0 => rfl
  | x :: H, n + 1 => by simpa [setOb] using setOb_eq o H n
theorem asNat_nat (k : IntKind) (n : Nat) : asNat (.c (.d (.int k (n : Int)))) = some n := by simp [asNat, asInt]
theorem iter_step {js : Option (List Nat)} {hl : Nat} {body : St → Option (Ex × St)} {n : Nat} {s s' : St} (h : body s = some (.nrm, s')) : iter js hl body (n + 1) s = iter js hl body n (tidy hl js s') := by simp only [iter, h]
theorem iter_stop {js : Option (List Nat)} {hl : Nat} {body : St → Option (Ex × St)} {n : Nat} {s s' : St} {b : Nat} (h : body s = some (.exit b, s')) : iter js hl body (n + 1) s = some (.exit b, s') := by simp only [iter, h]
theorem gc_le {hl : Nat} {s : St} (h : s.heap.length ≤ hl) : gc hl s = s := by
  unfold gc
  rw [List.take_of_length_le h]
  split <;> rfl
theorem gc_yes {hl : Nat} {r : List V} {H : Heap} (h1 : r.all (V.under hl) = true) (h2 : (H.take hl).all (Ob.under hl) = true) : gc hl ⟨r, H⟩ = ⟨r, H.take hl⟩ := by
  unfold gc
  rw [if_pos (by simp only [h1, h2, Bool.and_self])]
theorem gc_no {hl : Nat} {r : List V} {H : Heap} (h1 : r.all (V.under hl) = false) : gc hl ⟨r, H⟩ = ⟨r, H⟩ := by
  unfold gc
  rw [if_neg (by simp [h1])]
theorem zq {E : Env} {N : Nat} {rd : Bool} {a b : I} {s s' : St} (h : exec E N rd a s = some (.nrm, s')) : exec E N rd (.seq a b) s = exec E N rd b s' := by simp only [exec, h]
theorem zq_out {E : Env} {N : Nat} {rd : Bool} {a b : I} {s s' : St} {e : Ex} (h : exec E N rd a s = some (e, s')) (he : e ≠ .nrm) : exec E N rd (.seq a b) s = some (e, s') := by
  cases e with
  | nrm => exact absurd rfl he
  | _ => simp only [exec, h]
theorem zb {E : Env} {N : Nat} {rd : Bool} {id : Nat} {b : I} {s s' : St} (h : exec E N rd b s = some (.exit id, s')) : exec E N rd (.block id b) s = some (.nrm, s') := by simp [exec, h]
theorem zb_nrm {E : Env} {N : Nat} {rd : Bool} {id : Nat} {b : I} {s s' : St} (h : exec E N rd b s = some (.nrm, s')) : exec E N rd (.block id b) s = some (.nrm, s') := by simp [exec, h]
theorem zl {E : Env} {N : Nat} {rd : Bool} {js : Option (List Nat)} {b : I} {s : St} {r : Option (Ex × St)} (h : iter js s.heap.length (exec E N rd b) N (tidy s.heap.length js s) = r) : exec E N rd (.loop js b) s = r := by simpa only [exec] using h

/-- Objects without references. -/
def dOb : Ob → Bool
  | .cells cs _ _ => cs.all C.isD
  | .bld _ => true
  | .dead => true
  | _ => false
theorem undersC_d (n : Nat) : ∀ cs : List C, cs.all C.isD = true → undersC n cs = true
  | [], _ => rfl
  | c :: cs, h => by
    rw [List.all_cons, Bool.and_eq_true] at h
    cases c with
    | d x => simp only [undersC, C.under, undersC_d n cs h.2, Bool.and_self]
    | _ => cases h.1
theorem dOb_under (n : Nat) (o : Ob) (h : dOb o = true) : o.under n = true := by
  cases o with
  | cells cs g f => exact undersC_d n cs h
  | loop _ _ _ _ _ _ => cases h
  | _ => rfl
theorem heap_under {H : Heap} (n m : Nat) (h : ∀ o ∈ H, dOb o = true) : (H.take n).all (Ob.under m) = true := by
  rw [List.all_eq_true]
  exact fun o ho => dOb_under m o (h o (List.mem_of_mem_take ho))
theorem mem_set {H : Heap} {i : Nat} {o : Ob} (h : ∀ x ∈ H, dOb x = true) (ho : dOb o = true) : ∀ x ∈ H.set i o, dOb x = true := fun x hx => by
  rcases List.mem_or_eq_of_mem_set hx with h' | rfl
  · exact h x h'
  · exact ho

theorem zip_ld {β : Type} (pre post : List β) (x : β) : ((pre ++ x :: post).drop pre.length).take 1 = [x] := by simp
theorem zip_st (pre post : List C) (x y : C) : splice (pre ++ x :: post) pre.length [y] = pre ++ y :: post := by
  unfold splice
  simp [List.drop_append]
theorem set_same {β : Type} {H : List β} {id : Nat} {o : β} (h : H[id]? = some o) : H.set id o = H := by
  obtain ⟨hi, rfl⟩ := List.getElem?_eq_some_iff.1 h
  exact List.set_getElem_self hi
theorem wrap_nat {k : Nat} (h : k < 9223372036854775808) : IntKind.i64.wrap (k : Int) = (k : Int) := by
  simp only [IntKind.wrap, IntKind.bits, IntKind.signed]
  simp
  omega
theorem wrap_succ {k : Nat} (h : k + 1 < 9223372036854775808) : IntKind.i64.wrap ((k : Int) + 1) = ((k + 1 : Nat) : Int) := by
  rw [← wrap_nat h]
  rfl
/-! ### Calls -/
def zenv (X : Ctx) (n : Nat) : Env := {
      call := callN X n
      vcall := fun f vs => match X.prim f vs with
        | some r => some r
        | none => match callN X n (.d (.fn f [] [])) vs [] with
          | some (r, H') => deepV H' r
          | none => none
      prim := X.prim, bprim := X.bprim, glob := X.glob }
theorem callN_fn {X : Ctx} {n : Nat} {f : FuncId} {F : Fn} {args : List V} {H : Heap} (h : X.fns f = some F) : callN X (n + 1) (.d (.fn f [] [])) args H = runFn (zenv X n) n F args H := by
  have : callN X (n + 1) (.d (.fn f [] [])) args H = match X.fns f with
      | some F => runFn (zenv X n) n F (([] : List D).map (fun x => .c (.d x)) ++ args ++ ([] : List D).map (fun x => .c (.d x))) H
      | none => none := rfl
  rw [this, h]
  simp
theorem zenv_prim {X : Ctx} {n : Nat} {f : FuncId} {vs : List V} {r : V} (h : X.prim f vs = some r) : (zenv X n).vcall f vs = some r := by
  show (match X.prim f vs with
        | some r => some r
        | none => match callN X n (.d (.fn f [] [])) vs [] with
          | some (r, H') => deepV H' r
          | none => none) = some r
  rw [h]
theorem zenv_vcall {X : Ctx} {n : Nat} {f : FuncId} {vs : List V} {r : Option V} (h : X.prim f vs = none) (hr : vcallN X n f vs = r) : (zenv X n).vcall f vs = r := by
  show (match X.prim f vs with
        | some r => some r
        | none => match callN X n (.d (.fn f [] [])) vs [] with
          | some (r, H') => deepV H' r
          | none => none) = r
  rw [h]
  exact hr
theorem zenv_call {X : Ctx} {n : Nat} : (zenv X n).call = callN X n := rfl
theorem vcall_of {X : Ctx} {n : Nat} {f : FuncId} {vs : List V} {r v : V} {H : Heap} (h : callN X n (.d (.fn f [] [])) vs [] = some (r, H)) (hd : deepV H r = some v) : vcallN X n f vs = some v := by
  unfold vcallN
  rw [h]
  exact hd
end Mini
end Go.Proofs.YtcilepbdddgpoaaDoor
