/-
  Rows of elements of several cells; what lies behind a heap; heaps whose references stay inside.
-/
import Derived.Test.YtcilepbdddgpoaaDoorMiniS
namespace Go.Proofs.YtcilepbdddgpoaaDoor
namespace Mini
open Go

/-! ### Rows of elements -/
theorem flat_len {sz : Nat} : ∀ es : List (List C), (∀ e ∈ es, e.length = sz) → es.flatten.length = es.length * sz
  | [], _ => by simp
  | e :: es, h => by
    rw [List.flatten_cons, List.length_append, flat_len es (fun x hx => h x (List.mem_cons_of_mem _ hx)), h e List.mem_cons_self, List.length_cons, Nat.succ_mul, Nat.add_comm]
theorem flat_split {sz : Nat} {es : List (List C)} {i : Nat} {e : List C} (h : ∀ e ∈ es, e.length = sz) (hi : es[i]? = some e) : es.flatten = (es.take i).flatten ++ (e ++ (es.drop (i + 1)).flatten) ∧ (es.take i).flatten.length = i * sz := by
  obtain ⟨hlt, rfl⟩ := List.getElem?_eq_some_iff.1 hi
  refine ⟨?_, ?_⟩
  · have := congrArg List.flatten (List.take_append_drop i es).symm
    rw [List.drop_eq_getElem_cons hlt, List.flatten_append, List.flatten_cons] at this
    exact this
  · rw [flat_len _ (fun x hx => h x (List.mem_of_mem_take hx)), List.length_take, Nat.min_eq_left (Nat.le_of_lt hlt)]
theorem flat_ld {sz : Nat} {es : List (List C)} {i : Nat} {e : List C} (h : ∀ e ∈ es, e.length = sz) (hi : es[i]? = some e) : (es.flatten.drop (i * sz)).take sz = e := by
  obtain ⟨h1, h2⟩ := flat_split h hi
  have he : e.length = sz := h e (List.mem_of_getElem? hi)
  rw [h1, ← h2, List.drop_left, ← he, List.take_left]
theorem flat_st {sz : Nat} {es : List (List C)} {i : Nat} {e : List C} (new : List C) (h : ∀ e ∈ es, e.length = sz) (hi : es[i]? = some e) (hn : new.length ≤ sz) : splice es.flatten (i * sz) new = (es.set i (new ++ e.drop new.length)).flatten := by
  obtain ⟨h1, h2⟩ := flat_split h hi
  obtain ⟨hlt, _⟩ := List.getElem?_eq_some_iff.1 hi
  have he : e.length = sz := h e (List.mem_of_getElem? hi)
  unfold splice
  rw [List.set_eq_take_append_cons_drop, if_pos hlt, List.flatten_append, List.flatten_cons]
  rw [h1, ← h2, List.take_left, ← List.drop_drop, List.drop_left, List.drop_append_of_le_length (by omega)]
  simp
theorem flat_set_len {sz : Nat} {es : List (List C)} {i : Nat} {e : List C} (h : ∀ e ∈ es, e.length = sz) (he : e.length = sz) : ∀ x ∈ es.set i e, x.length = sz := fun x hx => by
  rcases List.mem_or_eq_of_mem_set hx with h' | rfl
  · exact h x h'
  · exact he

/-! ### Behind a heap -/
theorem at0 {H t : Heap} {a : Ob} : (H ++ a :: t)[H.length]? = some a := by simp
theorem at1 {H t : Heap} {a b : Ob} : (H ++ a :: b :: t)[H.length + 1]? = some b := by rw [List.getElem?_append_right (by omega)]; simp
theorem at2 {H t : Heap} {a b c : Ob} : (H ++ a :: b :: c :: t)[H.length + 2]? = some c := by rw [List.getElem?_append_right (by omega)]; simp
theorem at3 {H t : Heap} {a b c d : Ob} : (H ++ a :: b :: c :: d :: t)[H.length + 3]? = some d := by rw [List.getElem?_append_right (by omega)]; simp
theorem at4 {H t : Heap} {a b c d e : Ob} : (H ++ a :: b :: c :: d :: e :: t)[H.length + 4]? = some e := by rw [List.getElem?_append_right (by omega)]; simp
theorem at5 {H t : Heap} {a b c d e f : Ob} : (H ++ a :: b :: c :: d :: e :: f :: t)[H.length + 5]? = some f := by rw [List.getElem?_append_right (by omega)]; simp
theorem se0 {H t : Heap} {a x : Ob} : (H ++ a :: t).set H.length x = H ++ x :: t := by simp
theorem se1 {H t : Heap} {a b x : Ob} : (H ++ a :: b :: t).set (H.length + 1) x = H ++ a :: x :: t := by rw [List.set_append_right _ _ (by omega)]; simp
theorem se2 {H t : Heap} {a b c x : Ob} : (H ++ a :: b :: c :: t).set (H.length + 2) x = H ++ a :: b :: x :: t := by rw [List.set_append_right _ _ (by omega)]; simp
theorem se3 {H t : Heap} {a b c d x : Ob} : (H ++ a :: b :: c :: d :: t).set (H.length + 3) x = H ++ a :: b :: c :: x :: t := by rw [List.set_append_right _ _ (by omega)]; simp
theorem se4 {H t : Heap} {a b c d e x : Ob} : (H ++ a :: b :: c :: d :: e :: t).set (H.length + 4) x = H ++ a :: b :: c :: d :: x :: t := by rw [List.set_append_right _ _ (by omega)]; simp
theorem atL {H t : Heap} {i : Nat} {o : Ob} (h : H[i]? = some o) : (H ++ t)[i]? = some o := by
  rw [List.getElem?_append_left (List.getElem?_eq_some_iff.1 h).1]; exact h

/-! ### References that stay inside -/
def uC (n : Nat) : C → Bool
  | .d _ => true
  | .ptr id _ _ => decide (id < n)
  | .os id _ _ _ _ _ => decide (id < n)
  | _ => false
theorem uC_mono {n m : Nat} (h : n ≤ m) {c : C} (hc : uC n c = true) : uC m c = true := by
  cases c with
  | d x => rfl
  | ptr id g o => exact decide_eq_true (Nat.lt_of_lt_of_le (of_decide_eq_true hc) h)
  | os id g o l s c => exact decide_eq_true (Nat.lt_of_lt_of_le (of_decide_eq_true hc) h)
  | _ => cases hc
theorem uC_under {n : Nat} {c : C} (hc : uC n c = true) : c.under n = true := by
  cases c with
  | d x => rfl
  | ptr id g o => exact hc
  | os id g o l s c => exact hc
  | _ => cases hc
theorem uCs_under {n : Nat} : ∀ {cs : List C}, cs.all (uC n) = true → undersC n cs = true
  | [], _ => rfl
  | c :: cs, h => by
    rw [List.all_cons, Bool.and_eq_true] at h
    simp only [undersC, uC_under h.1, uCs_under h.2, Bool.and_self]
def uO (n : Nat) : Ob → Bool
  | .cells cs _ _ => cs.all (uC n)
  | _ => false
theorem uO_under {n : Nat} {o : Ob} (h : uO n o = true) : o.under n = true := by
  cases o with
  | cells cs g f => exact uCs_under h
  | _ => cases h
theorem uO_mono {n m : Nat} (h : n ≤ m) {o : Ob} (ho : uO n o = true) : uO m o = true := by
  cases o with
  | cells cs g f =>
    simp only [uO, List.all_eq_true] at ho ⊢
    exact fun c hc => uC_mono h (ho c hc)
  | _ => cases ho
/-- A heap whose references stay below n. -/
def Hp (n : Nat) (H : Heap) : Prop := ∀ o ∈ H, uO n o = true
theorem Hp.mono {n m : Nat} {H : Heap} (h : Hp n H) (hm : n ≤ m) : Hp m H := fun o ho => uO_mono hm (h o ho)
theorem Hp.app {n : Nat} {H t : Heap} (h : Hp n H) (ht : Hp n t) : Hp n (H ++ t) := fun o ho => by
  rcases List.mem_append.1 ho with h' | h'
  · exact h o h'
  · exact ht o h'
theorem Hp.cons {n : Nat} {o : Ob} {t : Heap} (h : uO n o = true) (ht : Hp n t) : Hp n (o :: t) := fun x hx => by
  rcases List.mem_cons.1 hx with rfl | h'
  · exact h
  · exact ht x h'
theorem Hp.nil {n : Nat} : Hp n [] := fun o ho => by cases ho
theorem Hp.set {n i : Nat} {o : Ob} {H : Heap} (h : Hp n H) (ho : uO n o = true) : Hp n (H.set i o) := fun x hx => by
  rcases List.mem_or_eq_of_mem_set hx with h' | rfl
  · exact h x h'
  · exact ho
/-- What is behind goes. -/
theorem gc_back {H t : Heap} {r : List V} (hl : Nat) (hn : hl = H.length) (h1 : r.all (V.under H.length) = true) (h2 : Hp H.length H) : gc hl ⟨r, H ++ t⟩ = ⟨r, H⟩ := by
  subst hn
  rw [gc_yes h1 (by rw [List.take_left, List.all_eq_true]; exact fun o ho => uO_under (h2 o ho)), List.take_left]
theorem flat_u {n : Nat} {es : List (List C)} (h : ∀ e ∈ es, e.all (uC n) = true) : es.flatten.all (uC n) = true := by
  rw [List.all_eq_true]
  intro c hc
  obtain ⟨e, he, hce⟩ := List.mem_flatten.1 hc
  exact List.all_eq_true.1 (h e he) c hce
theorem rep_flat (z : List C) : ∀ n, rep z n = (List.replicate n z).flatten
  | 0 => rfl
  | n + 1 => by rw [rep, rep_flat z n, List.replicate_succ, List.flatten_cons]
theorem flat_mem {sz : Nat} {es : List (List C)} {i : Nat} {e : List C} (h : ∀ e ∈ es, e.length = sz) (hi : es[i]? = some e) : i * sz + sz ≤ es.flatten.length := by
  obtain ⟨hlt, _⟩ := List.getElem?_eq_some_iff.1 hi
  rw [flat_len es h, ← Nat.succ_mul]
  exact Nat.mul_le_mul_right _ hlt
end Mini
end Go.Proofs.YtcilepbdddgpoaaDoor
