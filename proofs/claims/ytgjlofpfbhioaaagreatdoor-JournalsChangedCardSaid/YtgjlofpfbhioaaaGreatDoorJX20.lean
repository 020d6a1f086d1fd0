/-
  JournalsChanged: texts of the proof, part 21.
-/
import Derived.Test.YtgjlofpfbhioaaaGreatDoorJX19
namespace Go.Proofs.YtgjlofpfbhioaaaGreatDoor
namespace Mini
open Go
theorem sumS_inj {a b c : Nat} (ha : a < 65521) (hb : b < 65521) (h : sumS a c = sumS b c) : a = b := by
  unfold sumS at h
  omega
theorem sumS_byte {a y z : Nat} (hy : y < 256) (hz : z < 256) (h : sumS a y = sumS a z) : y = z := by
  unfold sumS at h
  omega
theorem sumN_inj : ∀ {t : List Nat} {a b : Nat}, a < 65521 → b < 65521 → sumN a t = sumN b t → a = b
  | [], _, _, _, _, h => h
  | c :: t, a, b, ha, hb, h => sumS_inj ha hb (sumN_inj (t := t) (Nat.mod_lt _ (by decide)) (Nat.mod_lt _ (by decide)) h)
theorem sumN_app (a : Nat) (u v : List Nat) : sumN a (u ++ v) = sumN (sumN a u) v := by simp [sumN]
theorem sumN_byte {la y z : Nat} {u t : List Nat} (hy : y < 256) (hz : z < 256) (h : sumN la (u ++ y :: t) = sumN la (u ++ z :: t)) : y = z := by
  rw [sumN_app, sumN_app] at h
  exact sumS_byte hy hz (sumN_inj (t := t) (Nat.mod_lt _ (by decide)) (Nat.mod_lt _ (by decide)) h)
theorem lidx_app_some {c k : Nat} {v : List Nat} (h : lidxN c v = some k) : ∀ u : List Nat, lidxN c (u ++ v) = some (u.length + k)
  | [] => by simpa using h
  | x :: u => by
    rw [List.cons_append]
    unfold lidxN
    rw [lidx_app_some h u]
    simp only [List.length_cons]
    congr 1
    omega
theorem lidx_app_none {c : Nat} {v : List Nat} (h : lidxN c v = none) : ∀ u : List Nat, lidxN c (u ++ v) = lidxN c u
  | [] => h
  | x :: u => by
    rw [List.cons_append]
    unfold lidxN
    rw [lidx_app_none h u]
theorem splitN_step (c x : Nat) (s : List Nat) : splitN c (x :: s) = if x = c then [] :: splitN c s else match splitN c s with
    | [] => [[x]]
    | y :: ys => (x :: y) :: ys := rfl
theorem split_mid (c : Nat) (v : List Nat) : ∀ u : List Nat, splitN c (u ++ c :: v) = splitN c u ++ splitN c v
  | [] => by simp [splitN]
  | x :: u => by
    rw [List.cons_append, splitN_step, splitN_step c x u, split_mid c v u]
    split
    · rfl
    · cases h : splitN c u with
      | nil => exact absurd h (splitN_neq c u)
      | cons a l => rfl
theorem split_other (c : Nat) {v b : List Nat} {B : List (List Nat)} (hv : splitN c v = b :: B) {z : Nat} (hz : z ≠ c) : ∀ u : List Nat, ∃ A a, splitN c u = A ++ [a] ∧ splitN c (u ++ z :: v) = A ++ (a ++ z :: b) :: B
  | [] => ⟨[], [], rfl, by
    rw [List.nil_append]
    unfold splitN
    rw [if_neg hz, hv]
    rfl⟩
  | x :: u => by
    obtain ⟨A, a, h1, h2⟩ := split_other c hv hz u
    rw [List.cons_append]
    unfold splitN
    rw [h1, h2]
    split
    · exact ⟨[] :: A, a, rfl, rfl⟩
    · cases A with
      | nil => exact ⟨[], x :: a, rfl, rfl⟩
      | cons a0 A => exact ⟨(x :: a0) :: A, a, rfl, rfl⟩
theorem no_mix {A B : List (List Nat)} {a b : List Nat} {z : Nat} (h1 : (A ++ a :: b :: B).getD 1 [] = rejW) (h2 : rvJ ((A ++ a :: b :: B).getD 2 []) 3 ≠ 0) (h3 : (A ++ (a ++ z :: b) :: B).getD 1 [] = accW) : False := by
  match A with
  | [] =>
    cases B with
    | nil => simp [accW] at h3
    | cons c B =>
      simp at h2 h3
      rw [h3] at h2
      exact h2 (by decide)
  | [a0] =>
    simp at h1 h3
    rw [h1] at h3
    have := congrArg List.length h3
    simp [accW, rejW] at this
  | a0 :: a1 :: A =>
    simp at h1 h3
    rw [h1] at h3
    exact absurd h3 (by decide)
theorem readE_form {s : List Nat} (h : (readE s).2.2 = true) : ((splitN 32 s).getD 1 [] = accW ∧ (splitN 32 s).length = 4 ∨ (splitN 32 s).getD 1 [] = rejW ∧ (splitN 32 s).length = 5 ∧ rvJ ((splitN 32 s).getD 2 []) 3 ≠ 0) ∧ (readE s).2.1 = numS ((splitN 32 s).getD ((splitN 32 s).length - 1) []) 5 ∧ 0 ≤ numS ((splitN 32 s).getD ((splitN 32 s).length - 1) []) 5 := by
  unfold readE at h ⊢
  split at h
  · cases h
  rename_i c1
  split at h
  · cases h
  rename_i c2
  rw [if_neg c1, if_neg c2]
  split at h
  · rename_i c3
    rw [if_pos c3]
    have hl : (splitN 32 s).length - 1 = 3 := by omega
    rw [hl] at c2 ⊢
    split at h
    · rename_i c4
      rw [if_pos c4]
      exact ⟨.inl c3, rfl, by omega⟩
    split at h
    · rename_i c4 c5
      rw [if_neg c4, if_pos c5]
      exact ⟨.inl c3, rfl, by omega⟩
    · cases h
  rename_i c3
  split at h
  · rename_i c4
    rw [if_neg c3, if_pos c4]
    have hl : (splitN 32 s).length - 1 = 4 := by omega
    rw [hl] at c2 ⊢
    split at h
    · cases h
    · rename_i c5
      rw [if_neg c5]
      exact ⟨.inr ⟨c4.1, c4.2, fun h => c5 (.inl h)⟩, rfl, by omega⟩
  · cases h
theorem numS_arc {s : List Nat} (h : 0 ≤ numS s 5) : arcOk s = true ∧ numS s 5 = (numN 0 s : Nat) := by
  unfold numS at h ⊢
  split at h
  · omega
  rename_i c1
  split at h
  · rename_i c2
    rw [if_neg c1, if_pos c2]
    refine ⟨?_, rfl⟩
    have c3 : s ≠ [] := fun h => c1 (.inl h)
    have c4 : ¬ (5 : Int) < s.length := fun h => c1 (.inr (.inl h))
    have c5 : ¬ (1 < s.length ∧ s.getD 0 0 = 48) := fun h => c1 (.inr (.inr h))
    have hl := numN_lt s 0 0 c2 (by decide)
    have hp : 10 ^ (0 + s.length) ≤ 10 ^ 5 := Nat.pow_le_pow_right (by decide) (by omega)
    have h5 : 10 ^ 5 = 100000 := rfl
    have hpos : 0 < s.length := List.length_pos_iff.2 c3
    have hoff : ¬ arcOff s := by unfold arcOff; omega
    unfold arcOk
    rw [decide_eq_false hoff, c2, decide_eq_true (by omega)]
    rfl
  · omega
theorem errP_ok {la : Nat} {x : List Nat} (h : errP la x = 0) : (readE x).2.2 = true ∧ ((sumL la x : Nat) : Int) = (readE x).2.1 := by
  unfold errP at h
  split at h
  · cases h
  rename_i c1
  split at h
  · rename_i c2; exact absurd h c2
  split at h
  · cases h
  · rename_i c3
    exact ⟨by simpa using c1, Decidable.not_not.1 c3⟩
theorem byte_one {la : Nat} {u v : List Nat} {y z : Nat} (hy : y < 256) (hz : z < 256) (hyz : y ≠ z) (h1 : errP la (u ++ y :: v) = 0) (h2 : errP la (u ++ z :: v) = 0) : False := by
  obtain ⟨o1, s1⟩ := errP_ok h1
  obtain ⟨o2, s2⟩ := errP_ok h2
  obtain ⟨f1, g1, p1⟩ := readE_form o1
  obtain ⟨f2, g2, p2⟩ := readE_form o2
  rw [g1] at s1
  rw [g2] at s2
  have mix : ∀ {z : Nat}, z ≠ 32 → ((splitN 32 (u ++ 32 :: v)).getD 1 [] = accW ∧ (splitN 32 (u ++ 32 :: v)).length = 4 ∨ (splitN 32 (u ++ 32 :: v)).getD 1 [] = rejW ∧ (splitN 32 (u ++ 32 :: v)).length = 5 ∧ rvJ ((splitN 32 (u ++ 32 :: v)).getD 2 []) 3 ≠ 0) → ((splitN 32 (u ++ z :: v)).getD 1 [] = accW ∧ (splitN 32 (u ++ z :: v)).length = 4 ∨ (splitN 32 (u ++ z :: v)).getD 1 [] = rejW ∧ (splitN 32 (u ++ z :: v)).length = 5 ∧ rvJ ((splitN 32 (u ++ z :: v)).getD 2 []) 3 ≠ 0) → False := by
    intro z hz k1 k2
    cases hv : splitN 32 v with
    | nil => exact splitN_neq 32 v hv
    | cons b B =>
      obtain ⟨A, a, e1, e2⟩ := split_other 32 hv hz u
      rw [split_mid, e1, hv, List.append_assoc, List.singleton_append] at k1
      rw [e2] at k2
      simp only [List.length_append, List.length_cons] at k1 k2
      rcases k1 with ⟨_, k1⟩ | ⟨q1, k1, q2⟩
      · rcases k2 with ⟨_, k2⟩ | ⟨_, k2, _⟩ <;> omega
      · rcases k2 with ⟨q3, k2⟩ | ⟨_, k2, _⟩
        · exact no_mix q1 q2 q3
        · omega
  by_cases hy32 : y = 32
  · subst hy32
    exact mix (Ne.symm hyz) f1 f2
  by_cases hz32 : z = 32
  · subst hz32
    exact mix hyz f2 f1
  have nn : ∀ {z : Nat}, z ≠ 32 → lidxN 32 v = none → lidxN 32 (z :: v) = none := fun hz h => by
    unfold lidxN
    rw [h]
    simp only [if_neg hz]
  have ns : ∀ (z : Nat) {k : Nat}, lidxN 32 v = some k → lidxN 32 (u ++ z :: v) = some (u.length + (k + 1)) := fun z k h => lidx_app_some (by unfold lidxN; rw [h]) u
  cases hv : lidxN 32 v with
  | some k =>
    have a1 := ns y hv
    have a2 := ns z hv
    obtain ⟨_, b1⟩ := lidx_last a1
    obtain ⟨_, b2⟩ := lidx_last a2
    have d1 : ∀ z, (u ++ z :: v).drop (u.length + (k + 1) + 1) = v.drop (k + 1) := fun z => by
      rw [List.drop_append, List.drop_of_length_le (by omega), List.nil_append, show u.length + (k + 1) + 1 - u.length = (k + 1) + 1 by omega, List.drop_succ_cons]
    have d2 : ∀ z, (u ++ z :: v).take (u.length + (k + 1)) = u ++ z :: v.take k := fun z => by
      rw [List.take_append, List.take_of_length_le (by omega), show u.length + (k + 1) - u.length = k + 1 by omega, List.take_succ_cons]
    rw [b1, d1] at s1
    rw [b2, d1] at s2
    have s3 := s1.trans s2.symm
    unfold sumL at s3
    rw [a1, a2, Option.getD_some, d2, d2] at s3
    exact hyz (sumN_byte (la := la) (u := u) (t := v.take k) hy hz (by omega))
  | none =>
    have a1 := lidx_app_none (nn hy32 hv) u
    have a2 := lidx_app_none (nn hz32 hv) u
    obtain ⟨_, _, _, _, ex⟩ := readE_ok (s := u ++ y :: v)
    obtain ⟨k, hk, _⟩ := ex o1
    rw [a1] at hk
    have hku := lidx_lt hk
    rw [hk] at a1 a2
    obtain ⟨_, b1⟩ := lidx_last a1
    obtain ⟨_, b2⟩ := lidx_last a2
    have d1 : ∀ z, (u ++ z :: v).drop (k + 1) = u.drop (k + 1) ++ z :: v := fun z => by
      rw [List.drop_append_of_le_length (by omega)]
    have d2 : ∀ z, (u ++ z :: v).take k = u.take k := fun z => by
      rw [List.take_append_of_le_length (by omega)]
    rw [b1, d1] at s1 p1
    rw [b2, d1] at s2 p2
    unfold sumL at s1 s2
    rw [a1, Option.getD_some, d2] at s1
    rw [a2, Option.getD_some, d2] at s2
    obtain ⟨q1, q2⟩ := numS_arc p1
    obtain ⟨q3, q4⟩ := numS_arc p2
    have e1 := decN_numN q1
    have e2 := decN_numN q3
    have e3 : numN 0 (u.drop (k + 1) ++ y :: v) = numN 0 (u.drop (k + 1) ++ z :: v) := by omega
    rw [e3, e2] at e1
    have := List.append_cancel_left e1
    exact hyz (List.cons.inj this).1.symm
end Mini
end Go.Proofs.YtgjlofpfbhioaaaGreatDoor
namespace Go.Proofs.YtgjlofpfbhioaaaGreatDoor
namespace Mini
open Go
variable {m : Int} {X : Ctx}
theorem textJ_app (v : List En) : ∀ (u : List En) (a : Nat), textJ a (u ++ v) = textJ a u ++ textJ (lastJ a u) v
  | [], _ => rfl
  | e :: u, a => by
    rw [List.cons_append, textJ, textJ, textJ_app v u, List.append_assoc]
    rfl
theorem find_stop (p : Nat → Prop) [DecidablePred p] : ∀ k : Nat, ∃ n, n ≤ k ∧ (∀ j, j < n → p j) ∧ (n < k → ¬ p n)
  | 0 => ⟨0, Nat.le_refl _, fun _ h => absurd h (Nat.not_lt_zero _), fun h => absurd h (Nat.not_lt_zero _)⟩
  | k + 1 => by
    obtain ⟨n, h1, h2, h3⟩ := find_stop p k
    by_cases hn : n < k
    · exact ⟨n, by omega, h2, fun _ => h3 hn⟩
    · have : n = k := by omega
      subst this
      by_cases hp : p n
      · refine ⟨n + 1, Nat.le_refl _, fun j hj => ?_, fun h => by omega⟩
        rcases Nat.lt_or_eq_of_le (Nat.le_of_lt_succ hj) with h | rfl
        · exact h2 j h
        · exact hp
      · exact ⟨n, by omega, h2, fun _ => hp⟩
end Mini
end Go.Proofs.YtgjlofpfbhioaaaGreatDoor
namespace Go.Proofs.YtgjlofpfbhioaaaGreatDoor
namespace Mini
open Go
theorem pJ_bad {us : List En} {x rest : List Nat} (h1 : ∀ e ∈ us, e.chk = 0) (h2 : ∀ e ∈ us, wfS e.l) (h3 : us.length < 4096) (hx : 10 ∉ x) (he : errP (lastJ 0 us) x ≠ 0) : pJ (textJ 0 us ++ (x ++ 10 :: rest)) = (us.map newE, (textJ 0 us).length, lastJ 0 us, errP (lastJ 0 us) x) := by
  have hge := textJ_ge us 0
  have hal : (textJ 0 us ++ (x ++ 10 :: rest)).length = (textJ 0 us).length + (x ++ 10 :: rest).length := List.length_append
  have h := parseJ_many us (f := (textJ 0 us ++ (x ++ 10 :: rest)).length - us.length + 1) (u := 0) (a := 0) (l := []) (rest := x ++ 10 :: rest) h1 h2 (by decide) (by simp; omega)
  rw [List.nil_append, Nat.zero_add, show (textJ 0 us ++ (x ++ 10 :: rest)).length - us.length + 1 + us.length = (textJ 0 us ++ (x ++ 10 :: rest)).length + 1 by omega] at h
  unfold pJ
  rw [h, parseJ_errP (idx_word rest hx) (by rw [List.length_map]; omega), List.take_left, if_neg he]
theorem sumL_any (e : En) (a b : Nat) : sumL b (lineT a e) = sumN b e.body := by
  have h : lineT a e = e.body ++ 32 :: decN (sumN a e.body) := by simp [lineT]
  unfold sumL
  rw [h, lidx_word (dig_no (by omega)), Option.getD_some, List.take_left]
theorem errP_line {e : En} {a : Nat} (hc : e.chk = 0) (hw : wfS e.l) (ha : a < 65521) : errP a (lineT a e) = 0 := by
  unfold errP
  rw [readE_line hc hw ha, sumL_any, if_neg (by simp), if_neg (by show ¬ (newE e).chk ≠ 0; exact fun h => h hc), if_neg (by simp)]
theorem errP_other {e : En} {a b : Nat} (hc : e.chk = 0) (hw : wfS e.l) (ha : a < 65521) (hb : b < 65521) (hab : b ≠ a) : errP b (lineT a e) = 24 := by
  unfold errP
  rw [readE_line hc hw ha, sumL_any, if_neg (by simp), if_neg (by show ¬ (newE e).chk ≠ 0; exact fun h => h hc), if_pos]
  intro h
  have h' : ((sumN b e.body : Nat) : Int) = ((sumN a e.body : Nat) : Int) := h
  exact hab (sumN_inj (t := e.body) hb ha (by omega))
theorem count_text : ∀ (us : List En) (a : Nat), (∀ e ∈ us, e.chk = 0) → (textJ a us).count 10 = us.length
  | [], _, _ => rfl
  | e :: us, a, h => by
    have h0 : (lineT a e).count 10 = 0 := List.count_eq_zero.2 (line_no (h e List.mem_cons_self) a)
    rw [textJ, List.count_append, count_text us _ (fun x hx => h x (List.mem_cons_of_mem _ hx)), lineE_T, List.count_append, h0, List.length_cons]
    simp
    omega
theorem spot {l : List En} {k : Nat} (hk : k < (textJ 0 l).length) (hb : (textJ 0 l).getD k 0 ≠ 10) : ∃ p u v y rest, p < l.length ∧ textJ 0 l = textJ 0 (l.take p) ++ ((u ++ y :: v) ++ 10 :: rest) ∧ k = (textJ 0 (l.take p)).length + u.length ∧ u ++ y :: v = lineT (lastJ 0 (l.take p)) (l.getD p e0) ∧ (textJ 0 l).getD k 0 = y := by
  obtain ⟨p, p1, p2, p3⟩ := find_stop (fun j => (textJ 0 (l.take (j + 1))).length ≤ k) l.length
  have hTp : (textJ 0 (l.take p)).length ≤ k := by
    cases p with
    | zero => exact Nat.zero_le _
    | succ p => exact p2 p (Nat.lt_succ_self p)
  have hpl : p < l.length := by
    by_cases h : p < l.length
    · exact h
    · rw [List.take_of_length_le (by omega)] at hTp; omega
  have p3 := p3 hpl
  have hT : textJ 0 l = textJ 0 (l.take p) ++ textJ (lastJ 0 (l.take p)) (l.drop p) := by rw [← textJ_app, List.take_append_drop]
  rw [dropE hpl, textJ, lineE_T] at hT
  rw [takeE hpl, textJ_snoc, lineE_T, List.length_append, List.length_append, List.length_singleton] at p3
  generalize hxE : lineT (lastJ 0 (l.take p)) (l.getD p e0) = x at *
  generalize textJ (sumN (lastJ 0 (l.take p)) (l.getD p e0).body) (l.drop (p + 1)) = rest at *
  have hT2 : textJ 0 l = textJ 0 (l.take p) ++ (x ++ 10 :: rest) := by rw [hT]; simp
  have hi : k - (textJ 0 (l.take p)).length < x.length := by
    by_cases h : k - (textJ 0 (l.take p)).length < x.length
    · exact h
    · refine absurd ?_ hb
      rw [hT2, List.getD_eq_getElem?_getD, List.getElem?_append_right hTp, List.getElem?_append_right (by omega)]
      rw [show k - (textJ 0 (l.take p)).length - x.length = 0 by omega]
      rfl
  have hx : x = x.take (k - (textJ 0 (l.take p)).length) ++ x[k - (textJ 0 (l.take p)).length] :: x.drop (k - (textJ 0 (l.take p)).length + 1) := by
    conv => lhs; rw [← List.take_append_drop (k - (textJ 0 (l.take p)).length) x, List.drop_eq_getElem_cons hi]
  refine ⟨p, x.take (k - (textJ 0 (l.take p)).length), x.drop (k - (textJ 0 (l.take p)).length + 1), x[k - (textJ 0 (l.take p)).length], rest, hpl, ?_, ?_, ?_, ?_⟩
  · rw [← hx]; exact hT2
  · rw [List.length_take]; omega
  · exact hx.symm.trans hxE.symm
  · rw [hT2, List.getD_eq_getElem?_getD, List.getElem?_append_right hTp, List.getElem?_append_left hi, List.getElem?_eq_getElem hi]
    rfl
theorem changed {l : List En} {k c : Nat} (h1 : ∀ e ∈ l, e.chk = 0) (h2 : ∀ e ∈ l, wfS e.l) (h3 : l.length ≤ 4096) (hk : k < (textJ 0 l).length) (hb : (textJ 0 l).getD k 0 ≠ 10) (hc : c < 256) (hc10 : c ≠ 10) (hcy : c ≠ (textJ 0 l).getD k 0) :
    ∃ p er, p < l.length ∧ er ≠ 0 ∧ ((textJ 0 l).take k).count 10 = p ∧ (pJ ((textJ 0 l).take k ++ [c] ++ (textJ 0 l).drop (k + 1))).1.length = p ∧ (pJ ((textJ 0 l).take k ++ [c] ++ (textJ 0 l).drop (k + 1))).2.2.2 = er := by
  obtain ⟨p, u, v, y, rest, hp, hT, hkp, hx, hy⟩ := spot hk hb
  have t1 : ∀ e ∈ l.take p, e.chk = 0 := fun e he => h1 e (List.mem_of_mem_take he)
  have t2 : ∀ e ∈ l.take p, wfS e.l := fun e he => h2 e (List.mem_of_mem_take he)
  have hm := getE_mem hp
  have hlt := lastJ_lt (l.take p) (a := 0) (by decide)
  have hno := line_no (h1 _ hm) (lastJ 0 (l.take p))
  have hyb : y < 256 := by
    have : y ∈ textJ 0 l := by rw [hT]; simp
    exact textJ_byte 0 h1 y this
  have hok := errP_line (h1 _ hm) (h2 _ hm) hlt
  rw [← hx] at hno hok
  have hln : (l.take p).length = p := by rw [List.length_take]; omega
  have htk : (textJ 0 l).take k = textJ 0 (l.take p) ++ u := by
    rw [hT, hkp, List.take_length_add_append, List.append_assoc, List.take_left]
  have hdr : (textJ 0 l).drop (k + 1) = v ++ 10 :: rest := by
    rw [hT, hkp, Nat.add_assoc, List.drop_length_add_append, List.append_assoc, List.drop_length_add_append]
    rfl
  have hu : 10 ∉ u := fun h => hno (List.mem_append_left _ h)
  have hv : 10 ∉ v := fun h => hno (List.mem_append_right _ (List.mem_cons_of_mem _ h))
  have hne : errP (lastJ 0 (l.take p)) (u ++ c :: v) ≠ 0 := fun h => byte_one hc hyb (by rw [← hy]; exact hcy) h hok
  have hnc : 10 ∉ u ++ c :: v := by
    rw [List.mem_append, List.mem_cons]
    rintro (h | h | h)
    · exact hu h
    · exact hc10 h.symm
    · exact hv h
  have hpj := pJ_bad (rest := rest) t1 t2 (by omega) hnc hne
  have hch : (textJ 0 l).take k ++ [c] ++ (textJ 0 l).drop (k + 1) = textJ 0 (l.take p) ++ (u ++ c :: v ++ 10 :: rest) := by rw [htk, hdr]; simp
  rw [hch, hpj]
  refine ⟨p, _, hp, hne, ?_, ?_, rfl⟩
  · rw [htk, List.count_append, count_text _ _ t1, List.count_eq_zero.2 hu, hln]; rfl
  · simp only [List.length_map, hln]
theorem leftout {l : List En} {o : Nat} (h1 : ∀ e ∈ l, e.chk = 0) (h2 : ∀ e ∈ l, wfS e.l) (h3 : l.length ≤ 4096) (ho : o < l.length) :
    pJ (textJ 0 (l.take o) ++ textJ (lastJ 0 (l.take (o + 1))) (l.drop (o + 1))) = if o + 1 = l.length ∨ lastJ 0 (l.take o) = lastJ 0 (l.take (o + 1)) then ((l.take o ++ l.drop (o + 1)).map newE, (textJ 0 (l.take o) ++ textJ (lastJ 0 (l.take (o + 1))) (l.drop (o + 1))).length, lastJ 0 (l.take o ++ l.drop (o + 1)), 0) else ((l.take o).map newE, (textJ 0 (l.take o)).length, lastJ 0 (l.take o), 24) := by
  have t1 : ∀ e ∈ l.take o, e.chk = 0 := fun e he => h1 e (List.mem_of_mem_take he)
  have t2 : ∀ e ∈ l.take o, wfS e.l := fun e he => h2 e (List.mem_of_mem_take he)
  have hln : (l.take o).length = o := by rw [List.length_take]; omega
  split
  · rename_i hor
    have hT : textJ 0 (l.take o) ++ textJ (lastJ 0 (l.take (o + 1))) (l.drop (o + 1)) = textJ 0 (l.take o ++ l.drop (o + 1)) := by
      rw [textJ_app]
      rcases hor with h | h
      · rw [List.drop_of_length_le (by omega)]; rfl
      · rw [h]
    rw [hT]
    refine pJ_text (fun e he => ?_) (fun e he => ?_) ?_
    · rcases List.mem_append.1 he with he | he
      · exact t1 e he
      · exact h1 e (List.mem_of_mem_drop he)
    · rcases List.mem_append.1 he with he | he
      · exact t2 e he
      · exact h2 e (List.mem_of_mem_drop he)
    · rw [List.length_append, hln, List.length_drop]; omega
  · rename_i hor
    have hn : o + 1 < l.length := by
      rcases Nat.lt_or_ge (o + 1) l.length with h | h
      · exact h
      · exact absurd (.inl (by omega)) hor
    have hne : lastJ 0 (l.take o) ≠ lastJ 0 (l.take (o + 1)) := fun h => hor (.inr h)
    have hm := getE_mem hn
    have he := errP_other (h1 _ hm) (h2 _ hm) (lastJ_lt (l.take (o + 1)) (a := 0) (by decide)) (lastJ_lt (l.take o) (a := 0) (by decide)) hne
    have hno := line_no (h1 _ hm) (lastJ 0 (l.take (o + 1)))
    rw [dropE hn, textJ, lineE_T]
    have := pJ_bad (rest := textJ (sumN (lastJ 0 (l.take (o + 1))) (l.getD (o + 1) e0).body) (l.drop (o + 1 + 1))) t1 t2 (by omega) hno (by rw [he]; simp)
    rw [he] at this
    rw [← this]
    congr 1
    simp
end Mini
end Go.Proofs.YtgjlofpfbhioaaaGreatDoor
namespace Go.Proofs.YtgjlofpfbhioaaaGreatDoor
namespace Mini
open Go
variable {m : Int} {X : Ctx}
theorem take_en (l : List En) (j : Nat) : (l.flatMap En.ds).take (j * 5) = (l.take j).flatMap En.ds := by
  induction l generalizing j with
  | nil => simp
  | cons e l ih =>
    cases j with
    | zero => simp
    | succ j =>
      rw [List.take_succ_cons, List.flatMap_cons, List.flatMap_cons, ← ih, Nat.succ_mul, Nat.add_comm, List.take_append]
      have : e.ds.length = 5 := rfl
      rw [this, List.take_of_length_le (by omega), Nat.add_sub_cancel_left]
end Mini
end Go.Proofs.YtgjlofpfbhioaaaGreatDoor
namespace Go.Proofs.YtgjlofpfbhioaaaGreatDoor
namespace Mini
open Go
variable {m : Int} {X : Ctx}
def fn9T : I := .seq (.reg false [⟨none, .mov (.r 1)⟩, ⟨none, .cvi .i64 (.l 0)⟩, ⟨none, .mov (.r 4)⟩, ⟨none, .len (.l 0)⟩, ⟨none, .bin .rem (.l 2) (.l 0)⟩, ⟨none, .mov (.l 0)⟩] [(13, 0)] []) ( .seq (.reg true [⟨none, .mov (.r 4)⟩, ⟨none, .mov (.r 13)⟩, ⟨none, .slc 5 (.l 1) none (some (.l 0)) none⟩, ⟨none, .vc 38 [(.l 0)]⟩, ⟨none, .lns (.l 0)⟩, ⟨none, .mov (.r 4)⟩, ⟨none, .mov (.r 13)⟩, ⟨none, .bin .add (.l 0) (.v (.c (.d (.int .i64 1))))⟩, ⟨none, .slc 5 (.l 2) none (some (.l 0)) none⟩, ⟨none, .vc 38 [(.l 0)]⟩, ⟨none, .lns (.l 0)⟩, ⟨none, .mov (.l 6)⟩, ⟨none, .mov (.l 1)⟩] [(14, 1), (15, 0)] []) ( .seq (.reg true [⟨none, .mov (.r 5)⟩, ⟨none, .mov (.r 14)⟩, ⟨none, .sls (.l 1) none (some (.l 0))⟩, ⟨none, .mov (.r 5)⟩, ⟨none, .mov (.r 15)⟩, ⟨none, .sls (.l 1) (some (.l 0)) none⟩, ⟨none, .bin .add (.l 3) (.l 0)⟩, ⟨none, .vc 37 [(.l 0)]⟩, ⟨none, .mov (.l 0)⟩, ⟨none, .ext (.l 0) 0⟩, ⟨none, .ext (.l 1) 1⟩, ⟨none, .ext (.l 2) 2⟩, ⟨none, .ext (.l 3) 3⟩, ⟨none, .mov (.l 3)⟩, ⟨none, .mov (.l 3)⟩, ⟨none, .mov (.l 3)⟩, ⟨none, .mov (.l 3)⟩] [(16, 1), (17, 0)] []) ( .seq (.reg false [⟨none, .vc 41 [(.v (.c (.d (.str [97, 32, 97, 99, 99, 101, 112, 116, 101, 100, 32, 45, 32, 48]))))]⟩, ⟨none, .mov (.l 0)⟩, ⟨none, .ext (.l 0) 0⟩, ⟨none, .ext (.l 1) 1⟩, ⟨none, .ext (.l 2) 2⟩, ⟨none, .ext (.l 3) 3⟩, ⟨none, .pre⟩, ⟨none, .ini 5 (.l 4)⟩, ⟨none, .mov (.l 4)⟩, ⟨none, .mov (.l 4)⟩, ⟨none, .mov (.l 4)⟩] [(18, 1)] []) ( .seq (.seq (.reg false [⟨none, .mov (.r 13)⟩, ⟨none, .bin .gtr (.l 0) (.v (.c (.d (.int .i64 0))))⟩] [(25, 0)] []) ( .cond (.r 25) ( .reg false [⟨none, .mov (.r 5)⟩, ⟨none, .mov (.r 4)⟩, ⟨none, .mov (.r 13)⟩, ⟨none, .bin .sub (.l 0) (.v (.c (.d (.int .i64 1))))⟩, ⟨none, .slc 5 (.l 2) none (some (.l 0)) none⟩, ⟨none, .vc 38 [(.l 0)]⟩, ⟨none, .lns (.l 0)⟩, ⟨none, .mov (.r 14)⟩, ⟨none, .bin .sub (.l 0) (.v (.c (.d (.int .i64 1))))⟩, ⟨none, .sls (.l 8) (some (.l 2)) (some (.l 0))⟩, ⟨none, .vc 41 [(.l 0)]⟩, ⟨none, .mov (.l 0)⟩, ⟨none, .ext (.l 0) 0⟩, ⟨none, .ext (.l 1) 1⟩, ⟨none, .ext (.l 2) 2⟩, ⟨none, .ext (.l 3) 3⟩, ⟨none, .mov (.l 1)⟩] [(18, 0)] []) ( .skip))) ( .seq (.reg false [⟨none, .mov (.r 5)⟩, ⟨none, .mov (.r 14)⟩, ⟨none, .mov (.r 15)⟩, ⟨none, .bin .sub (.l 0) (.v (.c (.d (.int .i64 1))))⟩, ⟨none, .sls (.l 3) (some (.l 2)) (some (.l 0))⟩, ⟨none, .vc 41 [(.l 0)]⟩, ⟨none, .mov (.l 0)⟩, ⟨none, .ext (.l 0) 0⟩, ⟨none, .ext (.l 1) 1⟩, ⟨none, .ext (.l 2) 2⟩, ⟨none, .ext (.l 3) 3⟩, ⟨none, .pre⟩, ⟨none, .ini 5 (.l 4)⟩, ⟨none, .mov (.l 4)⟩, ⟨none, .mov (.l 4)⟩, ⟨none, .mov (.l 4)⟩] [(19, 1)] []) ( .seq (.seq (.reg false [⟨none, .mov (.r 13)⟩, ⟨none, .mov (.r 4)⟩, ⟨none, .len (.l 0)⟩, ⟨none, .bin .sub (.l 0) (.v (.c (.d (.int .i64 1))))⟩, ⟨none, .bin .eql (.l 3) (.l 0)⟩, ⟨none, .mov (.l 0)⟩, ⟨some (0, false), .mov (.r 18)⟩, ⟨some (1, false), .mov (.r 19)⟩, ⟨some (2, false), .bin .eql (.l 1) (.l 0)⟩, ⟨none, .pick (.l 3) (.v (.c (.d (.bool true)))) (.l 0)⟩] [(26, 0)] []) ( .cond (.r 26) ( .seq (.reg false [⟨none, .mov (.r 17)⟩, ⟨none, .bin .eql (.l 0) (.v (.c (.d (.int .i64 0))))⟩, ⟨none, .mov (.l 0)⟩, ⟨some (0, true), .vc 40 []⟩, ⟨none, .pick (.l 1) (.l 0) (.v (.c (.d (.bool false))))⟩, ⟨none, .mov (.l 0)⟩] [(3, 0)] []) ( .ret)) ( .skip))) ( .seq (.reg false [⟨none, .mov (.r 17)⟩, ⟨none, .bin .eql (.l 0) (.v (.c (.d (.int .i64 24))))⟩, ⟨none, .mov (.l 0)⟩, ⟨some (0, true), .mov (.r 16)⟩, ⟨some (1, true), .mov (.r 13)⟩, ⟨some (2, true), .bin .add (.l 0) (.v (.c (.d (.int .i64 1))))⟩, ⟨some (3, true), .bin .eql (.l 2) (.l 0)⟩, ⟨none, .pick (.l 4) (.l 0) (.v (.c (.d (.bool false))))⟩, ⟨none, .mov (.l 0)⟩, ⟨some (0, true), .vc 40 []⟩, ⟨none, .pick (.l 1) (.l 0) (.v (.c (.d (.bool false))))⟩, ⟨none, .mov (.l 0)⟩] [(3, 0)] []) ( .ret))))))))
def fn9'' : Fn := ⟨3, 27, [0, 1, 2, 6, 7, 8, 9, 10, 11, 12, 14, 15, 16, 17, 18, 19, 22, 23, 26, 30, 36, 61, 64, 70, 101, 138, 175], [.r 3], .seq (.reg false [⟨none, .mov (.v (.c (.d (.bool false))))⟩] [(3, 0)] []) ( .seq (.reg false [⟨none, .mov (.r 0)⟩, ⟨none, .vc 35 [(.l 0)]⟩, ⟨none, .mov (.l 0)⟩] [(4, 0)] []) ( .seq (.seq (.reg false [⟨none, .mov (.r 4)⟩, ⟨none, .len (.l 0)⟩, ⟨none, .bin .eql (.l 0) (.v (.c (.d (.int .i64 0))))⟩] [(20, 0)] []) ( .cond (.r 20) ( .seq (.reg false [⟨none, .vc 40 []⟩, ⟨none, .mov (.l 0)⟩] [(3, 0)] []) ( .ret)) ( .skip))) ( .seq (.reg false [⟨none, .mov (.r 4)⟩, ⟨none, .vc 38 [(.l 0)]⟩, ⟨none, .mov (.l 0)⟩] [(5, 0)] []) ( .seq (.reg false [⟨none, .mov (.r 1)⟩, ⟨none, .cvi .i64 (.l 0)⟩, ⟨none, .mov (.r 5)⟩, ⟨none, .lns (.l 0)⟩, ⟨none, .bin .rem (.l 2) (.l 0)⟩, ⟨none, .mov (.l 0)⟩] [(6, 0)] []) ( .seq (.seq (.reg false [⟨none, .mov (.r 5)⟩, ⟨none, .mov (.r 6)⟩, ⟨none, .ixs (.l 1) (.l 0)⟩, ⟨none, .mov (.r 2)⟩, ⟨none, .bin .xor (.l 1) (.l 0)⟩, ⟨none, .mov (.l 0)⟩] [(7, 0)] []) ( .seq (.reg false [⟨none, .mov (.r 2)⟩, ⟨none, .bin .neq (.l 0) (.v (.c (.d (.int .u8 0))))⟩, ⟨none, .mov (.l 0)⟩, ⟨some (0, true), .mov (.r 7)⟩, ⟨some (1, true), .bin .neq (.l 0) (.v (.c (.d (.int .u8 10))))⟩, ⟨none, .pick (.l 2) (.l 0) (.v (.c (.d (.bool false))))⟩, ⟨none, .mov (.l 0)⟩, ⟨some (0, true), .mov (.r 5)⟩, ⟨some (1, true), .mov (.r 6)⟩, ⟨some (2, true), .ixs (.l 1) (.l 0)⟩, ⟨some (3, true), .bin .neq (.l 0) (.v (.c (.d (.int .u8 10))))⟩, ⟨none, .pick (.l 4) (.l 0) (.v (.c (.d (.bool false))))⟩] [(21, 0)] []) ( .cond (.r 21) ( .seq (.reg false [⟨none, .mov (.v (.c (.d (.int .i64 1))))⟩] [(8, 0)] []) ( .seq (.seq (.reg false [⟨none, .mov (.v (.c (.d (.int .i64 0))))⟩] [(9, 0)] []) ( .block 0 ( .loop (some [1, 4, 5, 6, 7, 8, 9]) fn9L0))) ( .seq (.reg true [⟨none, .mov (.r 5)⟩, ⟨none, .mov (.r 6)⟩, ⟨none, .sls (.l 1) none (some (.l 0))⟩, ⟨none, .mov (.r 7)⟩, ⟨none, .bsl 1 1 [.int .u8 0] [(0, 1, (.l 0))]⟩, ⟨none, .b2s (.l 0)⟩, ⟨none, .bin .add (.l 3) (.l 0)⟩, ⟨none, .mov (.r 5)⟩, ⟨none, .mov (.r 6)⟩, ⟨none, .bin .add (.l 0) (.v (.c (.d (.int .i64 1))))⟩, ⟨none, .sls (.l 2) (some (.l 0)) none⟩, ⟨none, .bin .add (.l 4) (.l 0)⟩, ⟨none, .vc 37 [(.l 0)]⟩, ⟨none, .mov (.l 0)⟩, ⟨none, .ext (.l 0) 0⟩, ⟨none, .ext (.l 1) 1⟩, ⟨none, .ext (.l 2) 2⟩, ⟨none, .ext (.l 3) 3⟩, ⟨none, .mov (.l 3)⟩, ⟨none, .mov (.l 3)⟩, ⟨none, .mov (.l 3)⟩, ⟨none, .mov (.l 3)⟩] [(10, 2), (11, 1), (12, 0)] []) ( .seq (.reg false [⟨none, .mov (.r 12)⟩, ⟨none, .bin .eql (.l 0) (.v (.c (.d (.int .i64 0))))⟩, ⟨none, .mov (.l 0)⟩, ⟨some (0, false), .mov (.r 11)⟩, ⟨some (1, false), .mov (.r 8)⟩, ⟨some (2, false), .bin .neq (.l 1) (.l 0)⟩, ⟨none, .pick (.l 3) (.v (.c (.d (.bool true)))) (.l 0)⟩, ⟨none, .mov (.l 0)⟩, ⟨some (0, false), .mov (.r 10)⟩, ⟨some (1, false), .bin .neq (.l 0) (.v (.c (.d (.int .i64 0))))⟩, ⟨none, .pick (.l 2) (.v (.c (.d (.bool true)))) (.l 0)⟩] [(24, 0)] []) ( .cond (.r 24) ( .seq (.reg false [⟨none, .mov (.v (.c (.d (.bool false))))⟩] [(3, 0)] []) ( .ret)) ( .skip)))))) ( .skip)))) fn9T)))))⟩
theorem lineAt {l : List En} {o : Nat} (ho : o < l.length) : ((textJ 0 l).take ((textJ 0 (l.take (o + 1))).length - 1)).drop (textJ 0 (l.take o)).length = lineT (lastJ 0 (l.take o)) (l.getD o e0) := by
  have hT : textJ 0 l = textJ 0 (l.take o) ++ textJ (lastJ 0 (l.take o)) (l.drop o) := by rw [← textJ_app, List.take_append_drop]
  rw [dropE ho, textJ, lineE_T] at hT
  have h1 : (textJ 0 (l.take (o + 1))).length - 1 = (textJ 0 (l.take o)).length + (lineT (lastJ 0 (l.take o)) (l.getD o e0)).length := by
    rw [takeE ho, textJ_snoc, lineE_T, List.length_append, List.length_append, List.length_singleton]; omega
  rw [h1, hT, List.take_length_add_append, List.drop_left, List.append_assoc, List.take_left]
theorem v41l (hX : XOj m X) {N : Nat} (hN : 10000 ≤ N) {e : En} {a : Nat} (hc : e.chk = 0) (hw : wfS e.l) (h7 : e.l.length ≤ 7) (ha : a < 65521) : ∃ (e' : En) (b : List Nat), (zenv X N).vcall 41 [strV (lineT a e)] = some (.tup [.agg (e'.ds.map .d), strV b, i64 (sumN a e.body : Nat), bl true]) := by
  have hl := line_small hc h7 a
  rw [lineE_T, List.length_append] at hl
  have hb : ∀ c ∈ lineT a e, c < 256 := by
    intro c hm
    refine textJ_byte (l := [e]) a (fun x hx => ?_) c ?_
    · rw [List.mem_singleton] at hx; subst hx; exact hc
    · rw [textJ, lineE_T]; simp [hm]
  obtain ⟨e', b, sm, h41, hok⟩ := f41 hX (N := N) (s := lineT a e) (by omega) (by omega) hb
  rw [readE_line hc hw ha] at h41 hok
  obtain ⟨_, rfl, _⟩ := hok rfl
  exact ⟨e', b, hX.vc (k := 41) (F := fn41) rfl h41⟩
theorem v41z (hX : XOj m X) {N : Nat} (hN : 10000 ≤ N) : ∃ (e' : En) (b : List Nat) (ok : Bool), (zenv X N).vcall 41 [.c (.d (.str [97, 32, 97, 99, 99, 101, 112, 116, 101, 100, 32, 45, 32, 48]))] = some (.tup [.agg (e'.ds.map .d), strV b, i64 0, bl ok]) := by
  obtain ⟨e', b, sm, h41, hok⟩ := f41 hX (N := N) (s := [97, 32, 97, 99, 99, 101, 112, 116, 101, 100, 32, 45, 32, 48]) (by simp only [List.length_cons, List.length_nil]; omega) (by simp) (by decide)
  have hr : (readE [97, 32, 97, 99, 99, 101, 112, 116, 101, 100, 32, 45, 32, 48]).2.2 = true ∧ (readE [97, 32, 97, 99, 99, 101, 112, 116, 101, 100, 32, 45, 32, 48]).2.1 = 0 := by decide
  obtain ⟨_, rfl, _⟩ := hok hr.1
  rw [hr.2] at h41
  exact ⟨e', b, _, hX.vc (k := 41) (F := fn41) rfl h41⟩
set_option maxHeartbeats 4000000 in
theorem t9 (hX : XOj m X) {N : Nat} (hN : 200000 ≤ N) {l : List En} {at' : Nat} (hat : at' < 65536) (k1 : ∀ e ∈ l, e.chk = 0) (k2 : wfEs l) (k3 : ∀ e ∈ l, e.l.length ≤ 7) (hlen : l.length ≤ 12) (h0 : 0 < l.length) {r0 r2 r3 r6 r7 r8 r9 r10 r11 r12 r20 r21 r22 r23 r24 : V} {HH : Heap} :
    ∃ r H, exec (zenv X N) N false fn9T ⟨[r0, .c (.d (.int .u16 (at' : Int))), r2, r3, .c (.d (.sl (l.flatMap En.ds) l.length)), strV (textJ 0 l), r6, r7, r8, r9, r10, r11, r12, .any, .any, .any, .any, .any, .any, .any, r20, r21, r22, r23, r24, .any, .any], HH⟩ = some (.ret, ⟨r, H⟩) ∧ nth r 3 = bl true := by
  have hlv := f40 hX (N := N) (by omega)
  have q1 : (at' : Int).tmod ((l.length : Nat) : Int) = ((at' % l.length : Nat) : Int) := (Int.ofNat_tmod _ _).symm
  have q3 : IntKind.i64.wrap (at' : Int) = (at' : Int) := wrap_nat (by omega)
  have q4 : ¬ ((l.length : Nat) : Int) = 0 := by omega
  have ho : at' % l.length < l.length := Nat.mod_lt _ h0
  generalize at' % l.length = o at *
  have hDS : (l.flatMap En.ds).length = l.length * 5 := flD_len (fun _ _ => rfl)
  have h38 : ∀ j, j ≤ l.length → (zenv X N).vcall 38 [.c (.d (.sl ((l.take j).flatMap En.ds) j))] = some (strV (textJ 0 (l.take j))) := fun j hj => by
    have hlj : (l.take j).length = j := by rw [List.length_take]; omega
    exact hX.vc (k := 38) (F := fn38) rfl (f38 hX (N := N) (by omega) (l := l.take j) (.inr (by rw [hlj])) (fun e he => k2 e (List.mem_of_mem_take he)) (fun e he => k1 e (List.mem_of_mem_take he)) (by omega))
  have hsz : (textJ 0 l).length ≤ 32400 := by have := text_small (l := l) 0 k1 k3; omega
  have hT : ∀ j, textJ 0 l = textJ 0 (l.take j) ++ textJ (lastJ 0 (l.take j)) (l.drop j) := fun j => by rw [← textJ_app, List.take_append_drop]
  have hTl : ∀ j, (textJ 0 (l.take j)).length ≤ (textJ 0 l).length := fun j => by
    have := congrArg List.length (hT j)
    rw [List.length_append] at this; omega
  have hm := getE_mem ho
  have hsn : lastJ 0 (l.take (o + 1)) = sumN (lastJ 0 (l.take o)) (l.getD o e0).body := by rw [takeE ho, lastJ_snoc]
  have hl1 := lastJ_lt (l.take o) (a := 0) (by decide)
  have hl2 := lastJ_lt (l.take (o + 1)) (a := 0) (by decide)
  have hlo := leftout k1 (fun e he => (k2 e he).2) (by omega) ho
  have hbt : ∀ c ∈ textJ 0 (l.take o) ++ textJ (lastJ 0 (l.take (o + 1))) (l.drop (o + 1)), c < 256 := fun c hc => by
    rcases List.mem_append.1 hc with hc | hc
    · exact textJ_byte 0 (fun e he => k1 e (List.mem_of_mem_take he)) c hc
    · exact textJ_byte _ (fun e he => k1 e (List.mem_of_mem_drop he)) c hc
  have hlc : (textJ 0 (l.take o) ++ textJ (lastJ 0 (l.take (o + 1))) (l.drop (o + 1))).length ≤ 70000 := by
    have a1 := hTl o
    have a2 := congrArg List.length (hT (o + 1))
    rw [List.length_append] at a2 ⊢
    omega
  have hcnt : (pJ (textJ 0 (l.take o) ++ textJ (lastJ 0 (l.take (o + 1))) (l.drop (o + 1)))).1.length ≤ 4096 := by
    rw [hlo]
    split
    · simp only [List.length_map, List.length_append, List.length_take, List.length_drop]; omega
    · simp only [List.length_map, List.length_take]; omega
  have h37 := v37 hX (N := N) (by omega) (by omega) hbt hcnt
  obtain ⟨eo, bo, h41o⟩ := v41l hX (N := N) (by omega) (k1 _ hm) (k2 _ hm).2 (k3 _ hm) hl1
  rw [← hsn] at h41o
  obtain ⟨ez, bz, kz, h41z⟩ := v41z hX (N := N) (by omega)
  have hown := lineAt ho
  have hc1 := take_en l o
  have hc2 := take_en l (o + 1)
  have hv1 := h38 o (by omega)
  have hv2 := h38 (o + 1) ho
  have w1 := wrap_succ (k := o) (by omega)
  have kk1 : o ≤ l.length := by omega
  have kk2 : o + 1 ≤ l.length := ho
  have hf1 := hTl o
  have hf2 := hTl (o + 1)
  have hlt12 : (textJ 0 (l.take o)).length + 1 ≤ (textJ 0 (l.take (o + 1))).length := by
    rw [takeE ho, textJ_snoc, List.length_append, lineE_T, List.length_append, List.length_singleton]; omega
  have ht1 : (textJ 0 l).take (textJ 0 (l.take o)).length = textJ 0 (l.take o) := by
    conv => lhs; rw [hT o]
    rw [List.take_left]
  have ht2 : (textJ 0 l).drop (textJ 0 (l.take (o + 1))).length = textJ (lastJ 0 (l.take (o + 1))) (l.drop (o + 1)) := by
    conv => lhs; rw [hT (o + 1)]
    rw [List.drop_left]
  have htt : (textJ 0 l).take (textJ 0 l).length = textJ 0 l := List.take_length
  have w2 : IntKind.i64.wrap (((textJ 0 (l.take (o + 1))).length : Int) - 1) = (((textJ 0 (l.take (o + 1))).length - 1 : Nat) : Int) := by
    rw [← wrap_nat (k := (textJ 0 (l.take (o + 1))).length - 1) (by omega)]; congr 1; omega
  have hsum : (textJ 0 (l.take o)).length + (textJ (lastJ 0 (l.take (o + 1))) (l.drop (o + 1))).length ≤ 1073741824 := by
    rw [List.length_append] at hlc; omega
  have ff1 : (textJ 0 (l.take o)).length ≤ (textJ 0 (l.take (o + 1))).length - 1 := by omega
  have ff2 : (textJ 0 (l.take (o + 1))).length - 1 ≤ (textJ 0 l).length := by omega
  have w3 : IntKind.i64.wrap ((l.length : Int) - 1) = ((l.length - 1 : Nat) : Int) := by rw [← wrap_nat (k := l.length - 1) (by omega)]; congr 1; omega
  have g0 : ((0 : Int) == 0) = true := rfl
  have g24 : ((24 : Int) == 24) = true := rfl
  have goo : (((o + 1 : Nat) : Int) == ((o + 1 : Nat) : Int)) = true := by simp
  have hbef : o = 0 ∧ lastJ 0 (l.take o) = 0 ∨ 0 < o ∧ ∃ (e' : En) (b : List Nat), (zenv X N).vcall 41 [strV (((textJ 0 l).take ((textJ 0 (l.take o)).length - 1)).drop (textJ 0 (l.take (o - 1))).length)] = some (.tup [.agg (e'.ds.map .d), strV b, i64 (lastJ 0 (l.take o) : Nat), bl true]) := by
    cases o with
    | zero => exact .inl ⟨rfl, rfl⟩
    | succ o =>
      refine .inr ⟨Nat.succ_pos _, ?_⟩
      have ho' : o < l.length := by omega
      have hm' := getE_mem ho'
      obtain ⟨e', b, h⟩ := v41l hX (N := N) (by omega) (k1 _ hm') (k2 _ hm').2 (k3 _ hm') (lastJ_lt (l.take o) (a := 0) (by decide))
      rw [← lineAt ho', ← lastJ_snoc, ← takeE ho'] at h
      exact ⟨e', b, h⟩
  have hfrom0 : o ≠ 0 → ((zenv X N).vcall 38 [.c (.d (.sl ((l.take (o - 1)).flatMap En.ds) (o - 1)))] = some (.c (.d (.str (textJ 0 (l.take (o - 1)))))) ∧ (l.flatMap En.ds).take ((o - 1) * 5) = (l.take (o - 1)).flatMap En.ds ∧ IntKind.i64.wrap ((o : Int) - 1) = ((o - 1 : Nat) : Int) ∧ IntKind.i64.wrap (((textJ 0 (l.take o)).length : Int) - 1) = (((textJ 0 (l.take o)).length - 1 : Nat) : Int) ∧ o - 1 ≤ l.length ∧ (textJ 0 (l.take (o - 1))).length ≤ (textJ 0 (l.take o)).length - 1 ∧ (textJ 0 (l.take o)).length - 1 ≤ (textJ 0 l).length) := fun h => by
    have hh : o - 1 + 1 = o := by omega
    have a1 : (textJ 0 (l.take (o - 1))).length + 1 ≤ (textJ 0 (l.take o)).length := by
      have := takeE (l := l) (j := o - 1) (by omega)
      rw [hh] at this
      rw [this, textJ_snoc, List.length_append, lineE_T, List.length_append, List.length_singleton]; omega
    refine ⟨h38 _ (by omega), take_en l _, ?_, ?_, by omega, by omega, by omega⟩
    · rw [← wrap_nat (k := o - 1) (by omega)]; congr 1; omega
    · rw [← wrap_nat (k := (textJ 0 (l.take o)).length - 1) (by omega)]; congr 1; omega
  unfold parV at h37
  have hln : ((l.take o).map newE).length = o := by rw [List.length_map, List.length_take]; omega
  have hfl : ∀ n : Nat, n ≤ n := Nat.le_refl
  have hlt := hlt12
  have hzl : (ez.ds.map C.d).length = 5 := rfl
  have hol : (eo.ds.map C.d).length = 5 := rfl
  simp only [strV, i64, bl] at hv1 hv2 h41o h41z hlv
  have hop := hv1
  clear h38 hT hcnt hbt hlc
  have hfrom : o ≠ 0 → ((zenv X N).vcall 38 [.c (.d (.sl ((l.take (o - 1)).flatMap En.ds) (o - 1)))] = some (.c (.d (.str (textJ 0 (l.take (o - 1)))))) ∧ (l.flatMap En.ds).take ((o - 1) * 5) = (l.take (o - 1)).flatMap En.ds ∧ IntKind.i64.wrap ((o : Int) - 1) = ((o - 1 : Nat) : Int) ∧ IntKind.i64.wrap (((textJ 0 (l.take o)).length : Int) - 1) = (((textJ 0 (l.take o)).length - 1 : Nat) : Int) ∧ o - 1 ≤ l.length ∧ (textJ 0 (l.take (o - 1))).length ≤ (textJ 0 (l.take o)).length - 1 ∧ (textJ 0 (l.take o)).length - 1 ≤ (textJ 0 l).length) := hfrom0
  clear hTl hfrom0 hsz hop
  generalize hlaE : lastJ 0 (l.take o) = la at *
  generalize hlbE : lastJ 0 (l.take (o + 1)) = lb at *
  generalize lineT la (l.getD o e0) = own at *
  generalize textJ lb (l.drop (o + 1)) = rst at *
  generalize textJ 0 (l.take (o + 1)) = t2 at *
  generalize textJ 0 (l.take o) = t1 at *
  generalize textJ 0 (l.take (o - 1)) = t0 at *
  generalize textJ 0 l = tl at *
  generalize (l.take (o + 1)).flatMap En.ds = d2 at *
  generalize (l.take (o - 1)).flatMap En.ds = d0 at *
  generalize (l.take o).flatMap En.ds = d1 at *
  generalize ((l.take o ++ l.drop (o + 1)).map newE).flatMap En.ds = dx at *
  generalize ((l.take o ++ l.drop (o + 1)).map newE).length = nx at *
  generalize (l.take o ++ l.drop (o + 1)) = lx at *
  generalize l.flatMap En.ds = DS at *
  generalize l.length = L at *
  clear hm hsn k1 k2 k3
  have hor1 : o + 1 = L → ((o : Int) == ((L - 1 : Nat) : Int)) = true := fun h => by rw [beq_iff_eq]; omega
  have hor0 : ¬ o + 1 = L → ((o : Int) == ((L - 1 : Nat) : Int)) = false := fun h => by rw [beq_eq_false_iff_ne]; omega
  rcases hbef with ⟨hb0, hla⟩ | ⟨hb0, e', b', h41b⟩
  · have hgt : ¬ (o : Int) > 0 := by omega
    by_cases c1 : o + 1 = L
    · have hlast := hor1 c1
      rw [hlo, if_pos (show o + 1 = L ∨ la = lb from .inl c1), if_pos rfl] at h37
      simp only [i64, strV] at h37
      refine ⟨[r0, .c (.d (.int .u16 (at' : Int))), r2, bl true, .c (.d (.sl DS L)), strV tl, r6, r7, r8, r9, r10, r11, r12, i64 (o : Int), i64 (t1.length : Int), i64 (t2.length : Int), i64 0, i64 0, i64 0, i64 (lb : Int), r20, r21, r22, r23, r24, bl false, bl true], HH ++ [.cells (ez.ds.map .d) 0 false] ++ [.cells (eo.ds.map .d) 0 false], ?_, rfl⟩
      simp only [fn9T, strV, binStr, optNat, hlv, q1, q3, q4, hDS, hc1, hc2, hv1, hv2, w1, w2, w3, kk1, kk2, hf1, hf2, hfl, ht1, ht2, htt, hsum, ff1, ff2, hown, h37, h41o, h41z, hzl, hol, g0, hgt, hlast, Nat.sub_zero, Nat.zero_le, Option.map_none, Option.map_some, List.drop, freeze_nil, reachV, reachC, ite_self, List.flatMap_cons, List.flatMap_nil, ↓sp_len, evs]
    · have hlast := hor0 c1
      by_cases c2 : la = lb
      · rw [hlo, if_pos (show o + 1 = L ∨ la = lb from .inr c2), if_pos rfl] at h37
        have heq : ((0 : Int) == (lb : Int)) = true := by rw [beq_iff_eq]; omega
        simp only [i64, strV] at h37
        refine ⟨[r0, .c (.d (.int .u16 (at' : Int))), r2, bl true, .c (.d (.sl DS L)), strV tl, r6, r7, r8, r9, r10, r11, r12, i64 (o : Int), i64 (t1.length : Int), i64 (t2.length : Int), i64 0, i64 0, i64 0, i64 (lb : Int), r20, r21, r22, r23, r24, bl false, bl true], HH ++ [.cells (ez.ds.map .d) 0 false] ++ [.cells (eo.ds.map .d) 0 false], ?_, rfl⟩
        simp only [fn9T, strV, binStr, optNat, hlv, q1, q3, q4, hDS, hc1, hc2, hv1, hv2, w1, w2, w3, kk1, kk2, hf1, hf2, hfl, ht1, ht2, htt, hsum, ff1, ff2, hown, h37, h41o, h41z, hzl, hol, g0, hgt, hlast, heq, Nat.sub_zero, Nat.zero_le, Option.map_none, Option.map_some, List.drop, freeze_nil, reachV, reachC, ite_self, List.flatMap_cons, List.flatMap_nil, ↓sp_len, evs]
      · rw [hlo, if_neg (show ¬ (o + 1 = L ∨ la = lb) from fun h => h.elim c1 c2), if_neg (by simp)] at h37
        have heq : ((0 : Int) == (lb : Int)) = false := by rw [beq_eq_false_iff_ne]; omega
        simp only [i64, strV, hln, Int.cast_ofNat_Int] at h37
        refine ⟨[r0, .c (.d (.int .u16 (at' : Int))), r2, bl true, .c (.d (.sl DS L)), strV tl, r6, r7, r8, r9, r10, r11, r12, i64 (o : Int), i64 (t1.length : Int), i64 (t2.length : Int), i64 ((o + 1 : Nat) : Int), i64 24, i64 0, i64 (lb : Int), r20, r21, r22, r23, r24, bl false, bl false], HH ++ [.cells (ez.ds.map .d) 0 false] ++ [.cells (eo.ds.map .d) 0 false], ?_, rfl⟩
        simp only [fn9T, strV, binStr, optNat, hlv, q1, q3, q4, hDS, hc1, hc2, hv1, hv2, w1, w2, w3, kk1, kk2, hf1, hf2, hfl, ht1, ht2, htt, hsum, ff1, ff2, hown, h37, h41o, h41z, hzl, hol, g24, goo, hgt, hlast, heq, Nat.sub_zero, Nat.zero_le, Option.map_none, Option.map_some, List.drop, freeze_nil, reachV, reachC, ite_self, List.flatMap_cons, List.flatMap_nil, ↓sp_len, evs]
  · obtain ⟨hv0, hc0, w0, wf, kk0, ff3, ff4⟩ := hfrom (by omega)
    have hgt : (o : Int) > 0 := by omega
    simp only [strV, i64, bl] at h41b
    by_cases c1 : o + 1 = L
    · have hlast := hor1 c1
      rw [hlo, if_pos (show o + 1 = L ∨ la = lb from .inl c1), if_pos rfl] at h37
      simp only [i64, strV] at h37
      refine ⟨[r0, .c (.d (.int .u16 (at' : Int))), r2, bl true, .c (.d (.sl DS L)), strV tl, r6, r7, r8, r9, r10, r11, r12, i64 (o : Int), i64 (t1.length : Int), i64 (t2.length : Int), i64 0, i64 0, i64 (la : Int), i64 (lb : Int), r20, r21, r22, r23, r24, bl true, bl true], HH ++ [.cells (ez.ds.map .d) 0 false] ++ [.cells (eo.ds.map .d) 0 false], ?_, rfl⟩
      simp only [fn9T, strV, binStr, optNat, h41b, hlv, q1, q3, q4, hDS, hc1, hc2, hc0, hv1, hv2, hv0, w1, w2, w3, w0, wf, kk1, kk2, kk0, hf1, hf2, hfl, ht1, ht2, htt, hsum, ff1, ff2, ff3, ff4, hown, h37, h41o, h41z, hzl, hol, g0, hgt, hlast, Nat.sub_zero, Nat.zero_le, Option.map_none, Option.map_some, List.drop, freeze_nil, reachV, reachC, ite_self, List.flatMap_cons, List.flatMap_nil, ↓sp_len, evs]
    · have hlast := hor0 c1
      by_cases c2 : la = lb
      · rw [hlo, if_pos (show o + 1 = L ∨ la = lb from .inr c2), if_pos rfl] at h37
        have heq : ((la : Int) == (lb : Int)) = true := by rw [beq_iff_eq]; omega
        simp only [i64, strV] at h37
        refine ⟨[r0, .c (.d (.int .u16 (at' : Int))), r2, bl true, .c (.d (.sl DS L)), strV tl, r6, r7, r8, r9, r10, r11, r12, i64 (o : Int), i64 (t1.length : Int), i64 (t2.length : Int), i64 0, i64 0, i64 (la : Int), i64 (lb : Int), r20, r21, r22, r23, r24, bl true, bl true], HH ++ [.cells (ez.ds.map .d) 0 false] ++ [.cells (eo.ds.map .d) 0 false], ?_, rfl⟩
        simp only [fn9T, strV, binStr, optNat, h41b, hlv, q1, q3, q4, hDS, hc1, hc2, hc0, hv1, hv2, hv0, w1, w2, w3, w0, wf, kk1, kk2, kk0, hf1, hf2, hfl, ht1, ht2, htt, hsum, ff1, ff2, ff3, ff4, hown, h37, h41o, h41z, hzl, hol, g0, hgt, hlast, heq, Nat.sub_zero, Nat.zero_le, Option.map_none, Option.map_some, List.drop, freeze_nil, reachV, reachC, ite_self, List.flatMap_cons, List.flatMap_nil, ↓sp_len, evs]
      · rw [hlo, if_neg (show ¬ (o + 1 = L ∨ la = lb) from fun h => h.elim c1 c2), if_neg (by simp)] at h37
        have heq : ((la : Int) == (lb : Int)) = false := by rw [beq_eq_false_iff_ne]; omega
        simp only [i64, strV, hln, Int.cast_ofNat_Int] at h37
        refine ⟨[r0, .c (.d (.int .u16 (at' : Int))), r2, bl true, .c (.d (.sl DS L)), strV tl, r6, r7, r8, r9, r10, r11, r12, i64 (o : Int), i64 (t1.length : Int), i64 (t2.length : Int), i64 ((o + 1 : Nat) : Int), i64 24, i64 (la : Int), i64 (lb : Int), r20, r21, r22, r23, r24, bl true, bl false], HH ++ [.cells (ez.ds.map .d) 0 false] ++ [.cells (eo.ds.map .d) 0 false], ?_, rfl⟩
        simp only [fn9T, strV, binStr, optNat, h41b, hlv, q1, q3, q4, hDS, hc1, hc2, hc0, hv1, hv2, hv0, w1, w2, w3, w0, wf, kk1, kk2, kk0, hf1, hf2, hfl, ht1, ht2, htt, hsum, ff1, ff2, ff3, ff4, hown, h37, h41o, h41z, hzl, hol, g24, goo, hgt, hlast, heq, Nat.sub_zero, Nat.zero_le, Option.map_none, Option.map_some, List.drop, freeze_nil, reachV, reachC, ite_self, List.flatMap_cons, List.flatMap_nil, ↓sp_len, evs]
end Mini
end Go.Proofs.YtgjlofpfbhioaaaGreatDoor
namespace Go.Proofs.YtgjlofpfbhioaaaGreatDoor
namespace Mini
open Go
variable {m : Int} {X : Ctx}
theorem xor_u8 {a b : Nat} (ha : a < 256) (hb : b < 256) : bits IntKind.u8 (fun x y => x ^^^ y) (a : Int) (b : Int) = ((a ^^^ b : Nat) : Int) := by
  have h1 : (BitVec.ofInt IntKind.u8.bits (a : Int)).toNat = a := by
    show (BitVec.ofInt 8 (a : Int)).toNat = a
    rw [BitVec.toNat_ofInt]; omega
  have h2 : (BitVec.ofInt IntKind.u8.bits (b : Int)).toNat = b := by
    show (BitVec.ofInt 8 (b : Int)).toNat = b
    rw [BitVec.toNat_ofInt]; omega
  unfold bits
  rw [BitVec.toNat_xor, h1, h2]
  exact wrap_u8 (Nat.xor_lt_two_pow (n := 8) ha hb)
theorem xor_ne {a b : Nat} (hb : b ≠ 0) : a ^^^ b ≠ a := by
  intro h
  have h2 := congrArg (a ^^^ ·) h
  simp only [← Nat.xor_assoc, Nat.xor_self, Nat.zero_xor] at h2
  exact hb h2
theorem count_step {s : List Nat} {j : Nat} (h : j < s.length) : (s.take (j + 1)).count 10 = (s.take j).count 10 + if s.getD j 0 = 10 then 1 else 0 := by
  have hx : s[j]? = some (s.getD j 0) := by rw [List.getD_eq_getElem?_getD, List.getElem?_eq_getElem h]; rfl
  rw [List.take_add_one, hx, Option.toList_some, List.count_append, List.count_singleton]
  by_cases h : s.getD j 0 = 10
  · rw [if_pos h, h]; rfl
  · rw [if_neg h, if_neg (by simpa using h)]
abbrev R9 (a1 sl : V) (tl : List Nat) (k : Nat) (c : V) (ln j : Nat) (x22 : V) : List V := [.any, a1, .any, .any, sl, strV tl, i64 (k : Int), c, i64 (ln : Int), i64 (j : Int), .any, .any, .any, .any, .any, .any, .any, .any, .any, .any, .any, .any, x22, .any, .any, .any, .any]
theorem it9 {N : Nat} {a1 sl c : V} {tl : List Nat} {k : Nat} (hN : tl.length < N) (hk : k < tl.length) (hl : tl.length < 1000000) : iter (some [1, 4, 5, 6, 7, 8, 9]) 0 (exec (zenv X N) N false fn9L0) N ⟨R9 a1 sl tl k c 1 0 .any, []⟩ = some (.exit 0, ⟨R9 a1 sl tl k c (1 + (tl.take k).count 10) k (bl false), []⟩) := by
  have key := iter_to (js := some [1, 4, 5, 6, 7, 8, 9]) (hl := 0) (body := exec (zenv X N) N false fn9L0) (fun j => ⟨R9 a1 sl tl k c (1 + (tl.take j).count 10) j .any, []⟩) (e := .exit 0) (s := ⟨R9 a1 sl tl k c (1 + (tl.take k).count 10) k (bl false), []⟩) (fun h => by cases h) k 0 N (fun j _ hj => ?_) ?_ (by omega)
  · exact key
  · have hj' : j < tl.length := by omega
    have h4 : (j : Int) < (k : Int) := by omega
    have h6 := wrap_succ (k := j) (by omega)
    have hx : tl[j]? = some (tl.getD j 0) := by rw [List.getD_eq_getElem?_getD, List.getElem?_eq_getElem hj']; rfl
    have hcl : (tl.take j).count 10 ≤ j := Nat.le_trans List.count_le_length (by rw [List.length_take]; omega)
    have h7 := wrap_succ (k := 1 + (tl.take j).count 10) (by omega)
    have hst := count_step hj'
    generalize (tl.take j).count 10 = n at *
    generalize tl.getD j 0 = y at *
    by_cases hy : y = 10
    · rw [if_pos hy] at hst
      have g : ((y : Int) == 10) = true := by rw [beq_iff_eq]; omega
      have hst' : 1 + (tl.take (j + 1)).count 10 = 1 + n + 1 := by omega
      refine ⟨⟨[.any, a1, .any, .any, sl, strV tl, i64 (k : Int), c, i64 ((1 + n + 1 : Nat) : Int), i64 ((j + 1 : Nat) : Int), .any, .any, .any, .any, .any, .any, .any, .any, .any, .any, .any, .any, bl true, bl true, .any, .any, .any], []⟩, ?_, ?_⟩
      · simp only [fn9L0, R9, strV, h4, h6, h7, hx, g, evs]
      · rw [hst']; exact gc_le (Nat.le_refl 0)
    · rw [if_neg hy] at hst
      have g : ((y : Int) == 10) = false := by rw [beq_eq_false_iff_ne]; omega
      have hst' : 1 + (tl.take (j + 1)).count 10 = 1 + n := by omega
      refine ⟨⟨[.any, a1, .any, .any, sl, strV tl, i64 (k : Int), c, i64 ((1 + n : Nat) : Int), i64 ((j + 1 : Nat) : Int), .any, .any, .any, .any, .any, .any, .any, .any, .any, .any, .any, .any, bl true, bl false, .any, .any, .any], []⟩, ?_, ?_⟩
      · simp only [fn9L0, R9, strV, h4, h6, hx, g, evs]
      · rw [hst']; exact gc_le (Nat.le_refl 0)
  · rw [Nat.zero_add]
    simp only [fn9L0, R9, evs]
set_option maxHeartbeats 2000000 in
theorem f9 (hX : XOj m X) {N : Nat} (hN : 300000 ≤ N) {w : D} {xs : List Ej} (hw : isEjs w xs) (hx : ∀ x ∈ xs, wfJ x) {at' : Nat} (hat : at' < 65536) {ch : Nat} (hch : ch < 256) : vcallN X N 9 [.c (.d w), .c (.d (.int .u16 (at' : Int))), .c (.d (.int .u8 (ch : Int)))] = some (bl true) := by
  obtain ⟨N, rfl⟩ : ∃ M, N = M + 1 := ⟨N - 1, by omega⟩
  have hF : fnsX 9 = some fn9'' := rfl
  have hlv := f40 hX (N := N) (by omega)
  have h35 := hX.vc (k := 35) (F := fn35) rfl (f35 hX (N := N) (by omega) hw hx)
  have hlen := lstJ_len xs (min xs.length 12)
  obtain ⟨k1, k2, k3⟩ := lstJ_ok xs (min xs.length 12)
  have hn12 : min xs.length 12 ≤ 12 := Nat.min_le_right _ _
  generalize lstJ xs (min xs.length 12) = l at *
  generalize min xs.length 12 = L at *
  subst hlen
  suffices h : ∃ H, callN X (N + 1) (.d (.fn 9 [] [])) [.c (.d w), .c (.d (.int .u16 (at' : Int))), .c (.d (.int .u8 (ch : Int)))] [] = some (bl true, H) by
    obtain ⟨H, h⟩ := h
    exact vcall_of h rfl
  rw [hX.fn hF]
  by_cases h0 : l.length = 0
  · have g0 : ((l.length : Int) == 0) = true := by rw [beq_iff_eq]; omega
    refine ⟨[], (rf_fin _ _ _ _ _ _ _ _ _ (by rfl)).trans ?_⟩
    simp only [h35, hlv, g0, freeze_nil, reachV, reachC, ite_self, List.flatMap_cons, List.flatMap_nil, ↓sp_len, evs, Nat.reduceAdd, Nat.reduceSub]
  have g0 : ((l.length : Int) == 0) = false := by rw [beq_eq_false_iff_ne]; omega
  have hE : isEns (.sl (l.flatMap En.ds) l.length) l := .inr rfl
  have h38 := hX.vc (k := 38) (F := fn38) rfl (f38 hX (N := N) (by omega) hE k2 k1 (by omega))
  have hge := textJ_ge l 0
  have hsz : (textJ 0 l).length ≤ 32400 := by have := text_small (l := l) 0 k1 k3; omega
  have hk : at' % (textJ 0 l).length < (textJ 0 l).length := Nat.mod_lt _ (by omega)
  have q1 : (at' : Int).tmod (((textJ 0 l).length : Nat) : Int) = ((at' % (textJ 0 l).length : Nat) : Int) := (Int.ofNat_tmod _ _).symm
  have q3 : IntKind.i64.wrap (at' : Int) = (at' : Int) := wrap_nat (by omega)
  have q4 : ¬ (((textJ 0 l).length : Nat) : Int) = 0 := by omega
  have ht9 := fun (r0 r2 r3 r6 r7 r8 r9 r10 r11 r12 r20 r21 r22 r23 r24 : V) (HH : Heap) => t9 hX (N := N) (by omega) hat k1 k2 k3 (by omega) (by omega) (r0 := r0) (r2 := r2) (r3 := r3) (r6 := r6) (r7 := r7) (r8 := r8) (r9 := r9) (r10 := r10) (r11 := r11) (r12 := r12) (r20 := r20) (r21 := r21) (r22 := r22) (r23 := r23) (r24 := r24) (HH := HH)
  generalize at' % (textJ 0 l).length = k at *
  have hyk : (textJ 0 l)[k]? = some ((textJ 0 l).getD k 0) := by rw [List.getD_eq_getElem?_getD, List.getElem?_eq_getElem hk]; rfl
  have hyb : (textJ 0 l).getD k 0 < 256 := textJ_byte 0 k1 _ (List.mem_of_getElem? hyk)
  have hxo := xor_u8 hyb hch
  have hcb : (textJ 0 l).getD k 0 ^^^ ch < 256 := Nat.xor_lt_two_pow (n := 8) hyb hch
  have hchg := fun (a : ch ≠ 0) (b : (textJ 0 l).getD k 0 ≠ 10) (c : (textJ 0 l).getD k 0 ^^^ ch ≠ 10) => changed k1 (fun e he => (k2 e he).2) (by omega) hk b hcb c (xor_ne a)
  have hit := it9 (X := X) (N := N) (a1 := .c (.d (.int .u16 (at' : Int)))) (sl := .c (.d (.sl (l.flatMap En.ds) l.length))) (c := .c (.d (.int .u8 ((textJ 0 l).getD k 0 ^^^ ch : Nat)))) (tl := textJ 0 l) (k := k) (by omega) hk (by omega)
  have htb := textJ_byte (l := l) 0 k1
  generalize hyE : (textJ 0 l).getD k 0 = y at *
  generalize hcE : y ^^^ ch = c at *
  generalize textJ 0 l = tl at *
  generalize l.flatMap En.ds = DS at *
  generalize l.length = L at *
  simp only [strV, bl] at h35 h38 hlv ht9
  have g00 : ((0 : Int) != 0) = false := rfl
  have gch : ((ch : Int) != 0) = decide (ch ≠ 0) := by
    by_cases h : ch = 0
    · subst h; rfl
    · rw [decide_eq_true h, bne_iff_ne]; omega
  have gc10 : ((c : Int) != 10) = decide (c ≠ 10) := by
    by_cases h : c = 10
    · subst h; rfl
    · rw [decide_eq_true h, bne_iff_ne]; omega
  have gy10 : ((y : Int) != 10) = decide (y ≠ 10) := by
    by_cases h : y = 10
    · subst h; rfl
    · rw [decide_eq_true h, bne_iff_ne]; omega
  by_cases a1 : ch = 0
  · rw [decide_eq_false (by simpa using a1)] at gch
    obtain ⟨r, H, t1, t2⟩ := ht9 (.c (.d w)) (.c (.d (.int .u8 (ch : Int)))) (.c (.d (.bool false))) (.c (.d (.int .i64 (k : Int)))) (.c (.d (.int .u8 (c : Int)))) .any .any .any .any .any (.c (.d (.bool false))) (.c (.d (.bool false))) .any .any .any []
    refine ⟨H, (rf_fin _ _ _ _ _ _ _ _ _ (by rfl)).trans ?_⟩
    simp only [h35, h38, g0, q1, q3, q4, hyk, hxo, gch, t1, t2, freeze_nil, reachV, reachC, ite_self, List.flatMap_cons, List.flatMap_nil, ↓sp_len, evs, Nat.reduceAdd, Nat.reduceSub]
  rw [decide_eq_true a1] at gch
  by_cases a2 : c = 10
  · rw [decide_eq_false (by simpa using a2)] at gc10
    obtain ⟨r, H, t1, t2⟩ := ht9 (.c (.d w)) (.c (.d (.int .u8 (ch : Int)))) (.c (.d (.bool false))) (.c (.d (.int .i64 (k : Int)))) (.c (.d (.int .u8 (c : Int)))) .any .any .any .any .any (.c (.d (.bool false))) (.c (.d (.bool false))) .any .any .any []
    refine ⟨H, (rf_fin _ _ _ _ _ _ _ _ _ (by rfl)).trans ?_⟩
    simp only [h35, h38, g0, q1, q3, q4, hyk, hxo, gch, gc10, t1, t2, freeze_nil, reachV, reachC, ite_self, List.flatMap_cons, List.flatMap_nil, ↓sp_len, evs, Nat.reduceAdd, Nat.reduceSub]
  rw [decide_eq_true a2] at gc10
  by_cases a3 : y = 10
  · rw [decide_eq_false (by simpa using a3)] at gy10
    obtain ⟨r, H, t1, t2⟩ := ht9 (.c (.d w)) (.c (.d (.int .u8 (ch : Int)))) (.c (.d (.bool false))) (.c (.d (.int .i64 (k : Int)))) (.c (.d (.int .u8 (c : Int)))) .any .any .any .any .any (.c (.d (.bool false))) (.c (.d (.bool false))) .any .any .any []
    refine ⟨H, (rf_fin _ _ _ _ _ _ _ _ _ (by rfl)).trans ?_⟩
    simp only [h35, h38, g0, q1, q3, q4, hyk, hxo, gch, gc10, gy10, t1, t2, freeze_nil, reachV, reachC, ite_self, List.flatMap_cons, List.flatMap_nil, ↓sp_len, evs, Nat.reduceAdd, Nat.reduceSub]
  rw [decide_eq_true a3] at gy10
  obtain ⟨p, er, hp, her, hcnt, hpl, hpe⟩ := hchg a1 a3 a2
  have hcl : (tl.take k ++ [c] ++ tl.drop (k + 1)).length = tl.length := by
    rw [List.length_append, List.length_append, List.length_take, List.length_drop, List.length_singleton]; omega
  have h37 := v37 hX (N := N) (j := tl.take k ++ [c] ++ tl.drop (k + 1)) (by omega) (by omega) (fun b hb => by
    rcases List.mem_append.1 hb with hb | hb
    · rcases List.mem_append.1 hb with hb | hb
      · exact htb b (List.mem_of_mem_take hb)
      · rw [List.mem_singleton] at hb; omega
    · exact htb b (List.mem_of_mem_drop hb)) (by rw [hpl]; omega)
  unfold parV at h37
  rw [hpe, if_neg her, hpl] at h37
  rw [hcnt] at hit
  obtain ⟨r, H, t1, t2⟩ := ht9 .any .any .any (.c (.d (.int .i64 (k : Int)))) (.c (.d (.int .u8 (c : Int)))) (.c (.d (.int .i64 ((1 + p : Nat) : Int)))) (.c (.d (.int .i64 (k : Int)))) (.c (.d (.int .i64 0))) (.c (.d (.int .i64 ((p + 1 : Nat) : Int)))) (.c (.d (.int .i64 (er : Int)))) .any .any (.c (.d (.bool false))) .any (.c (.d (.bool false))) [.cells [.d (.int .u8 (c : Int))] 0 false]
  have hm256 : (c : Int).toNat % 256 = c := by rw [Int.toNat_natCast]; omega
  have w1 := wrap_succ (k := k) (by omega)
  have kk1 : k ≤ tl.length := by omega
  have kk2 : k + 1 ≤ tl.length := by omega
  have kk3 : (tl.take k).length + 1 ≤ 1073741824 := by rw [List.length_take]; omega
  have kk4 : (tl.take k).length + 1 + (tl.drop (k + 1)).length ≤ 1073741824 := by rw [List.length_take, List.length_drop]; omega
  have htt : tl.take tl.length = tl := List.take_length
  have ger : ((er : Int) == 0) = false := by rw [beq_eq_false_iff_ne]; omega
  have gpp : (((p + 1 : Nat) : Int) != ((1 + p : Nat) : Int)) = false := by rw [bne_eq_false_iff_eq]; omega
  simp only [strV, i64, R9, bl, Int.natCast_one, Int.natCast_zero] at h37 hit
  refine ⟨H, (rf_fin _ _ _ _ _ _ _ _ _ (by rfl)).trans ?_⟩
  simp only [binStr, optNat, elems, lay, rep, splice, bytesOf, mapO, byteOf, h35, h38, h37, hit, g0, g00, q1, q3, q4, hyk, hxo, gch, gc10, gy10, hm256, w1, kk1, kk2, kk3, kk4, htt, ger, gpp, t1, t2, List.length_append, Option.map_none, Option.map_some, Nat.zero_le, Nat.le_refl, List.take, List.drop, List.map_cons, List.map_nil, List.cons_append, List.nil_append, freeze_nil, reachV, reachC, ite_self, List.flatMap_cons, List.flatMap_nil, ↓sp_len, evs, Nat.reduceAdd, Nat.reduceBEq, Nat.reduceSub]
end Mini
end Go.Proofs.YtgjlofpfbhioaaaGreatDoor
