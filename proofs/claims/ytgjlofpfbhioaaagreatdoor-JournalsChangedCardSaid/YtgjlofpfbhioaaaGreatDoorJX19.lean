/-
  JournalsChanged: texts of the proof, part 20.
-/
import Derived.Test.YtgjlofpfbhioaaaGreatDoorJX18
namespace Go.Proofs.YtgjlofpfbhioaaaGreatDoor
namespace Mini
open Go
theorem split_acc {s x d : List Nat} (h1 : 32 ∉ s) (h2 : 32 ∉ x) (h3 : 32 ∉ d) : splitN 32 (s ++ wAcc ++ x ++ [32] ++ d) = [s, accW, x, d] := by
  have h : s ++ wAcc ++ x ++ [32] ++ d = s ++ 32 :: (accW ++ 32 :: (x ++ 32 :: d)) := by simp [wAcc, accW]
  rw [h, splitN_cons _ h1, splitN_cons _ (show 32 ∉ accW by decide), splitN_cons _ h2, splitN_word h3]
theorem split_rej {s x y d : List Nat} (h1 : 32 ∉ s) (h2 : 32 ∉ x) (h3 : 32 ∉ y) (h4 : 32 ∉ d) : splitN 32 (s ++ wRej ++ x ++ [32] ++ y ++ [32] ++ d) = [s, rejW, x, y, d] := by
  have h : s ++ wRej ++ x ++ [32] ++ y ++ [32] ++ d = s ++ 32 :: (rejW ++ 32 :: (x ++ 32 :: (y ++ 32 :: d))) := by simp [wRej, rejW]
  rw [h, splitN_cons _ h1, splitN_cons _ (show 32 ∉ rejW by decide), splitN_cons _ h2, splitN_cons _ h3, splitN_word h4]
theorem setT_ne {l : List Oid} (hl : l.length ≠ 0) : setT l ≠ [45] := by
  intro h
  have hs := split_set (l := l) (by rintro rfl; exact hl rfl)
  rw [h] at hs
  have h2 : splitN 44 [45] = [[45]] := by decide
  rw [h2] at hs
  cases l with
  | nil => exact hl rfl
  | cons o l =>
    rw [List.map_cons] at hs
    have h3 : textO o = [45] := by
      have := List.cons.inj hs
      exact this.1.symm
    have := textO_char o 45 (by rw [h3]; simp)
    rcases this with h4 | h4
    · have := isDig_rng h4; omega
    · omega
theorem set_back {l : List Oid} (hl : l.length ≠ 0) (hw : wfS l) (hc : chkS l = 0) : itemsOk (splitN 44 (setT l)) ∧ osJ (setT l) = l := by
  have hs := split_set (l := l) (by rintro rfl; exact hl rfl)
  have hp : ∀ o ∈ l, parseO (textO o) = (o, 0) := fun o ho => parse_text (hw o ho) (chkS_ok hc o ho)
  refine ⟨fun j hj => ?_, ?_⟩
  · rw [hs] at hj ⊢
    rw [List.length_map] at hj
    rw [List.getD_eq_getElem?_getD, List.getElem?_map, List.getElem?_eq_getElem hj]
    simp only [Option.map_some, Option.getD_some, hp _ (List.getElem_mem hj)]
  · unfold osJ osP
    rw [hs, List.take_of_length_le (Nat.le_refl _), List.map_map]
    have : ∀ o ∈ l, ((fun x => (parseO x).1) ∘ textO) o = o := fun o ho => by simp [hp o ho]
    rw [List.map_congr_left this, List.map_id']
theorem readE_line {e : En} {a : Nat} (hc : e.chk = 0) (hw : wfS e.l) (ha : a < 65521) : readE (lineT a e) = (newE e, ((sumN a e.body : Nat) : Int), true) := by
  obtain ⟨p1, p2, p3⟩ := chkE_parts hc
  have hsm := sumN_lt e.body ha
  have hd5 : (decN (sumN a e.body)).length ≤ 5 := decF_short 20 _ 4 (by omega)
  have hnum := numS_dec (n := sumN a e.body) (k := 5) (by omega) (by omega)
  have hneg : ¬ ((sumN a e.body : Nat) : Int) < 0 := by omega
  have hnar : ¬ accW = rejW := by decide
  have hnra : ¬ rejW = accW := by decide
  unfold lineT
  generalize hS : sumN a e.body = sm at *
  obtain ⟨s, acc, r, t, w, l⟩ := e
  simp only [En.body, En.chk] at hc p1 p2 p3 hw ⊢
  unfold bodyE
  have n1 := name_no (c := 32) p1 (by omega)
  have n4 := dig_no (c := 32) (n := sm) (by omega)
  cases acc
  · obtain ⟨e1, e2, e3, e4, e5⟩ := chkE_rej hc
    obtain ⟨n, rfl⟩ := Int.eq_ofNat_of_zero_le e3
    have hl0 : l = [] := List.length_eq_zero_iff.1 e5
    subst hl0
    rw [if_pos rfl, Int.toNat_natCast]
    have hd3 : (decN n).length ≤ 2 := decF_short 20 n 1 (by omega)
    have hn3 := numS_dec (n := n) (k := 3) (by omega) (by omega)
    have hr0 := rv_reas e1 e2
    have hne : ¬ ((n : Nat) : Int) < 0 := by omega
    unfold readE
    rw [split_rej n1 (reas_no (by omega)) (dig_no (by omega)) n4]
    simp only [List.length_cons, List.length_nil, Nat.reduceAdd, Nat.reduceSub, Nat.reduceLT, if_false, List.getD_cons_succ, List.getD_cons_zero, hnum, hneg, hnra, false_and, true_and, and_self, if_true, hr0, hn3]
    rw [if_neg (by rintro (h | h); omega; exact hne h)]
    rfl
  · rw [if_neg (by simp)]
    have hb : ¬ (r ≠ 0 ∨ t ≠ 0) := fun h => p2 (.inl ⟨rfl, h⟩)
    have hr0 : r = 0 := Decidable.not_not.1 fun h => hb (.inl h)
    have ht0 : t = 0 := Decidable.not_not.1 fun h => hb (.inr h)
    subst hr0
    subst ht0
    by_cases c1 : l.length = 0
    · rw [if_pos c1]
      have hl0 : l = [] := List.length_eq_zero_iff.1 c1
      subst hl0
      unfold readE
      rw [split_acc n1 (show 32 ∉ [45] by decide) n4]
      simp only [List.length_cons, List.length_nil, Nat.reduceAdd, Nat.reduceSub, Nat.reduceLT, if_false, List.getD_cons_succ, List.getD_cons_zero, hnum, hneg, and_self, if_true]
      rfl
    · rw [if_neg c1]
      obtain ⟨s1, s2⟩ := set_back c1 hw p3
      have hne := setT_ne c1
      unfold readE
      rw [split_acc n1 (set_no (by omega)) n4]
      simp only [List.length_cons, List.length_nil, Nat.reduceAdd, Nat.reduceSub, Nat.reduceLT, if_false, List.getD_cons_succ, List.getD_cons_zero, hnum, hneg, and_self, if_true, hne, s1, s2]
      simp only [newE, exD, if_neg c1]
end Mini
end Go.Proofs.YtgjlofpfbhioaaaGreatDoor
namespace Go.Proofs.YtgjlofpfbhioaaaGreatDoor
namespace Mini
open Go
theorem idx_word {c : Nat} (rest : List Nat) : ∀ {x : List Nat}, c ∉ x → idxN c (x ++ c :: rest) = some x.length
  | [], _ => by simp [idxN]
  | y :: x, h => by
    rw [List.mem_cons, not_or] at h
    rw [List.cons_append]
    unfold idxN
    rw [if_neg (Ne.symm h.1), idx_word rest h.2]
    rfl
theorem lidx_no {c : Nat} : ∀ {x : List Nat}, c ∉ x → lidxN c x = none
  | [], _ => rfl
  | y :: x, h => by
    rw [List.mem_cons, not_or] at h
    unfold lidxN
    rw [lidx_no h.2]
    simp only [if_neg (Ne.symm h.1)]
theorem lidx_word {c : Nat} {y : List Nat} (hy : c ∉ y) : ∀ x : List Nat, lidxN c (x ++ c :: y) = some x.length
  | [] => by
    rw [List.nil_append]
    unfold lidxN
    rw [lidx_no hy]
    simp
  | z :: x => by
    rw [List.cons_append]
    unfold lidxN
    rw [lidx_word hy x]
    rfl
theorem body_no {e : En} (hc : e.chk = 0) : 10 ∉ e.body := by
  obtain ⟨p1, _, _⟩ := chkE_parts hc
  have n1 := name_no (c := 10) p1 (by omega)
  have n2 : 10 ∉ wRej := by decide
  have n3 : 10 ∉ wAcc := by decide
  have n4 := set_no (l := e.l) (c := 10) (by omega)
  have n5 := reas_no (r := e.r) (c := 10) (by omega)
  have n6 := dig_no (c := 10) (n := e.t.toNat) (by omega)
  unfold En.body bodyE
  split
  · simp only [List.mem_append, List.mem_cons, List.not_mem_nil, or_false, not_or]
    exact ⟨⟨⟨⟨n1, n2⟩, n5⟩, by omega⟩, n6⟩
  split
  · simp only [List.mem_append, List.mem_cons, List.not_mem_nil, or_false, not_or]
    exact ⟨⟨n1, n3⟩, by omega⟩
  · simp only [List.mem_append, not_or]
    exact ⟨⟨n1, n3⟩, n4⟩
theorem line_no {e : En} (hc : e.chk = 0) (a : Nat) : 10 ∉ lineT a e := by
  have n1 := body_no hc
  have n2 := dig_no (c := 10) (n := sumN a e.body) (by omega)
  unfold lineT
  simp only [List.mem_append, List.mem_cons, List.not_mem_nil, or_false, not_or]
  exact ⟨⟨n1, by omega⟩, n2⟩
theorem sumL_line (e : En) (a : Nat) : sumL a (lineT a e) = sumN a e.body := by
  have h : lineT a e = e.body ++ 32 :: decN (sumN a e.body) := by simp [lineT]
  unfold sumL
  rw [h, lidx_word (dig_no (by omega)), Option.getD_some, List.take_left]
theorem parseJ_one {f u a : Nat} {l : List En} {e : En} {rest : List Nat} (hc : e.chk = 0) (hw : wfS e.l) (ha : a < 65521) (hl : l.length < 4096) : parseJ (f + 1) l u a (lineE a e ++ rest) = parseJ f (l ++ [newE e]) (u + (lineE a e).length) (sumN a e.body) rest := by
  have h1 : lineE a e ++ rest = lineT a e ++ 10 :: rest := by rw [lineE_T]; simp
  have h2 : (lineE a e).length = (lineT a e).length + 1 := by rw [lineE_T]; simp
  have h3 : (lineT a e ++ 10 :: rest).take (lineT a e).length = lineT a e := List.take_left
  have h4 : (lineT a e ++ 10 :: rest).drop ((lineT a e).length + 1) = rest := by rw [List.drop_length_add_append]; rfl
  have hr := readE_line hc hw ha
  have hck : (newE e).chk = 0 := hc
  rw [h1, h2, parseJ, idx_word rest (line_no hc a)]
  simp only [h3, h4, hr, sumL_line, hck]
  rw [if_neg (by omega), if_neg (by simp), if_neg (by simp), if_neg (by simp)]
  rfl
theorem parseJ_many : ∀ (us : List En) {f u a : Nat} {l : List En} {rest : List Nat}, (∀ e ∈ us, e.chk = 0) → (∀ e ∈ us, wfS e.l) → a < 65521 → l.length + us.length ≤ 4096 → parseJ (f + us.length) l u a (textJ a us ++ rest) = parseJ f (l ++ us.map newE) (u + (textJ a us).length) (lastJ a us) rest
  | [], f, u, a, l, rest, _, _, _, _ => by simp [textJ, lastJ]
  | e :: us, f, u, a, l, rest, h1, h2, h3, h4 => by
    simp only [List.length_cons] at h4
    have ih := parseJ_many us (f := f) (u := u + (lineE a e).length) (a := sumN a e.body) (l := l ++ [newE e]) (rest := rest) (fun x hx => h1 x (List.mem_cons_of_mem _ hx)) (fun x hx => h2 x (List.mem_cons_of_mem _ hx)) (sumN_lt _ h3) (by rw [List.length_append, List.length_singleton]; omega)
    rw [List.length_cons, ← Nat.add_assoc, textJ, List.append_assoc, parseJ_one (h1 _ List.mem_cons_self) (h2 _ List.mem_cons_self) h3 (by omega), ih, List.map_cons, List.append_assoc, List.length_append, Nat.add_assoc]
    rfl
theorem textJ_ge : ∀ (us : List En) (a : Nat), us.length ≤ (textJ a us).length
  | [], _ => Nat.le_refl _
  | e :: us, a => by
    have := textJ_ge us (sumN a e.body)
    rw [textJ, List.length_append, lineE_T, List.length_append]
    simp only [List.length_cons, List.length_nil]
    omega
theorem pJ_text {us : List En} (h1 : ∀ e ∈ us, e.chk = 0) (h2 : ∀ e ∈ us, wfS e.l) (h3 : us.length ≤ 4096) : pJ (textJ 0 us) = (us.map newE, (textJ 0 us).length, lastJ 0 us, 0) := by
  have hge := textJ_ge us 0
  have h := parseJ_many us (f := (textJ 0 us).length - us.length + 1) (u := 0) (a := 0) (l := []) (rest := []) h1 h2 (by decide) (by simpa using h3)
  rw [List.append_nil, List.nil_append, Nat.zero_add, show (textJ 0 us).length - us.length + 1 + us.length = (textJ 0 us).length + 1 by omega] at h
  unfold pJ
  rw [h, parseJ]
  rfl
end Mini
end Go.Proofs.YtgjlofpfbhioaaaGreatDoor
namespace Go.Proofs.YtgjlofpfbhioaaaGreatDoor
namespace Mini
open Go
variable {m : Int} {X : Ctx}
theorem f76 (hX : XOj m X) {N : Nat} {s : List Nat} {k : Nat} (hN : 30 ≤ N) (hk : k ≤ 10) (hs : s.length < 1000000) (hby : ∀ c ∈ s, c < 256) : vcallN X N 76 [strV s, i64 (k : Int)] = some (i64 (numS s k)) := by
  obtain ⟨N, rfl⟩ : ∃ M, N = M + 1 := ⟨N - 1, by omega⟩
  have hF : fnsX 76 = some fn76' := rfl
  suffices hh : ∃ H, callN X (N + 1) (.d (.fn 76 [] [])) [strV s, i64 (k : Int)] [] = some (i64 (numS s k), H) by
    obtain ⟨H, hh⟩ := hh
    exact vcall_of hh rfl
  rw [hX.fn hF]
  by_cases c1 : (s.length : Int) < 1
  · have g1 : s = [] := List.length_eq_zero_iff.1 (by omega)
    subst g1
    refine ⟨[], (rf_fin _ _ _ _ _ _ _ _ _ (by rfl)).trans ?_⟩
    have : numS [] k = -1 := by unfold numS; rw [if_pos (.inl rfl)]
    rw [this]
    have c1' : (0 : Int) < 1 := by omega
    simp only [strV, c1', Int.natCast_zero, evs, Nat.reduceAdd, Nat.reduceSub]
  have hne : s ≠ [] := fun h => by subst h; simp at c1
  by_cases c2 : (s.length : Int) > (k : Int)
  · refine ⟨[], (rf_fin _ _ _ _ _ _ _ _ _ (by rfl)).trans ?_⟩
    have : numS s k = -1 := by unfold numS; rw [if_pos (.inr (.inl (by omega)))]
    rw [this]
    simp only [strV, c1, c2, evs, Nat.reduceAdd, Nat.reduceSub]
  have h3 : s[0]? = some (s.getD 0 0) := by rw [List.getD_eq_getElem?_getD, List.getElem?_eq_getElem (by omega)]; rfl
  by_cases c3 : s.getD 0 0 = 48 ∧ (s.length : Int) > 1
  · refine ⟨[], (rf_fin _ _ _ _ _ _ _ _ _ (by rfl)).trans ?_⟩
    have : numS s k = -1 := by unfold numS; rw [if_pos (.inr (.inr ⟨by omega, c3.1⟩))]
    rw [this]
    rw [c3.1] at h3
    have g2 : (((48 : Nat) : Int) == 48) = true := rfl
    simp only [strV, g2, c1, c2, c3.2, h3, evs, Nat.reduceAdd, Nat.reduceSub]
  have hoff : ¬ (s = [] ∨ (k : Int) < s.length ∨ (1 < s.length ∧ s.getD 0 0 = 48)) := by
    rintro (h | h | h)
    · exact hne h
    · omega
    · exact c3 ⟨h.2, by omega⟩
  have hsc := iter_find (js := some [0, 3, 4]) (hl := 0) (body := exec (zenv X N) N false fn76L0) (fun j => isDig (s.getD j 0) = false) s.length (fun j => ⟨[strV s, .any, .any, i64 (numN 0 (s.take j) : Int), i64 (j : Int), .any, .any, .any], []⟩) (b := 0) (s1 := ⟨[strV s, .any, .any, i64 (numN 0 (s.take s.length) : Int), i64 (s.length : Int), .any, bl false, .any], []⟩) (Q := fun k s => nth s.regs 2 = i64 (-1)) (fuel := N) (by omega)
    (by
      intro j hj hp
      have hp : isDig (s.getD j 0) = true := by simpa using hp
      have q0 : s[j]? = some (s.getD j 0) := by rw [List.getD_eq_getElem?_getD, List.getElem?_eq_getElem hj]; rfl
      have q1 : numN 0 (s.take (j + 1)) = 10 * numN 0 (s.take j) + (s.getD j 0 - 48) := by
        rw [List.take_add_one, q0]
        exact numN_snoc _ _
      have hb : 48 ≤ s.getD j 0 ∧ s.getD j 0 ≤ 57 := by
        simpa [isDig, Nat.ble_eq] using hp
      have q2 : (j : Int) < (s.length : Int) := by omega
      have q3 := wrap_succ (k := j) (by omega)
      have q4 := numN_crude (s.take j) 0 (fun c hc => hby c (List.mem_of_mem_take hc))
      have q5 : (s.take j).length ≤ 9 := by rw [List.length_take]; omega
      have q6 : (0 + 30) * 10 ^ (s.take j).length ≤ (0 + 30) * 10 ^ 9 := Nat.mul_le_mul_left _ (Nat.pow_le_pow_right (by omega) q5)
      have q6 : numN 0 (s.take j) < 1000000000000 := by
        have : (0 + 30) * 10 ^ 9 = 30000000000 := rfl
        omega
      rw [q1]
      generalize numN 0 (s.take j) = acc at *
      generalize s.getD j 0 = c at *
      have q7 : IntKind.i64.wrap (10 * (acc : Int)) = ((10 * acc : Nat) : Int) := by
        rw [← wrap_nat (k := 10 * acc) (by omega)]; rfl
      have q8 : IntKind.u8.wrap ((c : Int) - 48) = ((c - 48 : Nat) : Int) := by
        rw [← wrap_u8 (n := c - 48) (by omega)]; congr 1; omega
      have q9 : IntKind.i64.wrap ((c - 48 : Nat) : Int) = ((c - 48 : Nat) : Int) := wrap_nat (by omega)
      have q10 : IntKind.i64.wrap (((10 * acc : Nat) : Int) + ((c - 48 : Nat) : Int)) = ((10 * acc + (c - 48) : Nat) : Int) := by
        rw [← wrap_nat (k := 10 * acc + (c - 48)) (by omega)]; rfl
      have q11 : ¬ (c : Int) < 48 := by omega
      have q12 : ¬ (c : Int) > 57 := by omega
      refine ⟨⟨[strV s, .any, .any, i64 ((10 * acc + (c - 48) : Nat) : Int), i64 ((j + 1 : Nat) : Int), .any, bl true, bl false], []⟩, ?_, gc_le (Nat.le_refl 0)⟩
      simp only [fn76L0, strV, q0, q2, q3, q7, q8, q9, q10, q11, q12, evs])
    (by simp only [fn76L0, strV, evs])
    (by
      intro j hj hp
      have q0 : s[j]? = some (s.getD j 0) := by rw [List.getD_eq_getElem?_getD, List.getElem?_eq_getElem hj]; rfl
      have q2 : (j : Int) < (s.length : Int) := by omega
      by_cases c4 : (s.getD j 0 : Int) < 48
      · refine ⟨⟨[strV s, .any, i64 (-1), i64 (numN 0 (s.take j) : Int), i64 (j : Int), .any, bl true, bl true], []⟩, ?_, rfl⟩
        simp only [fn76L0, strV, q0, q2, c4, evs]
      · have c5 : (s.getD j 0 : Int) > 57 := by
          have : ¬ isDig (s.getD j 0) = true := by rw [hp]; simp
          simp only [isDig, Bool.and_eq_true, Nat.ble_eq] at this
          omega
        refine ⟨⟨[strV s, .any, i64 (-1), i64 (numN 0 (s.take j) : Int), i64 (j : Int), .any, bl true, bl true], []⟩, ?_, rfl⟩
        simp only [fn76L0, strV, q0, q2, c4, c5, evs])
  have n0 : numN 0 [] = 0 := rfl
  simp only [i64, bl, strV, List.take_zero, List.take_length, n0, Int.natCast_zero] at hsc
  have g2 : (s.length : Int) > 1 → ((s.getD 0 0 : Int) == 48) = false := fun h1 => by
    rw [beq_eq_false_iff_ne]
    intro h
    exact c3 ⟨by omega, h1⟩
  rcases hsc with ⟨hno, hit⟩ | ⟨k, s', hk, hp, hno, hq, hit⟩
  · have hall : s.all isDig = true := by
      rw [List.all_eq_true]
      intro c hc
      obtain ⟨i, hi, rfl⟩ := List.getElem_of_mem hc
      have := hno i hi
      rw [List.getD_eq_getElem?_getD, List.getElem?_eq_getElem hi, Option.getD_some] at this
      simpa using this
    have : numS s k = (numN 0 s : Nat) := by
      unfold numS
      rw [if_neg hoff, if_pos hall]
    rw [this]
    refine ⟨[], (rf_fin _ _ _ _ _ _ _ _ _ (by rfl)).trans ?_⟩
    by_cases c6 : (s.length : Int) > 1
    · have g2 := g2 c6
      simp only [strV, g2, c1, c2, h3, hit, evs, Nat.reduceAdd, Nat.reduceBEq, Nat.reduceSub]
    · cases c7 : ((s.getD 0 0 : Int) == 48)
      · simp only [strV, c7, c1, c2, h3, hit, evs, Nat.reduceAdd, Nat.reduceBEq, Nat.reduceSub]
      · simp only [strV, c7, c1, c2, c6, h3, hit, evs, Nat.reduceAdd, Nat.reduceBEq, Nat.reduceSub]
  · have hall : ¬ s.all isDig = true := by
      intro h
      rw [List.all_eq_true] at h
      have := h _ (List.getElem_mem hk)
      rw [List.getD_eq_getElem?_getD, List.getElem?_eq_getElem hk, Option.getD_some] at hp
      rw [hp] at this; cases this
    rename_i kk _
    have : numS s kk = -1 := by
      unfold numS
      rw [if_neg hoff, if_neg hall]
    rw [this]
    refine ⟨s'.heap, (rf_fin _ _ _ _ _ _ _ _ _ (by rfl)).trans ?_⟩
    obtain ⟨r, H⟩ := s'
    simp only [] at hq
    by_cases c6 : (s.length : Int) > 1
    · have g2 := g2 c6
      simp only [strV, g2, c1, c2, h3, hit, hq, evs, Nat.reduceAdd, Nat.reduceBEq, Nat.reduceSub]
    · cases c7 : ((s.getD 0 0 : Int) == 48)
      · simp only [strV, c7, c1, c2, h3, hit, hq, evs, Nat.reduceAdd, Nat.reduceBEq, Nat.reduceSub]
      · simp only [strV, c7, c1, c2, c6, h3, hit, hq, evs, Nat.reduceAdd, Nat.reduceBEq, Nat.reduceSub]
def parV (j : List Nat) : V := if (pJ j).2.2.2 = 0 then .tup [.c (.d (.sl ((pJ j).1.flatMap En.ds) (pJ j).1.length)), i64 (pJ j).2.1, i64 0, i64 0] else .tup [.c (.d .nils), i64 0, i64 ((pJ j).1.length + 1 : Nat), i64 (pJ j).2.2.2]
theorem v37 (hX : XOj m X) {N : Nat} {j : List Nat} (hN : j.length + 1200 ≤ N) (hj : j.length < 800000) (hb : ∀ c ∈ j, c < 256) (hl : (pJ j).1.length ≤ 4096) : (zenv X N).vcall 37 [strV j] = some (parV j) := by
  obtain ⟨H, h37, h5⟩ := f37 hX hN hj hb hl
  refine hX.vc (k := 37) (F := fn37) rfl (vcall_of h37 ?_)
  unfold parV
  split
  · have hdp := deep_en (c := some (pJ j).1.length) h5 rfl
    simp only [deepV, mapO, deepV1, hdp, Option.map_some, i64]
    rfl
  · rfl
end Mini
end Go.Proofs.YtgjlofpfbhioaaaGreatDoor
namespace Go.Proofs.YtgjlofpfbhioaaaGreatDoor
namespace Mini
open Go
variable {m : Int} {X : Ctx}
def strC (l : List (List Nat)) : List C := l.map fun s => C.d (.str s)
theorem strC_len (l : List (List Nat)) : (strC l).length = l.length := by simp [strC]
theorem strC_last (l : List (List Nat)) (hl : l ≠ []) : ((strC l).drop (l.length - 1)).take 1 = [.d (.str (l.getLast?.getD []))] := by
  obtain ⟨p, x, rfl⟩ : ∃ p x, l = p ++ [x] := ⟨l.dropLast, l.getLast hl, (List.dropLast_concat_getLast hl).symm⟩
  simp [strC]
theorem strC_set (l : List (List Nat)) (x : Nat) (hl : l ≠ []) : splice (strC l) (l.length - 1) [.d (.str (l.getLast?.getD [] ++ [x]))] = strC (addLast l x) := by
  obtain ⟨p, y, rfl⟩ : ∃ p y, l = p ++ [y] := ⟨l.dropLast, l.getLast hl, (List.dropLast_concat_getLast hl).symm⟩
  simp [strC, splice, addLast]
theorem addLast_len (l : List (List Nat)) (x : Nat) (hl : l ≠ []) : (addLast l x).length = l.length := by
  have : 0 < l.length := by
    cases l with
    | nil => exact absurd rfl hl
    | cons _ _ => simp
  simp [addLast]; omega
theorem last_le (l : List (List Nat)) (b : Nat) (h : ∀ x ∈ l, x.length ≤ b) : (l.getLast?.getD []).length ≤ b := by
  cases hl : l.getLast? with
  | none => simp
  | some x => exact h x (List.mem_of_getLast? hl)
abbrev R30 (s : List Nat) (c id g n : Nat) (cap : Option Nat) (j : Nat) : List V := [strV s, .c (.d (.int .u8 (c : Int))), .any, .c (.os id g 0 n 1 cap), i64 (j : Int), .any, .any]
def P30 (s : List Nat) (c j : Nat) (st : St) : Prop := ∃ id g cap H, st = ⟨R30 s c id g (splitN c (s.take j)).length cap j, H⟩ ∧ H[id]? = some (.cells (strC (splitN c (s.take j))) g false) ∧ (cap = none ∨ cap = some 1 ∧ (splitN c (s.take j)).length = 1) ∧ g ≤ j
theorem tidy30 {s : List Nat} {c j id g n : Nat} {cap : Option Nat} {H : Heap} {cs : List C} {r5 r6 : V} (h : H[id]? = some (.cells cs g false)) : ∃ H', tidy 1 (some [0, 1, 3, 4]) ⟨[strV s, .c (.d (.int .u8 (c : Int))), .any, .c (.os id g 0 n 1 cap), i64 (j : Int), r5, r6], H⟩ = ⟨R30 s c id g n cap j, H'⟩ ∧ H'[id]? = some (.cells cs g false) := by
  obtain ⟨H', t1, t2, t3⟩ := tidy_keep (hl := 1) (js := [0, 1, 3, 4]) (r := [strV s, .c (.d (.int .u8 (c : Int))), .any, .c (.os id g 0 n 1 cap), i64 (j : Int), r5, r6]) (H := H)
  refine ⟨H', t1, ?_⟩
  rcases t3 with rfl | ⟨_, _, hu⟩
  · exact h
  · have : id < 1 := by
      have hk : keepOnly [0, 1, 3, 4] 0 [strV s, .c (.d (.int .u8 (c : Int))), .any, .c (.os id g 0 n 1 cap), i64 (j : Int), r5, r6] = R30 s c id g n cap j := rfl
      rw [hk] at hu
      simp only [R30, List.all_cons, Bool.and_eq_true] at hu
      have h3 := hu.2.2.2.1
      rw [show V.under 1 (.c (.os id g 0 n 1 cap)) = decide (id < 1) from by simp [V.under, C.under]] at h3
      exact of_decide_eq_true h3
    rw [t2 _ this, h]
theorem r30 (_hX : XOk m X) {N : Nat} {s : List Nat} {c j : Nat} (hs : s.length < 900000) (hby : ∀ b ∈ s, b < 256) (hj : j < s.length) : ∀ st, P30 s c j st → ∃ s', exec (zenv X N) N false fn30L0 st = some (.nrm, s') ∧ P30 s c (j + 1) (tidy 1 (some [0, 1, 3, 4]) s') := by
  rintro st ⟨id, g, cap, H, rfl, ho, hcap, hg⟩
  have hx : s[j]? = some (s.getD j 0) := by rw [List.getD_eq_getElem?_getD, List.getElem?_eq_getElem hj]; rfl
  have hb : s.getD j 0 < 256 := hby _ (by rw [List.getD_eq_getElem?_getD, List.getElem?_eq_getElem hj]; exact List.getElem_mem _)
  have hsn : splitN c (s.take (j + 1)) = if s.getD j 0 = c then splitN c (s.take j) ++ [[]] else addLast (splitN c (s.take j)) (s.getD j 0) := by
    rw [List.take_add_one, hx, Option.toList_some, splitN_snoc]
  have hne := splitN_neq c (s.take j)
  obtain ⟨hl1, hl2⟩ := splitN_len c (s.take j)
  rw [List.length_take] at hl1 hl2
  have hlast := last_le _ _ hl2
  have h4 : (j : Int) < (s.length : Int) := by omega
  have h6 := wrap_succ (k := j) (by omega)
  have hlt := some_lt ho
  have hpos : 0 < (splitN c (s.take j)).length := seqLen c _
  unfold P30
  rw [hsn]
  generalize s.getD j 0 = b at *
  generalize splitN c (s.take j) = l at *
  have hcl := strC_len l
  by_cases hbc : b = c
  · have q1 : ((b : Int) == (c : Int)) = true := by rw [beq_iff_eq]; omega
    rw [if_pos hbc]
    have e1 : ∀ o : Ob, (H ++ [o])[H.length]? = some o := fun o => by simp
    have e2 : ∀ o : Ob, (H ++ [o])[id]? = some (.cells (strC l) g false) := fun o => by rw [List.getElem?_append_left hlt, ho]
    have htk : (strC l).take l.length = strC l := List.take_of_length_le (by omega)
    have hap : strC (l ++ [[]]) = strC l ++ [.d (.str [])] := by simp [strC]
    have k1 : l.length + 1 ≤ 1073741824 := by omega
    have k2 : l.length ≤ (strC l).length := by omega
    rcases hcap with rfl | ⟨rfl, hn⟩
    · have k3 : g + 1 < genK := by show g + 1 < 1000000; omega
      have hres : ((H ++ [Ob.cells [C.d (.str [])] 0 false]).set id (.cells (strC l ++ [.d (.str [])]) (g + 1) false))[id]? = some (.cells (strC (l ++ [[]])) (g + 1) false) := by
        rw [List.getElem?_set_self (by simp; omega), hap]
      obtain ⟨H', t1, t2⟩ := tidy30 (s := s) (c := c) (j := j + 1) (n := l.length + 1) (cap := none) (r5 := bl true) (r6 := bl true) hres
      refine ⟨_, ?_, id, g + 1, none, H', by rw [t1, List.length_append]; rfl, t2, .inl rfl, by omega⟩
      simp only [fn30L0, R30, strV, elems, lay, rep, splice, hx, h4, h6, q1, e1, e2, htk, k1, k2, k3, Nat.one_ne_zero, Nat.le_refl, List.take, List.drop, List.map_cons, List.map_nil, evs]
    · have k3 : ¬ l.length + 1 ≤ 1 := by omega
      have hres : (H ++ [Ob.cells [C.d (.str [])] 0 false] ++ [Ob.cells (strC l ++ [.d (.str [])]) 0 false])[H.length + 1]? = some (.cells (strC (l ++ [[]])) 0 false) := by
        rw [hap, List.getElem?_append_right (by simp)]; simp
      obtain ⟨H', t1, t2⟩ := tidy30 (s := s) (c := c) (j := j + 1) (n := l.length + 1) (cap := none) (r5 := bl true) (r6 := bl true) hres
      have hlen : (H ++ [Ob.cells [C.d (.str [])] 0 false]).length = H.length + 1 := by simp
      refine ⟨_, ?_, H.length + 1, 0, none, H', by rw [t1, List.length_append]; rfl, t2, .inl rfl, by omega⟩
      simp only [fn30L0, R30, strV, elems, lay, rep, splice, hx, h4, h6, q1, e1, e2, htk, k1, k2, k3, hlen, Nat.one_ne_zero, Nat.le_refl, List.take, List.drop, List.map_cons, List.map_nil, evs]
  · have q1 : ((b : Int) == (c : Int)) = false := by rw [beq_eq_false_iff_ne]; omega
    rw [if_neg hbc]
    have w1 : IntKind.i64.wrap ((l.length : Int) - 1) = ((l.length - 1 : Nat) : Int) := by rw [← wrap_nat (k := l.length - 1) (by omega)]; congr 1; omega
    have hl3 := strC_last l hne
    have hl4 := strC_set l b hne
    have hal := addLast_len l b hne
    have e1 : ∀ o : Ob, (H ++ [o])[H.length]? = some o := fun o => by simp
    have e2 : ∀ o : Ob, (H ++ [o])[id]? = some (.cells (strC l) g false) := fun o => by rw [List.getElem?_append_left hlt, ho]
    have k1 : l.length - 1 < l.length := by omega
    have k2 : l.length - 1 + 1 ≤ l.length := by omega
    have k3 : (l.getLast?.getD []).length + 1 ≤ 1073741824 := by omega
    have hs1 : splice [C.d (.int .u8 0)] 0 [C.d (.int .u8 (b : Int))] = [C.d (.int .u8 (b : Int))] := rfl
    have hbo : bytesOf [C.d (.int .u8 (b : Int))] = some [b] := bytesOf_of (s := [b]) (fun x hx => by rw [List.mem_singleton] at hx; omega)
    have hres : ((H ++ [Ob.cells [C.d (.int .u8 (b : Int))] 0 false]).set id (.cells (strC (addLast l b)) g false))[id]? = some (.cells (strC (addLast l b)) g false) := by
      rw [List.getElem?_set_self (by simp; omega)]
    obtain ⟨H', t1, t2⟩ := tidy30 (s := s) (c := c) (j := j + 1) (n := l.length) (cap := cap) (r5 := bl true) (r6 := bl false) hres
    refine ⟨_, ?_, id, g, cap, H', by rw [t1, hal], t2, by rw [hal]; exact hcap, by omega⟩
    generalize l.getLast?.getD [] = la at *
    simp only [fn30L0, R30, strV, binStr, elems, lay, rep, hx, h4, h6, q1, w1, hl3, hl4, e1, e2, ho, hcl, k1, k2, k3, hbo, hs1, Nat.le_refl, List.take, List.drop, List.map_cons, List.map_nil, ↓sp_len, ↓sp_ixa, evs]
theorem f30 (hX : XOk m X) {N : Nat} {s : List Nat} {c : Nat} (hN : s.length + 10 ≤ N) (hs : s.length < 900000) (hby : ∀ b ∈ s, b < 256) : vcallN X N 30 [strV s, .c (.d (.int .u8 (c : Int)))] = some (.c (.d (slS (splitN c s)))) := by
  obtain ⟨N, rfl⟩ : ∃ M, N = M + 1 := ⟨N - 1, by omega⟩
  have hF : fnsA 30 = some fn30' := rfl
  obtain ⟨s', hit, id, g, cap, H, hs', ho⟩ := iter_inv (js := some [0, 1, 3, 4]) (hl := 1) (body := exec (zenv X N) N false fn30L0) (P30 s c) (e := .exit 0) (by simp) (fun s' => ∃ id g cap H, s' = ⟨[strV s, .c (.d (.int .u8 (c : Int))), .any, .c (.os id g 0 (splitN c s).length 1 cap), i64 (s.length : Int), bl false, .any], H⟩ ∧ H[id]? = some (.cells (strC (splitN c s)) g false)) s.length 0 N ⟨R30 s c 0 0 1 (some 1) 0, [.cells [.d (.str [])] 0 false]⟩ ⟨0, 0, some 1, _, rfl, rfl, .inr ⟨rfl, rfl⟩, Nat.le_refl _⟩
    (fun j _ hj => r30 hX hs hby (by omega))
    (by
      rw [Nat.zero_add]
      rintro st ⟨id, g, cap, H, rfl, ho, _, _⟩
      rw [List.take_length] at ho
      refine ⟨_, ?_, id, g, cap, H, rfl, ho⟩
      rw [List.take_length]
      simp only [fn30L0, R30, strV, evs]) (by omega)
  subst hs'
  have hcl := strC_len (splitN c s)
  simp only [R30, strV, i64, bl, Int.natCast_zero] at hit
  refine vcall_of (r := .c (.os id g 0 (splitN c s).length 1 cap)) (H := H) ?_ ?_
  · rw [hX.fn hF]
    refine (rf_fin _ _ _ _ _ _ _ _ _ (by rfl)).trans ?_
    have hfr : ∀ (regs : List V) (H : Heap), frn (.c (.os 0 0 0 1 1 (some 1))) 3 1 regs H = ⟨regs, H⟩ := fun _ _ => rfl
    simp only [strV, lay, rep, splice, ex_fresh, hfr, hit, List.take, List.drop, List.map_cons, List.map_nil, evs, Nat.reduceAdd, Nat.reduceLeDiff, Nat.reduceBEq, Nat.reduceSub]
  · have p2 : ((strC (splitN c s)).drop 0).take ((splitN c s).length * 1) = ((splitN c s).map D.str).map .d := by
      rw [List.drop_zero, List.take_of_length_le (by omega), List.map_map]; rfl
    have p1 : 0 + (splitN c s).length * 1 ≤ (strC (splitN c s)).length := by omega
    simp only [deepV, deepV1, deepMax, deepC, ob_eq, ho, if_true, if_pos p1, p2, mapO_d, Option.map_some]
    rfl
end Mini
end Go.Proofs.YtgjlofpfbhioaaaGreatDoor
namespace Go.Proofs.YtgjlofpfbhioaaaGreatDoor
namespace Mini
open Go
variable {m : Int} {X : Ctx}
def arcOk (x : List Nat) : Bool := !(decide (arcOff x)) && x.all isDig && decide (numN 0 x < 4294967296)
theorem arc_yes {x : List Nat} (h : arcOk x = true) : arcV x = .tup [.c (.d (u32D (valP x))), bl true] := by
  simp only [arcOk, Bool.and_eq_true, Bool.not_eq_true', decide_eq_false_iff_not, decide_eq_true_eq] at h
  unfold arcV valP
  rw [if_neg (by rintro (h1 | h1); exact h.1.1 h1; exact h1 h.1.2), decide_eq_true h.2, if_pos (by omega), Nat.mod_eq_of_lt h.2]
theorem arc_no {x : List Nat} (h : arcOk x = false) : ∃ v, arcV x = .tup [.c (.d (u32D v)), bl false] := by
  unfold arcV
  split
  · exact ⟨0, rfl⟩
  · rename_i h1
    rw [not_or] at h1
    have h2 : x.all isDig = true := Decidable.not_not.1 h1.2
    have h3 : ¬ numN 0 x < 4294967296 := by
      intro h3
      have : arcOk x = true := by
        simp only [arcOk, Bool.and_eq_true, Bool.not_eq_true', decide_eq_false_iff_not, decide_eq_true_eq]
        exact ⟨⟨h1.1, h2⟩, h3⟩
      rw [h] at this; cases this
    rw [decide_eq_false h3]
    exact ⟨_, rfl⟩
theorem numN_acc : ∀ (s : List Nat) (acc : Nat), acc * 10 ^ s.length ≤ numN acc s
  | [], acc => by simp [numN]
  | b :: s, acc => by
    have ih := numN_acc s (10 * acc + (b - 48))
    have h2 : (10 * acc) * 10 ^ s.length ≤ (10 * acc + (b - 48)) * 10 ^ s.length := Nat.mul_le_mul_right _ (by omega)
    rw [List.length_cons, Nat.pow_succ, Nat.mul_comm (10 ^ s.length) 10, ← Nat.mul_assoc, Nat.mul_comm acc 10]
    exact Nat.le_trans h2 ih
theorem numN_geh {b : Nat} {s : List Nat} (hb : 49 ≤ b) : 10 ^ s.length ≤ numN 0 (b :: s) := by
  have h := numN_acc s (10 * 0 + (b - 48))
  refine Nat.le_trans ?_ h
  calc 10 ^ s.length = 1 * 10 ^ s.length := (Nat.one_mul _).symm
    _ ≤ _ := Nat.mul_le_mul_right _ (by omega)
theorem arc_dec (x : List Nat) : arcOk x = true ↔ decB x = true ∧ numN 0 x ≤ 4294967295 := by
  simp only [arcOk, decB, Bool.and_eq_true, Bool.or_eq_true, Bool.not_eq_true', decide_eq_false_iff_not, decide_eq_true_eq]
  constructor
  · rintro ⟨⟨h1, h2⟩, h3⟩
    refine ⟨?_, by omega⟩
    unfold arcOff at h1
    rw [not_or, not_or] at h1
    match x, h1, h2 with
    | [], h1, _ => exact absurd rfl h1.1
    | [b], h1, h2 =>
      by_cases hb : b = 48
      · left; rw [hb]
      · right; exact ⟨⟨by simp, by simpa using hb⟩, h2⟩
    | b :: c :: s, h1, h2 =>
      right
      exact ⟨⟨by simp, fun h => h1.2.2 ⟨by simp, h⟩⟩, h2⟩
  · rintro ⟨h1, h3⟩
    rcases h1 with rfl | ⟨⟨h1, h2⟩, h4⟩
    · refine ⟨⟨by unfold arcOff; simp, by decide⟩, by omega⟩
    · refine ⟨⟨?_, h4⟩, by omega⟩
      match x, h1, h2, h4 with
      | b :: s, _, h2, h4 =>
        have hb : 48 ≤ b ∧ b ≤ 57 := by
          rw [List.all_cons, Bool.and_eq_true] at h4
          exact isDig_rng h4.1
        have hb2 : b ≠ 48 := by simpa using h2
        have hge := numN_geh (b := b) (s := s) (by omega)
        unfold arcOff
        rintro (h | h | h)
        · simp at h
        · simp only [List.length_cons] at h
          have : 10 ^ 10 ≤ 10 ^ s.length := Nat.pow_le_pow_right (by omega) (by omega)
          have e : (10 : Nat) ^ 10 = 10000000000 := by decide
          omega
        · exact h2 h.2
theorem largeP_iff (ps : List (List Nat)) : ∀ j, largeP ps j = false ↔ ∀ i, i < j → numN 0 (ps.getD i []) ≤ 4294967295
  | 0 => ⟨fun _ i h => absurd h (Nat.not_lt_zero _), fun _ => rfl⟩
  | j + 1 => by
    rw [largeP, Bool.or_eq_false_iff, largeP_iff ps j, decide_eq_false_iff_not]
    constructor
    · rintro ⟨h1, h2⟩ i hi
      rcases Nat.lt_or_eq_of_le (Nat.le_of_lt_succ hi) with h | rfl
      · exact h1 i h
      · omega
    · intro h
      exact ⟨fun i hi => h i (by omega), by have := h j (by omega); omega⟩
theorem all_at {ps : List (List Nat)} {f : List Nat → Bool} : ps.all f = true ↔ ∀ i, i < ps.length → f (ps.getD i []) = true := by
  rw [List.all_eq_true]
  constructor
  · intro h i hi
    refine h _ ?_
    rw [List.getD_eq_getElem?_getD, List.getElem?_eq_getElem hi]
    exact List.getElem_mem _
  · intro h x hx
    obtain ⟨i, hi, rfl⟩ := List.getElem_of_mem hx
    have := h i hi
    rw [List.getD_eq_getElem?_getD, List.getElem?_eq_getElem hi] at this
    exact this
theorem parseO_iff (s : List Nat) : ((parseO s).2 = 0 ↔ (splitN 46 s).length ≤ 16 ∧ (∀ i, i < (splitN 46 s).length → arcOk ((splitN 46 s).getD i []) = true) ∧ chkO ((splitN 46 s).length, arrP (splitN 46 s) (splitN 46 s).length) = 0) ∧ ((parseO s).2 = 0 → (parseO s).1 = ((splitN 46 s).length, arrP (splitN 46 s) (splitN 46 s).length)) := by
  unfold parseO
  generalize splitN 46 s = ps
  by_cases h1 : ps.all decB = true
  · rw [if_neg (by simp [h1])]
    by_cases h2 : 16 < ps.length
    · rw [if_pos h2]
      exact ⟨⟨fun h => (by cases h), fun h => (by omega)⟩, fun h => (by cases h)⟩
    · rw [if_neg h2]
      by_cases h3 : largeP ps ps.length = true
      · rw [if_pos h3]
        refine ⟨⟨fun h => (by cases h), fun h => ?_⟩, fun h => (by cases h)⟩
        exfalso
        have : largeP ps ps.length = false := (largeP_iff ps _).2 fun i hi => ((arc_dec _).1 (h.2.1 i hi)).2
        rw [h3] at this; cases this
      · rw [if_neg h3]
        have h3 : largeP ps ps.length = false := by simpa using h3
        have h4 := (largeP_iff ps _).1 h3
        have h5 : ∀ i, i < ps.length → arcOk (ps.getD i []) = true := fun i hi => (arc_dec _).2 ⟨all_at.1 h1 i hi, h4 i hi⟩
        by_cases h6 : chkO (ps.length, arrP ps ps.length) = 0
        · rw [if_neg (by simp [h6])]
          exact ⟨⟨fun _ => ⟨by omega, h5, h6⟩, fun _ => rfl⟩, fun _ => rfl⟩
        · rw [if_pos h6]
          exact ⟨⟨fun h => absurd h h6, fun h => absurd h.2.2 h6⟩, fun h => absurd h h6⟩
  · rw [if_pos (by simpa using h1)]
    refine ⟨⟨fun h => (by cases h), fun h => ?_⟩, fun h => (by cases h)⟩
    exact absurd (all_at.2 fun i hi => ((arc_dec _).1 (h.2.1 i hi)).1) h1
abbrev R69 (ps : List (List Nat)) (j : Nat) : List V := [.any, .c (.ptr 0 0 0), .any, .c (.d (slS ps)), .c (.ptr 1 0 0), i64 (j : Int), .any, .any, .any, .any, .any]
set_option maxHeartbeats 1000000 in
theorem f69 (hX : XOk m X) {N : Nat} {s : List Nat} (hN : s.length + 60 ≤ N) (hs : s.length < 900000) (hby : ∀ b ∈ s, b < 256) : ∃ o, vcallN X N 69 [strV s] = some (.tup [.agg (oC o), bl (decide ((parseO s).2 = 0))]) ∧ wfO o ∧ ((parseO s).2 = 0 → o = (parseO s).1) := by
  obtain ⟨N, rfl⟩ : ∃ M, N = M + 1 := ⟨N - 1, by omega⟩
  have hF : fnsA 69 = some fn69' := rfl
  have h30 := hX.vc (k := 30) (F := fn30) rfl (f30 hX (N := N) (c := 46) (by omega) hs hby)
  obtain ⟨hl1, hl2⟩ := splitN_len 46 s
  have hbyp : ∀ x ∈ splitN 46 s, ∀ b ∈ x, b < 256 := by
    have : ∀ s : List Nat, (∀ b ∈ s, b < 256) → ∀ x ∈ splitN 46 s, ∀ b ∈ x, b < 256 := by
      intro s
      induction s with
      | nil => intro _ x hx b hb; simp only [splitN, List.mem_singleton] at hx; subst hx; cases hb
      | cons y s ih =>
        intro h x hx b hb
        have ih := ih (fun b hb => h b (List.mem_cons_of_mem _ hb))
        rw [splitN] at hx
        split at hx
        · rcases List.mem_cons.1 hx with rfl | hx
          · cases hb
          · exact ih x hx b hb
        · cases hsp : splitN 46 s with
          | nil => exact absurd hsp (splitN_neq 46 s)
          | cons a l =>
            rw [hsp] at hx ih
            rcases List.mem_cons.1 hx with rfl | hx
            · rcases List.mem_cons.1 hb with rfl | hb
              · exact h _ List.mem_cons_self
              · exact ih a List.mem_cons_self b hb
            · exact ih x (List.mem_cons_of_mem _ hx) b hb
    exact this s hby
  obtain ⟨hi1, hi2⟩ := parseO_iff s
  have hz0 : oC o0 = zC := rfl
  have hzw : wfO o0 := by unfold wfO o0; decide
  have hlw := slS_len (splitN 46 s)
  have hwrap : ∀ {o : Oid} {b : Bool} {H : Heap}, callN X (N + 1) (.d (.fn 69 [] [])) [strV s] [] = some (.tup [.agg (oC o), bl b], H) → vcallN X (N + 1) 69 [strV s] = some (.tup [.agg (oC o), bl b]) := fun {o b H} h => by
    refine vcall_of h ?_
    simp only [deepV, mapO, deepV1, bl]
    rw [show mapO (deepC H deepMax) (oC o) = some (oD o) from mapO_d H _ _]
    rfl
  generalize splitN 46 s = ps at *
  by_cases c16 : 16 < ps.length
  · have hf : decide ((parseO s).2 = 0) = false := decide_eq_false fun h => by have := (hi1.1 h).1; omega
    have c16' : (ps.length : Int) > 16 := by omega
    rw [hf]
    refine ⟨o0, hwrap (H := [.cells zC 0 false]) ?_, hzw, fun h => by have := (hi1.1 h).1; omega⟩
    rw [hX.fn hF]
    refine (rf_fin _ _ _ _ _ _ _ _ _ (by rfl)).trans ?_
    simp only [strV, Int.cast_ofNat_Int] at h30
    simp only [ob?, strV, h30, hlw, c16', hz0, lay, splice, List.take, List.drop, List.map_cons, List.map_nil, List.set_cons_zero, freeze_nil, reachV, reachC, ite_self, List.flatMap_cons, List.flatMap_nil, ↓sp_len, evs, Nat.reduceAdd, Nat.reduceLeDiff, Nat.reduceSub]
  have c16' : ¬ (ps.length : Int) > 16 := by omega
  have hwu : IntKind.u8.wrap (ps.length : Int) = (ps.length : Int) := wrap_u8 (by omega)
  have hmem : ∀ j, j < ps.length → ps.getD j [] ∈ ps := fun j hj => by
    rw [List.getD_eq_getElem?_getD, List.getElem?_eq_getElem hj]
    exact List.getElem_mem hj
  have hlay : lay [.d (.int .u8 0), .d (.int .u32 0), .d (.int .u32 0), .d (.int .u32 0), .d (.int .u32 0), .d (.int .u32 0), .d (.int .u32 0), .d (.int .u32 0), .d (.int .u32 0), .d (.int .u32 0), .d (.int .u32 0), .d (.int .u32 0), .d (.int .u32 0), .d (.int .u32 0), .d (.int .u32 0), .d (.int .u32 0), .d (.int .u32 0)] [(0, 1, .c (.d (.int .u8 (ps.length : Int))))] = some (oC (ps.length, arrP ps 0)) := rfl
  have hlo0 : (oC (ps.length, arrP ps 0)).length = 17 := rfl
  have hlz : lay [.d (.int .u8 0), .d (.int .u32 0), .d (.int .u32 0), .d (.int .u32 0), .d (.int .u32 0), .d (.int .u32 0), .d (.int .u32 0), .d (.int .u32 0), .d (.int .u32 0), .d (.int .u32 0), .d (.int .u32 0), .d (.int .u32 0), .d (.int .u32 0), .d (.int .u32 0), .d (.int .u32 0), .d (.int .u32 0), .d (.int .u32 0)] [] = some zC := rfl
  have hsc := iter_find (js := some [1, 3, 4, 5]) (hl := 2) (body := exec (zenv X N) N false fn69L0) (fun j => arcOk (ps.getD j []) = false) ps.length (fun i => ⟨R69 ps i, [.cells zC 0 false, .cells (oC (ps.length, arrP ps i)) 0 false]⟩) (b := 0) (s1 := ⟨[.any, .c (.ptr 0 0 0), .any, .c (.d (slS ps)), .c (.ptr 1 0 0), i64 (ps.length : Int), .any, .any, .any, bl false, .any], [.cells zC 0 false, .cells (oC (ps.length, arrP ps ps.length)) 0 false]⟩) (Q := fun k s => ∃ o, nth s.regs 1 = .c (.ptr 0 0 0) ∧ nth s.regs 2 = bl false ∧ s.heap = [.cells zC 0 false, o]) (fuel := N) (by omega)
    (by
      intro j hj hp
      have hp : arcOk (ps.getD j []) = true := by simpa using hp
      have h1 := slS_at ps hj
      have hxl := hl2 _ (hmem j hj)
      have h96 := hX.vc (k := 96) (F := fn96) rfl (f96 hX (N := N) (s := ps.getD j []) (by omega) (by omega) (hbyp _ (hmem j hj)))
      rw [arc_yes hp] at h96
      have h4 : (j : Int) < (ps.length : Int) := by omega
      have h6 := wrap_succ (k := j) (by omega)
      have h16 : j < 16 := by omega
      have hlA := arrP_len ps j
      have hA : arrP ps (j + 1) = (arrP ps j).set j (valP (ps.getD j [])) := by rw [arrP, if_pos h16]
      have hset := oC_set ps.length (arrP ps j) (j := j) (v := valP (ps.getD j [])) (by rw [hlA]; exact h16)
      have hlo : (oC (ps.length, arrP ps j)).length = 17 := by simp [oC, oD, hlA]
      have h17 : 1 + j + 1 ≤ 17 := by omega
      rw [hA]
      generalize valP (ps.getD j []) = v at *
      simp only [strV, u32D, bl] at h96
      refine ⟨⟨[.any, .c (.ptr 0 0 0), .any, .c (.d (slS ps)), .c (.ptr 1 0 0), i64 ((j + 1 : Nat) : Int), .c (.d (.int .u32 (v : Int))), bl true, .any, bl true, bl false], [.cells zC 0 false, .cells (oC (ps.length, (arrP ps j).set j v)) 0 false]⟩, ?_, gc_le (Nat.le_refl 2)⟩
      simp only [fn69L0, R69, ob?, hlw, h1, h4, h6, h96, h16, hset, hlo, h17, Bool.not_true, List.take, List.map_cons, List.map_nil, List.set_cons_zero, List.set_cons_succ, freeze_nil, reachV, reachC, ite_self, List.flatMap_cons, List.flatMap_nil, ↓sp_len, ↓sp_ixa, evs])
    (by simp only [fn69L0, R69, hlw, ↓sp_len, evs])
    (by
      intro j hj hp
      have h1 := slS_at ps hj
      have hxl := hl2 _ (hmem j hj)
      have h96 := hX.vc (k := 96) (F := fn96) rfl (f96 hX (N := N) (s := ps.getD j []) (by omega) (by omega) (hbyp _ (hmem j hj)))
      obtain ⟨v, hv⟩ := arc_no hp
      rw [hv] at h96
      have h4 : (j : Int) < (ps.length : Int) := by omega
      simp only [strV, u32D, bl] at h96
      refine ⟨⟨[.any, .c (.ptr 0 0 0), bl false, .c (.d (slS ps)), .c (.ptr 1 0 0), i64 (j : Int), .c (.d (.int .u32 (v : Int))), bl false, .any, bl true, bl true], [.cells zC 0 false, .cells (oC (ps.length, arrP ps j)) 0 false]⟩, ?_, _, rfl, rfl, rfl⟩
      simp only [fn69L0, R69, ob?, hlw, h1, h4, h96, lay, splice, Bool.not_false, List.take, List.drop, List.map_cons, List.map_nil, List.set_cons_zero, freeze_nil, reachV, reachC, ite_self, List.flatMap_cons, List.flatMap_nil, ↓sp_len, ↓sp_ixa, evs, Nat.reduceAdd, Nat.reduceLeDiff])
  simp only [R69, i64, bl, strV, Int.cast_ofNat_Int] at hsc h30
  rcases hsc with ⟨hno, hit⟩ | ⟨k, s', hk, hp, hno, ⟨o, hq1, hq2, hqh⟩, hit⟩
  · have hall : ∀ i, i < ps.length → arcOk (ps.getD i []) = true := fun i hi => by simpa using hno i hi
    have hwf : wfO (ps.length, arrP ps ps.length) := ⟨by simp only; omega, arrP_len ps _, arrP_lt ps _⟩
    have h97 := hX.vc (k := 97) (F := fn97) rfl (f97 hX (N := N) (by omega) hwf)
    have hdec : decide (chkO (ps.length, arrP ps ps.length) = 0) = decide ((parseO s).2 = 0) := by
      rw [decide_eq_decide]
      exact ⟨fun h => hi1.2 ⟨by omega, hall, h⟩, fun h => (hi1.1 h).2.2⟩
    rw [hdec] at h97
    have hlo := oC_len hwf
    have hdD : mapO (deepC [Ob.cells zC 0 false, .cells (oC (ps.length, arrP ps ps.length)) 0 false] deepMax) (oC (ps.length, arrP ps ps.length)) = some (oD (ps.length, arrP ps ps.length)) := mapO_d _ _ _
    have hd : List.map C.d (oD (ps.length, arrP ps ps.length)) = oC (ps.length, arrP ps ps.length) := rfl
    have hsp : splice zC 0 (oC (ps.length, arrP ps ps.length)) = oC (ps.length, arrP ps ps.length) := by
      unfold splice
      rw [List.take_zero, List.nil_append, Nat.zero_add, hlo, List.drop_of_length_le (Nat.le_refl 17), List.append_nil]
    generalize decide ((parseO s).2 = 0) = ok at *
    generalize hoo : (ps.length, arrP ps ps.length) = oo at *
    simp only [bl] at h97
    refine ⟨oo, hwrap (H := [.cells (oC oo) 0 false, .cells (oC oo) 0 false]) ?_, hwf, fun h => (hi2 h).symm⟩
    rw [hX.fn hF]
    refine (rf_fin _ _ _ _ _ _ _ _ _ (by rfl)).trans ?_
    simp only [ob?, strV, h30, hlw, c16', hwu, hlay, hlo0, hit, h97, hlo, hd, hdD, hsp, List.drop_zero, List.take_of_length_le (Nat.le_of_eq hlo), List.map_cons, List.map_nil, List.set_cons_zero, freeze_nil, reachV, reachC, ite_self, List.flatMap_cons, List.flatMap_nil, ↓sp_len, evs, Nat.reduceAdd, Nat.reduceLeDiff, Nat.reduceBEq, Nat.reduceSub]
  · have hf : decide ((parseO s).2 = 0) = false := decide_eq_false fun h => by
      have := (hi1.1 h).2.1 k hk
      rw [hp] at this; cases this
    rw [hf]
    obtain ⟨r, H⟩ := s'
    simp only at hq1 hq2 hqh
    subst hqh
    refine ⟨o0, hwrap (H := [.cells zC 0 false, o]) ?_, hzw, fun h => by
      have := (hi1.1 h).2.1 k hk
      rw [hp] at this; cases this⟩
    rw [hX.fn hF]
    refine (rf_fin _ _ _ _ _ _ _ _ _ (by rfl)).trans ?_
    simp only [ob?, strV, h30, hlw, c16', hwu, hlay, hlo0, hit, hq1, hq2, hz0, List.drop_zero, List.take, List.map_cons, List.map_nil, freeze_nil, reachV, reachC, ite_self, List.flatMap_cons, List.flatMap_nil, ↓sp_len, evs, Nat.reduceAdd, Nat.reduceBEq, Nat.reduceSub]
end Mini
end Go.Proofs.YtgjlofpfbhioaaaGreatDoor
namespace Go.Proofs.YtgjlofpfbhioaaaGreatDoor
namespace Mini
open Go
variable {m : Int} {X : Ctx}
theorem splitN_byte (c : Nat) : ∀ s : List Nat, (∀ b ∈ s, b < 256) → ∀ x ∈ splitN c s, ∀ b ∈ x, b < 256
  | [], _, x, hx, b, hb => by simp only [splitN, List.mem_singleton] at hx; subst hx; cases hb
  | y :: s, h, x, hx, b, hb => by
    have ih := splitN_byte c s (fun b hb => h b (List.mem_cons_of_mem _ hb))
    rw [splitN] at hx
    split at hx
    · rcases List.mem_cons.1 hx with rfl | hx
      · cases hb
      · exact ih x hx b hb
    · cases hsp : splitN c s with
      | nil => exact absurd hsp (splitN_neq c s)
      | cons a l =>
        rw [hsp] at hx ih
        rcases List.mem_cons.1 hx with rfl | hx
        · rcases List.mem_cons.1 hb with rfl | hb
          · exact h _ List.mem_cons_self
          · exact ih a List.mem_cons_self b hb
        · exact ih x (List.mem_cons_of_mem _ hx) b hb
end Mini
end Go.Proofs.YtgjlofpfbhioaaaGreatDoor
namespace Go.Proofs.YtgjlofpfbhioaaaGreatDoor
namespace Mini
open Go
variable {m : Int} {X : Ctx}
theorem lidx_last {c : Nat} : ∀ {s : List Nat} {k : Nat}, lidxN c s = some k → 2 ≤ (splitN c s).length ∧ (splitN c s).getD ((splitN c s).length - 1) [] = s.drop (k + 1)
  | [], _, h => by cases h
  | x :: s, k, h => by
    unfold lidxN at h
    split at h
    · rename_i k' h2
      cases h
      obtain ⟨h3, h4⟩ := lidx_last h2
      rw [List.drop_succ_cons, ← h4]
      cases hs : splitN c s with
      | nil => rw [hs] at h3; simp at h3
      | cons a l =>
        rw [hs] at h3
        cases l with
        | nil => simp at h3
        | cons b l' =>
          unfold splitN
          split
          · rw [hs]; exact ⟨by simp, by simp⟩
          · rw [hs]; exact ⟨by simp, by simp⟩
    · rename_i h2
      split at h
      · rename_i h3
        cases h
        unfold splitN
        rw [if_pos h3, lidx_none h2]
        exact ⟨by simp, by simp⟩
      · cases h
abbrev R41a (q : List (List Nat)) (st : Int) (b : List Nat) (j : Nat) : List V := [.any, .c (.ptr 0 0 0), .any, .any, .any, .c (.d (slS q)), .any, .any, i64 st, strV b, .c (.ptr 2 0 0), .any, .any, .any, .any, i64 (j : Int), .any, .any, .any, .any, .any, .any, .any, .any]
abbrev hp41a (nm : List Nat) (r : Nat) : Heap := [.cells zE 0 false, .cells zE 0 false, .cells [.d (.str nm), .d (.bool false), .d (.int .u8 (r : Int)), .d (.int .i64 0), .d .nils] 0 false]
theorem it41a (hX : XOj m X) {N : Nat} (hN : 10 ≤ N) {q : List (List Nat)} {st : Int} {b nm : List Nat} (hq : 2 < q.length) : iter (some [1, 5, 8, 9, 10, 15]) 3 (exec (zenv X N) N false fn41L0) N ⟨R41a q st b 1, hp41a nm 0⟩ =
    some (.exit 2, ⟨[.any, .c (.ptr 0 0 0), .any, .any, .any, .c (.d (slS q)), .any, .any, i64 st, strV b, .c (.ptr 2 0 0), .any, .any, .any, .any, i64 4, .any, .any, .any, .any, .any, .any, bl false, .any], hp41a nm (rvJ (q.getD 2 []) 3)⟩) := by
  have h2' := slS_at q (i := 2) hq
  have h77 := hX.vc (k := 77) (F := fn77) rfl (f77 hX (N := N) (by omega))
  have hrd : reasD = slS [reasT 0, reasT 1, reasT 2, reasT 3] := rfl
  rw [hrd] at h77
  refine iter_to (fun i => ⟨R41a q st b i, hp41a nm (rvJ (q.getD 2 []) (i - 1))⟩) (e := .exit 2) (fun h => by cases h) 3 1 N (fun j h1j hj => ?_) ?_ (by omega)
  · have hat := slS_at [reasT 0, reasT 1, reasT 2, reasT 3] (i := j) (by simp only [List.length_cons, List.length_nil]; omega)
    have hgd : [reasT 0, reasT 1, reasT 2, reasT 3].getD j [] = reasT j := by
      have : j = 1 ∨ j = 2 ∨ j = 3 := by omega
      rcases this with rfl | rfl | rfl <;> rfl
    rw [hgd] at hat
    have h4 : (j : Int) < 4 := by omega
    have h6 := wrap_succ (k := j) (by omega)
    have h7 : IntKind.u8.wrap (j : Int) = (j : Int) := wrap_u8 (by omega)
    have hrv : rvJ (q.getD 2 []) (j + 1 - 1) = if q.getD 2 [] = reasT j then j else rvJ (q.getD 2 []) (j - 1) := by
      obtain ⟨k, rfl⟩ : ∃ k, j = k + 1 := ⟨j - 1, by omega⟩
      rfl
    rw [hrv]
    generalize rvJ (q.getD 2 []) (j - 1) = rv at *
    generalize q.getD 2 [] = p at *
    generalize slS [reasT 0, reasT 1, reasT 2, reasT 3] = rs at *
    generalize List.map D.str (List.drop (j + 1) [reasT 0, reasT 1, reasT 2, reasT 3]) = rt' at *
    generalize reasT j = rt at *
    by_cases hp : p = rt
    · rw [if_pos hp]
      subst hp
      have hb : (p == p) = true := by simp
      refine ⟨⟨[.any, .c (.ptr 0 0 0), .any, .any, .any, .c (.d (slS q)), .any, .any, i64 st, strV b, .c (.ptr 2 0 0), .any, .any, .any, .any, i64 ((j + 1 : Nat) : Int), .any, .any, .any, .any, .any, .any, bl true, bl true], hp41a nm j⟩, ?_, gc_le (Nat.le_refl 3)⟩
      simp only [fn41L0, R41a, hp41a, ob?, strV, binStr, splice, h2', h77, hat, h4, h6, h7, hb, List.take, List.drop, List.map_cons, List.map_nil, List.set_cons_zero, List.set_cons_succ, freeze_nil, reachV, ite_self, List.flatMap_nil, ↓sp_ixa, evs, Nat.reduceAdd, Nat.reduceLeDiff]
    · rw [if_neg hp]
      have hb : (p == rt) = false := by rw [beqS]; exact decide_eq_false hp
      refine ⟨⟨[.any, .c (.ptr 0 0 0), .any, .any, .any, .c (.d (slS q)), .any, .any, i64 st, strV b, .c (.ptr 2 0 0), .any, .any, .any, .any, i64 ((j + 1 : Nat) : Int), .any, .any, .any, .any, .any, .any, bl true, bl false], hp41a nm rv⟩, ?_, gc_le (Nat.le_refl 3)⟩
      simp only [fn41L0, R41a, hp41a, strV, binStr, h2', h77, hat, h4, h6, hb, List.take, List.map_cons, List.map_nil, freeze_nil, reachV, ite_self, List.flatMap_nil, ↓sp_ixa, evs, Nat.reduceAdd]
  · have h4 : ¬ ((1 + 3 : Nat) : Int) < 4 := by omega
    have h5 : ((1 + 3 : Nat) : Int) = 4 := rfl
    show exec (zenv X N) N false fn41L0 ⟨R41a q st b (1 + 3), hp41a nm (rvJ (q.getD 2 []) 3)⟩ = _
    rw [h5] at h4
    generalize rvJ (q.getD 2 []) 3 = rv
    simp only [fn41L0, R41a, hp41a, h5, h4, evs, Nat.reduceAdd]
abbrev R41b (_q ps : List (List Nat)) (st : Int) (b : List Nat) (j : Nat) : List V := [.any, .c (.ptr 0 0 0), .any, .any, .any, .any, .any, .c (.ptr 1 0 0), i64 st, strV b, .c (.ptr 2 0 0), .c (.d (slS ps)), i64 (j : Int), .any, .any, .any, .any, .any, .any, .any, .any, .any, .any, .any]
def hp41b (nm : List Nat) (ps : List (List Nat)) (j : Nat) : Heap := [.cells zE 0 false, .cells zE 0 false, .cells (enK nm (.os 3 j 0 j 17 none)) 0 false, .cells (flC (osP ps j)) j false]
theorem it41b (hX : XOj m X) {N : Nat} {q ps : List (List Nat)} {st : Int} {b nm : List Nat} (hN : ps.length + 100 ≤ N) (hps : ps.length < 900000) (hl : ∀ x ∈ ps, x.length + 100 ≤ N ∧ x.length < 900000) (hbyp : ∀ x ∈ ps, ∀ c ∈ x, c < 256) :
    (itemsOk ps ∧ iter (some [1, 7, 8, 9, 10, 11, 12]) 4 (exec (zenv X N) N false fn41L1) N ⟨R41b q ps st b 0, hp41b nm ps 0⟩ = some (.exit 0, ⟨[.any, .c (.ptr 0 0 0), .any, .any, .any, .any, .any, .c (.ptr 1 0 0), i64 st, strV b, .c (.ptr 2 0 0), .c (.d (slS ps)), i64 (ps.length : Int), .any, .any, .any, .any, .any, .any, bl false, .any, .any, .any, .any], hp41b nm ps ps.length⟩)) ∨
    (¬ itemsOk ps ∧ ∃ s', iter (some [1, 7, 8, 9, 10, 11, 12]) 4 (exec (zenv X N) N false fn41L1) N ⟨R41b q ps st b 0, hp41b nm ps 0⟩ = some (.ret, s') ∧ nth s'.regs 1 = .c (.ptr 0 0 0) ∧ nth s'.regs 2 = strV [] ∧ nth s'.regs 3 = i64 0 ∧ nth s'.regs 4 = bl false ∧ ∃ t, s'.heap = .cells zE 0 false :: t) := by
  have hlp := slS_len ps
  have hmem : ∀ j, j < ps.length → ps.getD j [] ∈ ps := fun j hj => by
    rw [List.getD_eq_getElem?_getD, List.getElem?_eq_getElem hj]
    exact List.getElem_mem hj
  have hsc := iter_find (js := some [1, 7, 8, 9, 10, 11, 12]) (hl := 4) (body := exec (zenv X N) N false fn41L1) (fun j => (parseO (ps.getD j [])).2 ≠ 0) ps.length (fun i => ⟨R41b q ps st b i, hp41b nm ps i⟩) (b := 0) (s1 := ⟨[.any, .c (.ptr 0 0 0), .any, .any, .any, .any, .any, .c (.ptr 1 0 0), i64 st, strV b, .c (.ptr 2 0 0), .c (.d (slS ps)), i64 (ps.length : Int), .any, .any, .any, .any, .any, .any, bl false, .any, .any, .any, .any], hp41b nm ps ps.length⟩) (Q := fun k s' => nth s'.regs 1 = .c (.ptr 0 0 0) ∧ nth s'.regs 2 = strV [] ∧ nth s'.regs 3 = i64 0 ∧ nth s'.regs 4 = bl false ∧ ∃ t, s'.heap = .cells zE 0 false :: t) (fuel := N) (by omega)
    (by
      intro j hj hp
      have hp := Decidable.not_not.1 hp
      have h1 := slS_at ps hj
      obtain ⟨hx1, hx2⟩ := hl _ (hmem j hj)
      obtain ⟨o, h69, how, ho⟩ := f69 hX.x (N := N) (s := ps.getD j []) (by omega) hx2 (hbyp _ (hmem j hj))
      have h69 := hX.x.vc (k := 69) (F := fn69) rfl h69
      rw [decide_eq_true hp] at h69
      have ho := ho hp
      have h4 : (j : Int) < (ps.length : Int) := by omega
      have h6 := wrap_succ (k := j) (by omega)
      have hos := osP_succ ps hj
      rw [← ho] at hos
      have hlo := osP_len ps (j := j) (by omega)
      have hfl := flC_len (osP_wf ps j)
      rw [hlo] at hfl
      unfold hp41b
      rw [hos]
      have hfu := flC_u 4 (osP ps j)
      generalize osP ps j = l at *
      generalize ps.getD j [] = x at *
      have h6o := oC_len how
      have hap : flC (l ++ [o]) = flC l ++ oC o := by rw [flC_app, flC_one]
      have htk : (flC l).take (j * 17) = flC l := List.take_of_length_le (by omega)
      have hl1 := lay1 how
      have k1 : j + 1 ≤ 1073741824 := by omega
      have k2 : j + 1 < genK := by show j + 1 < 1000000; omega
      have hfo := oC_flat o
      have hod := oC_d o
      rw [hap]
      simp only [strV, bl] at h69
      refine ⟨⟨[.any, .c (.ptr 0 0 0), .any, .any, .any, .any, .any, .c (.ptr 1 0 0), i64 st, strV b, .c (.ptr 2 0 0), .c (.d (slS ps)), i64 ((j + 1 : Nat) : Int), .c (.ptr 4 0 0), bl true, .any, .any, .any, .any, bl true, bl false, .any, .any, .any], [.cells zE 0 false, .cells zE 0 false, .cells (enK nm (.os 3 (j + 1) 0 (j + 1) 17 none)) 0 false, .cells (flC l ++ oC o) (j + 1) false] ++ [.cells (oC o) 0 false, .cells (oC o) 0 false]⟩, ?_, ?_⟩
      · simp only [fn41L1, R41b, ob?, enK, strV, elems, splice, hlp, h1, h4, h6, h69, h6o, hfl, htk, hl1, k1, k2, Bool.not_true, List.take, List.drop, List.take_of_length_le (Nat.le_of_eq h6o), List.set_cons_zero, List.set_cons_succ, List.map_cons, List.map_nil, List.cons_append, List.nil_append, freeze_nil, reachV, reachC, ite_self, List.flatMap_cons, List.flatMap_nil, Nat.le_refl, Nat.one_ne_zero, ↓sp_len, ↓sp_ixa, evs, Nat.reduceAdd]
      · refine tidy_back rfl rfl rfl (Hp.cons rfl (Hp.cons rfl (Hp.cons rfl (Hp.cons ?_ Hp.nil))))
        simp only [uO, List.all_append, Bool.and_eq_true]
        refine ⟨hfu, ?_⟩
        rw [List.all_eq_true] at hod ⊢
        intro c hc
        have := hod c hc
        cases c <;> first | rfl | cases this)
    (by
      generalize hp41b nm ps ps.length = HH
      simp only [fn41L1, R41b, strV, hlp, ↓sp_len, evs])
    (by
      intro j hj hp
      have h1 := slS_at ps hj
      obtain ⟨hx1, hx2⟩ := hl _ (hmem j hj)
      obtain ⟨o, h69, how, _⟩ := f69 hX.x (N := N) (s := ps.getD j []) (by omega) hx2 (hbyp _ (hmem j hj))
      have h69 := hX.x.vc (k := 69) (F := fn69) rfl h69
      rw [decide_eq_false hp] at h69
      have h4 : (j : Int) < (ps.length : Int) := by omega
      unfold hp41b
      generalize osP ps j = l at *
      generalize ps.getD j [] = x at *
      have h6o := oC_len how
      have hfo := oC_flat o
      simp only [strV, bl] at h69
      refine ⟨⟨[.any, .c (.ptr 0 0 0), strV [], i64 0, bl false, .any, .any, .c (.ptr 1 0 0), i64 st, strV b, .c (.ptr 2 0 0), .c (.d (slS ps)), i64 (j : Int), .c (.ptr 4 0 0), bl false, .any, .any, .any, .any, bl true, bl true, .any, .any, .any], [.cells zE 0 false, .cells zE 0 false, .cells (enK nm (.os 3 j 0 j 17 none)) 0 false, .cells (flC l) j false, .cells (oC o) 0 false]⟩, ?_, rfl, rfl, rfl, rfl, _, rfl⟩
      simp only [fn41L1, R41b, ob?, zE, strV, splice, hlp, h1, h4, h69, h6o, Bool.not_false, List.take, List.drop, List.set_cons_zero, List.map_cons, List.map_nil, List.cons_append, List.nil_append, freeze_nil, reachV, reachC, ite_self, List.flatMap_cons, List.flatMap_nil, ↓sp_len, ↓sp_ixa, evs, Nat.reduceAdd, Nat.reduceLeDiff])
  rcases hsc with ⟨hno, hit⟩ | ⟨k, s', hk, hp, hno, hq, hit⟩
  · exact .inl ⟨fun j hj => Decidable.not_not.1 (hno j hj), hit⟩
  · exact .inr ⟨fun h => hp (h k hk), s', hit, hq⟩
end Mini
end Go.Proofs.YtgjlofpfbhioaaaGreatDoor
namespace Go.Proofs.YtgjlofpfbhioaaaGreatDoor
namespace Mini
open Go
variable {m : Int} {X : Ctx}
set_option maxHeartbeats 1000000 in
theorem f41 (hX : XOj m X) {N : Nat} {s : List Nat} (hN : s.length + 200 ≤ N) (hs : s.length < 800000) (hby : ∀ b ∈ s, b < 256) : ∃ (e : En) (b : List Nat) (sm : Int), vcallN X N 41 [strV s] = some (.tup [.agg (e.ds.map .d), strV b, i64 sm, bl (readE s).2.2]) ∧ ((readE s).2.2 = true → e = (readE s).1 ∧ sm = (readE s).2.1 ∧ b = s.take ((lidxN 32 s).getD 0)) := by
  obtain ⟨N, rfl⟩ : ∃ M, N = M + 1 := ⟨N - 1, by omega⟩
  have hF : fnsX 41 = some fn41' := rfl
  have h30 := hX.x.vc (k := 30) (F := fn30) rfl (f30 hX.x (N := N) (c := 32) (by omega) (by omega) hby)
  obtain ⟨hl1, hl2⟩ := splitN_len 32 s
  have hbyq := splitN_byte 32 s hby
  have hbody : ∀ k, lidxN 32 s = some k → k < s.length ∧ (splitN 32 s).getD ((splitN 32 s).length - 1) [] = s.drop (k + 1) := fun k hk => ⟨lidx_lt hk, (lidx_last hk).2⟩
  have hkx : ¬ (splitN 32 s).length < 4 → ∃ k, lidxN 32 s = some k := fun h => by
    cases hl : lidxN 32 s with
    | none => rw [lidx_none hl] at h; exact absurd (by simp) h
    | some k => exact ⟨k, rfl⟩
  unfold readE
  generalize hq : splitN 32 s = q at *
  have hlw := slS_len q
  have hze : (e0.ds.map C.d) = zE := rfl
  simp only [strV, Int.cast_ofNat_Int] at h30
  have none_out : ∀ (b : Bool), b = false → (∃ H, callN X (N + 1) (.d (.fn 41 [] [])) [strV s] [] = some (.tup [.agg zE, strV [], i64 0, bl false], H)) → ∃ (e : En) (b' : List Nat) (sm : Int), vcallN X (N + 1) 41 [strV s] = some (.tup [.agg (e.ds.map .d), strV b', i64 sm, bl b]) := by
    rintro b rfl ⟨H, h⟩
    exact ⟨e0, [], 0, vcall_of (v := .tup [.agg (e0.ds.map .d), strV [], i64 0, bl false]) h rfl⟩
  by_cases c1 : q.length < 4
  · rw [if_pos c1]
    have c1' : (q.length : Int) < 4 := by omega
    obtain ⟨e, b, sm, h⟩ := none_out false rfl (by
      refine ⟨[.cells zE 0 false, .cells zE 0 false], ?_⟩
      rw [hX.fn hF]
      refine (rf_fin _ _ _ _ _ _ _ _ _ (by rfl)).trans ?_
      simp only [zE, ob?, strV, h30, hlw, c1', lay, splice, List.take, List.drop, List.map_cons, List.map_nil, List.set_cons_zero, freeze_nil, reachV, reachC, ite_self, List.flatMap_cons, List.flatMap_nil, ↓sp_len, evs, Nat.reduceAdd, Nat.reduceLeDiff, Nat.reduceSub])
    exact ⟨e, b, sm, h, fun h => by cases h⟩
  rw [if_neg c1]
  have c1' : ¬ (q.length : Int) < 4 := by omega
  obtain ⟨k, hk⟩ := hkx c1
  obtain ⟨hk1, hk2⟩ := hbody k hk
  rw [hk, Option.getD_some]
  have h0 := slS_at q (i := 0) (by omega)
  have h1 := slS_at q (i := 1) (by omega)
  have h2 := slS_at q (i := 2) (by omega)
  have h3 := slS_at q (i := 3) (by omega)
  have hL := slS_at q (i := q.length - 1) (by omega)
  have hw1 : IntKind.i64.wrap ((q.length : Int) - 1) = ((q.length - 1 : Nat) : Int) := by
    rw [← wrap_nat (k := q.length - 1) (by omega)]
    congr 1
    omega
  have hmem : ∀ j, j < q.length → q.getD j [] ∈ q := fun j hj => by
    rw [List.getD_eq_getElem?_getD, List.getElem?_eq_getElem hj]
    exact List.getElem_mem _
  have hlen : ∀ j, j < q.length → (q.getD j []).length ≤ s.length := fun j hj => hl2 _ (hmem j hj)
  have hm2 := hlen 2 (by omega)
  have hm3 := hlen 3 (by omega)
  have hmL := hlen (q.length - 1) (by omega)
  have hsum := hX.vc (k := 76) (F := fn76) rfl (f76 hX (N := N) (s := q.getD (q.length - 1) []) (k := 5) (by omega) (by omega) (by omega) (hbyq _ (hmem _ (by omega))))
  have hat := hX.vc (k := 76) (F := fn76) rfl (f76 hX (N := N) (s := q.getD 3 []) (k := 3) (by omega) (by omega) (by omega) (hbyq _ (hmem _ (by omega))))
  simp only [strV, i64, Int.cast_ofNat_Int] at hsum hat
  have hbl : (q.getD (q.length - 1) []).length = s.length - (k + 1) := by rw [hk2, List.length_drop]
  have hw2 : IntKind.i64.wrap ((s.length : Int) - ((q.getD (q.length - 1) []).length : Int)) = ((k + 1 : Nat) : Int) := by
    rw [← wrap_nat (k := k + 1) (by omega)]
    congr 1
    omega
  have hw3 : IntKind.i64.wrap (((k + 1 : Nat) : Int) - 1) = (k : Int) := by
    rw [← wrap_nat (k := k) (by omega)]
    congr 1
    omega
  have hks : k ≤ s.length := by omega
  have an0' : asNat (.c (.d (.int .i64 0))) = some 0 := rfl
  have an3 : asNat (.c (.d (.int .i64 3))) = some 3 := rfl
  by_cases c5 : q.length = 4 ∨ q.length = 5
  case neg =>
    have c5' : (q.length : Int) > 5 := by omega
    have hfalse : ¬ (numS (q.getD (q.length - 1) []) 5 < 0) → ¬ (q.getD 1 [] = accW ∧ q.length = 4) ∧ ¬ (q.getD 1 [] = rejW ∧ q.length = 5) := fun _ => ⟨fun h => c5 (.inl h.2), fun h => c5 (.inr h.2)⟩
    obtain ⟨e, b, sm, h⟩ := none_out false rfl (by
      refine ⟨[.cells zE 0 false, .cells zE 0 false], ?_⟩
      rw [hX.fn hF]
      refine (rf_fin _ _ _ _ _ _ _ _ _ (by rfl)).trans ?_
      simp only [zE, ob?, strV, h30, hlw, c1', c5', lay, splice, List.take, List.drop, List.map_cons, List.map_nil, List.set_cons_zero, freeze_nil, reachV, reachC, ite_self, List.flatMap_cons, List.flatMap_nil, ↓sp_len, evs, Nat.reduceAdd, Nat.reduceLeDiff, Nat.reduceSub])
    by_cases c2 : numS (q.getD (q.length - 1) []) 5 < 0
    · rw [if_pos c2]
      exact ⟨e, b, sm, h, fun h => by cases h⟩
    · rw [if_neg c2, if_neg (hfalse c2).1, if_neg (hfalse c2).2]
      exact ⟨e, b, sm, h, fun h => by cases h⟩
  have c5' : ¬ (q.length : Int) > 5 := by omega
  have gacc : ∀ t : List Nat, (t == accW) = decide (t = accW) := fun t => beqS _ _
  have grej : ∀ t : List Nat, (t == rejW) = decide (t = rejW) := fun t => beqS _ _
  simp only [accW, rejW] at gacc grej
  by_cases c2 : numS (q.getD (q.length - 1) []) 5 < 0
  · rw [if_pos c2]
    have c2' : ¬ numS (q.getD (q.length - 1) []) 5 ≥ 0 := by omega
    obtain ⟨e, b, sm, h⟩ := none_out false rfl (by
      refine ⟨[.cells zE 0 false, .cells zE 0 false, .cells [.d (.str (q.getD 0 [])), .d (.bool false), .d (.int .u8 0), .d (.int .i64 0), .d .nils] 0 false], ?_⟩
      rw [hX.fn hF]
      refine (rf_fin _ _ _ _ _ _ _ _ _ (by rfl)).trans ?_
      generalize numS (q.getD (q.length - 1) []) 5 = st at *
      simp only [zE, ob?, strV, optNat, h30, hlw, c1', c5', c2', h0, hL, hw1, hw2, hw3, hks, hsum, lay, splice, Option.map_none, Option.map_some, List.take, List.drop, List.map_cons, List.map_nil, List.set_cons_zero, freeze_nil, reachV, reachC, ite_self, List.flatMap_cons, List.flatMap_nil, Nat.zero_le, ↓sp_len, ↓sp_ixa, evs, Nat.reduceAdd, Nat.reduceLeDiff, Nat.reduceSub])
    exact ⟨e, b, sm, h, fun h => by cases h⟩
  rw [if_neg c2]
  have c2' : numS (q.getD (q.length - 1) []) 5 ≥ 0 := by omega
  generalize hst : numS (q.getD (q.length - 1) []) 5 = st at *
  generalize hx3 : numS (q.getD 3 []) 3 = x3 at *
  rcases c5 with hn | hn
  · have hsl : q.length - 1 = 3 := by omega
    rw [hsl] at hL hw1 hsum hw2 hk2 hbl hst
    rw [hn] at hlw hw1 c1' c5'
    have g4 : ((4 : Int) == 4) = true := rfl
    have g5 : ((4 : Int) == 5) = false := rfl
    have g14 : ¬ (4 : Int) < 4 := by omega
    have g15 : ¬ (4 : Int) > 5 := by omega
    have gw : IntKind.i64.wrap (4 - 1) = 3 := rfl
    by_cases c3 : q.getD 1 [] = accW
    · rw [if_pos ⟨c3, hn⟩]
      rw [c3] at h1
      have gs : (accW == accW) = true := by simp
      have ht := hbyq _ (hmem 2 (by omega))
      have h44 := hX.x.vc (k := 30) (F := fn30) rfl (f30 hX.x (N := N) (s := q.getD 2 []) (c := 44) (by omega) (by omega) ht)
      obtain ⟨hp1, hp2⟩ := splitN_len 44 (q.getD 2 [])
      have hbyp := splitN_byte 44 _ ht
      simp only [strV, Int.cast_ofNat_Int] at h44
      simp only [accW] at h1 gs
      by_cases c4 : q.getD 2 [] = [45]
      · rw [if_pos c4]
        rw [c4] at h2
        have gd : (([45] : List Nat) == [45]) = true := by simp
        generalize q.getD 0 [] = q0 at *
        refine ⟨⟨q0, true, 0, 0, .nils, []⟩, s.take k, st, vcall_of (r := .tup [.agg [.d (.str q0), .d (.bool true), .d (.int .u8 0), .d (.int .i64 0), .d .nils], strV (s.take k), i64 st, bl true]) (H := [.cells [.d (.str q0), .d (.bool true), .d (.int .u8 0), .d (.int .i64 0), .d .nils] 0 false, .cells zE 0 false, .cells [.d (.str q0), .d (.bool true), .d (.int .u8 0), .d (.int .i64 0), .d .nils] 0 false]) ?_ rfl, fun _ => ⟨rfl, hst.symm, rfl⟩⟩
        rw [hX.fn hF]
        refine (rf_fin _ _ _ _ _ _ _ _ _ (by rfl)).trans ?_
        simp only [zE, ob?, strV, binStr, optNat, h30, hlw, g14, g15, c2', h0, h1, h2, hL, hw2, hw3, hks, gw, gs, gd, g4, an3, hsum, Int.cast_ofNat_Int, lay, splice, Option.map_none, Option.map_some, List.take, List.drop, List.map_cons, List.map_nil, List.set_cons_zero, List.set_cons_succ, freeze_nil, reachV, reachC, ite_self, List.flatMap_cons, List.flatMap_nil, Nat.zero_le, ↓sp_len, ↓sp_ixa, evs, Nat.reduceAdd, Nat.reduceLeDiff, Nat.reduceSub]
      rw [if_neg c4]
      have gd : (q.getD 2 [] == [45]) = false := by rw [beqS]; exact decide_eq_false c4
      have hio2 : itemsOk (splitN 44 (q.getD 2 [])) ↔ itemsOk (splitN 44 (q.getD 2 [])) := Iff.rfl
      unfold osJ
      generalize q.getD 2 [] = tt at *
      generalize splitN 44 tt = ps at *
      have hit := it41b hX (N := N) (q := q) (ps := ps) (st := st) (b := s.take k) (nm := q.getD 0 []) (by omega) (by omega) (fun x hx => ⟨by have := hp2 x hx; omega, by have := hp2 x hx; omega⟩) hbyp
      have hfr : exec (zenv X N) N false (.fresh 10 (some 4) 17) ⟨[strV s, .c (.ptr 0 0 0), strV [], i64 0, bl false, .c (.d (slS q)), i64 4, .c (.ptr 1 0 0), i64 st, strV (s.take k), .c (.ptr 2 0 0), .c (.d (slS ps)), i64 0, .any, .any, .any, bl false, bl true, bl false, .any, .any, .any, .any, .any], [.cells zE 0 false, .cells zE 0 false, .cells (enK (q.getD 0 []) (.d .nils)) 0 false]⟩ = some (.nrm, ⟨[strV s, .c (.ptr 0 0 0), strV [], i64 0, bl false, .c (.d (slS q)), i64 4, .c (.ptr 1 0 0), i64 st, strV (s.take k), .c (.ptr 2 0 0), .c (.d (slS ps)), i64 0, .any, .any, .any, bl false, bl true, bl false, .any, .any, .any, .any, .any], hp41b (q.getD 0 []) ps 0⟩) := rfl
      have hh0 : (hp41b (q.getD 0 []) ps 0).length = 4 := rfl
      rcases hit with ⟨hio, hit⟩ | ⟨hio, s', hit, q1, q2, q3, q4, t, q5⟩
      · rw [if_pos hio]
        have hwf := osP_wf ps ps.length
        have hol := osP_len ps (Nat.le_refl _)
        have hfl := flC_len hwf
        rw [hol] at hfl
        have hdp : ∀ x0 x1 x2 : Ob, deepC [x0, x1, x2, .cells (flC (osP ps ps.length)) ps.length false] deepMax (.os 3 ps.length 0 ps.length 17 none) = some (slO (osP ps ps.length)) := by
          intro x0 x1 x2
          have p2 : ((flC (osP ps ps.length)).drop 0).take (ps.length * 17) = ((osP ps ps.length).flatMap oD).map .d := by
            rw [List.drop_zero, List.take_of_length_le (by omega)]; rfl
          have p1 : 0 + ps.length * 17 ≤ (flC (osP ps ps.length)).length := by omega
          simp only [deepMax, deepC, ob?, if_true, if_pos p1, p2, mapO_d, Option.map_some]
          rw [slO, hol]
        unfold hp41b at hit hfr hh0
        generalize osP ps ps.length = os at *
        generalize osP ps 0 = os0 at *
        generalize q.getD 0 [] = q0 at *
        refine ⟨⟨q0, true, 0, 0, slO os, os⟩, s.take k, st, vcall_of (v := .tup [.agg (enK q0 (.d (slO os))), strV (s.take k), i64 st, bl true]) (r := .tup [.agg (enK q0 (.os 3 ps.length 0 ps.length 17 none)), strV (s.take k), i64 st, bl true]) (H := [.cells (enK q0 (.os 3 ps.length 0 ps.length 17 none)) 0 false, .cells zE 0 false, .cells (enK q0 (.os 3 ps.length 0 ps.length 17 none)) 0 false, .cells (flC os) ps.length false]) ?_ ?_, fun _ => ⟨rfl, hst.symm, rfl⟩⟩
        · rw [hX.fn hF]
          refine (rf_fin _ _ _ _ _ _ _ _ _ (by rfl)).trans ?_
          simp only [strV, bl, i64, enK, R41b, zE, Int.natCast_zero] at hfr hit
          simp only [enK, zE, ob?, strV, binStr, optNat, h30, h44, hlw, g14, g15, c2', h0, h1, h2, hL, hw2, hw3, hks, gw, gs, gd, g4, an3, hsum, hfr, hit, Int.cast_ofNat_Int, lay, splice, Option.map_none, Option.map_some, List.take, List.drop, List.map_cons, List.map_nil, List.set_cons_zero, List.set_cons_succ, freeze_nil, reachV, reachC, ite_self, List.flatMap_cons, List.flatMap_nil, Nat.zero_le, ↓sp_len, ↓sp_ixa, evs, Nat.reduceAdd, Nat.reduceLeDiff, Nat.reduceBEq, Nat.reduceSub]
        · simp only [enK, deepV, mapO, deepV1, hdp, bl, i64, strV]
          rfl
      · rw [if_neg hio]
        obtain ⟨r, HH⟩ := s'
        simp only at q1 q2 q3 q4 q5
        subst q5
        obtain ⟨e, b, sm, h⟩ := none_out false rfl (by
          refine ⟨.cells zE 0 false :: t, ?_⟩
          rw [hX.fn hF]
          refine (rf_fin _ _ _ _ _ _ _ _ _ (by rfl)).trans ?_
          generalize hp41b (q.getD 0 []) ps 0 = H0 at *
          generalize q.getD 0 [] = q0 at *
          simp only [strV, bl, i64, enK, R41b, zE, Int.natCast_zero] at hfr hit q2 q3 q4
          simp only [zE, ob?, strV, binStr, optNat, h30, h44, hlw, g14, g15, c2', h0, h1, h2, hL, hw2, hw3, hks, gw, gs, gd, g4, an3, hsum, hfr, hh0, hit, q1, q2, q3, q4, Int.cast_ofNat_Int, lay, splice, Option.map_none, Option.map_some, List.take, List.drop, List.map_cons, List.map_nil, List.set_cons_zero, List.set_cons_succ, freeze_nil, reachV, reachC, ite_self, List.flatMap_cons, List.flatMap_nil, Nat.zero_le, ↓sp_len, ↓sp_ixa, evs, Nat.reduceAdd, Nat.reduceLeDiff, Nat.reduceBEq, Nat.reduceSub])
        exact ⟨e, b, sm, h, fun h => by cases h⟩
    · rw [if_neg (fun h => c3 h.1), if_neg (fun h => by omega)]
      have gs := (gacc (q.getD 1 [])).trans (decide_eq_false c3)
      obtain ⟨e, b, sm, h⟩ := none_out false rfl (by
        refine ⟨[.cells zE 0 false, .cells zE 0 false, .cells [.d (.str (q.getD 0 [])), .d (.bool false), .d (.int .u8 0), .d (.int .i64 0), .d .nils] 0 false], ?_⟩
        rw [hX.fn hF]
        refine (rf_fin _ _ _ _ _ _ _ _ _ (by rfl)).trans ?_
        generalize q.getD 0 [] = q0 at *
        simp only [zE, ob?, strV, binStr, optNat, h30, hlw, g14, g15, c2', h0, h1, hL, hw2, hw3, hks, gw, gs, g4, g5, an3, hsum, Int.cast_ofNat_Int, lay, splice, Option.map_none, Option.map_some, List.take, List.drop, List.map_cons, List.map_nil, List.set_cons_zero, freeze_nil, reachV, reachC, ite_self, List.flatMap_cons, List.flatMap_nil, Nat.zero_le, ↓sp_len, ↓sp_ixa, evs, Nat.reduceAdd, Nat.reduceLeDiff, Nat.reduceSub])
      exact ⟨e, b, sm, h, fun h => by cases h⟩
  · have hsl : q.length - 1 = 4 := by omega
    rw [hsl] at hL hw1 hsum hw2 hk2 hbl hst
    rw [hn] at hlw hw1 c1' c5'
    have g4 : ((5 : Int) == 4) = false := rfl
    have g5 : ((5 : Int) == 5) = true := rfl
    have g14 : ¬ (5 : Int) < 4 := by omega
    have g15 : ¬ (5 : Int) > 5 := by omega
    have gw : IntKind.i64.wrap (5 - 1) = 4 := rfl
    have an4 : asNat (.c (.d (.int .i64 4))) = some 4 := rfl
    rw [if_neg (fun h => by omega)]
    by_cases c3 : q.getD 1 [] = rejW
    · rw [if_pos ⟨c3, hn⟩]
      rw [c3] at h1
      have gs : (rejW == rejW) = true := by simp
      have hit := it41a hX (N := N) (by omega) (q := q) (st := st) (b := s.take k) (nm := q.getD 0 []) (by omega)
      have hrl := rvJ_le (q.getD 2 []) 3
      generalize rvJ (q.getD 2 []) 3 = rv at *
      generalize q.getD 0 [] = q0 at *
      have p1 : apart (.c (.ptr 2 0 3)) (.c (.ptr 0 0 0)) = true := rfl
      have p0 : apart (.tup []) (.c (.ptr 0 0 0)) = true := rfl
      have grv : ((rv : Int) != 0) = decide (rv ≠ 0) := by
        by_cases h : rv = 0
        · subst h; rfl
        · rw [decide_eq_true h, bne_iff_ne]; omega
      simp only [rejW] at h1 gs
      simp only [R41a, hp41a, strV, i64, zE, Int.natCast_zero, Int.natCast_one] at hit
      have hres : ∃ H, callN X (N + 1) (.d (.fn 41 [] [])) [strV s] [] = some (.tup [.agg [.d (.str q0), .d (.bool false), .d (.int .u8 (rv : Int)), .d (.int .i64 x3), .d .nils], strV (s.take k), i64 st, bl (decide (rv ≠ 0) && decide (0 ≤ x3))], H) := by
        refine ⟨[.cells [.d (.str q0), .d (.bool false), .d (.int .u8 (rv : Int)), .d (.int .i64 x3), .d .nils] 0 false, .cells zE 0 false, .cells [.d (.str q0), .d (.bool false), .d (.int .u8 (rv : Int)), .d (.int .i64 x3), .d .nils] 0 false], ?_⟩
        rw [hX.fn hF]
        refine (rf_fin _ _ _ _ _ _ _ _ _ (by rfl)).trans ?_
        by_cases hr0 : rv = 0
        · rw [decide_eq_false (by simpa using hr0)] at grv ⊢
          simp only [zE, ob?, strV, binStr, optNat, rg_ap, p0, grv, h30, hlw, g14, g15, c2', h0, h1, h3, hL, hw2, hw3, hks, gw, gs, g4, g5, an3, an4, hsum, hat, hit, Int.cast_ofNat_Int, lay, splice, Option.map_none, Option.map_some, List.take, List.drop, List.map_cons, List.map_nil, List.set_cons_zero, List.set_cons_succ, freeze_nil, reachV, reachC, ite_self, List.flatMap_cons, List.flatMap_nil, Nat.zero_le, Bool.false_and, ↓sp_len, ↓sp_ixa, evs, Nat.reduceAdd, Nat.reduceLeDiff, Nat.reduceBEq, Nat.reduceSub]
        · rw [decide_eq_true hr0] at grv ⊢
          have gx : decide (x3 ≥ 0) = decide (0 ≤ x3) := rfl
          simp only [zE, ob?, strV, binStr, optNat, rg_ap, p1, grv, gx, h30, hlw, g14, g15, c2', h0, h1, h3, hL, hw2, hw3, hks, gw, gs, g4, g5, an3, an4, hsum, hat, hit, Int.cast_ofNat_Int, lay, splice, Option.map_none, Option.map_some, List.take, List.drop, List.map_cons, List.map_nil, List.set_cons_zero, List.set_cons_succ, freeze_nil, reachV, reachC, ite_self, List.flatMap_cons, List.flatMap_nil, Nat.zero_le, Bool.true_and, ↓sp_len, ↓sp_ixa, evs, Nat.reduceAdd, Nat.reduceLeDiff, Nat.reduceBEq, Nat.reduceSub]
      obtain ⟨H, hres⟩ := hres
      have hres := vcall_of (v := .tup [.agg [.d (.str q0), .d (.bool false), .d (.int .u8 (rv : Int)), .d (.int .i64 x3), .d .nils], strV (s.take k), i64 st, bl (decide (rv ≠ 0) && decide (0 ≤ x3))]) hres rfl
      by_cases c6 : rv = 0 ∨ x3 < 0
      · rw [if_pos c6]
        have : (decide (rv ≠ 0) && decide (0 ≤ x3)) = false := by
          rw [Bool.and_eq_false_iff, decide_eq_false_iff_not, decide_eq_false_iff_not]
          omega
        rw [this] at hres
        exact ⟨⟨q0, false, rv, x3, .nils, []⟩, _, _, hres, fun h => by cases h⟩
      · rw [if_neg c6]
        have : (decide (rv ≠ 0) && decide (0 ≤ x3)) = true := by
          rw [Bool.and_eq_true, decide_eq_true_eq, decide_eq_true_eq]
          omega
        rw [this] at hres
        refine ⟨⟨q0, false, rv, x3, .nils, []⟩, _, _, hres, fun _ => ⟨rfl, ?_, rfl⟩⟩
        exact hst.symm
    · rw [if_neg (fun h => c3 h.1)]
      have gs := (grej (q.getD 1 [])).trans (decide_eq_false c3)
      obtain ⟨e, b, sm, h⟩ := none_out false rfl (by
        refine ⟨[.cells zE 0 false, .cells zE 0 false, .cells [.d (.str (q.getD 0 [])), .d (.bool false), .d (.int .u8 0), .d (.int .i64 0), .d .nils] 0 false], ?_⟩
        rw [hX.fn hF]
        refine (rf_fin _ _ _ _ _ _ _ _ _ (by rfl)).trans ?_
        generalize q.getD 0 [] = q0 at *
        simp only [zE, ob?, strV, binStr, optNat, h30, hlw, g14, g15, c2', h0, h1, hL, hw2, hw3, hks, gw, gs, g4, g5, an4, hsum, Int.cast_ofNat_Int, lay, splice, Option.map_none, Option.map_some, List.take, List.drop, List.map_cons, List.map_nil, List.set_cons_zero, freeze_nil, reachV, reachC, ite_self, List.flatMap_cons, List.flatMap_nil, Nat.zero_le, ↓sp_len, ↓sp_ixa, evs, Nat.reduceAdd, Nat.reduceLeDiff, Nat.reduceSub])
      exact ⟨e, b, sm, h, fun h => by cases h⟩
end Mini
end Go.Proofs.YtgjlofpfbhioaaaGreatDoor
namespace Go.Proofs.YtgjlofpfbhioaaaGreatDoor
namespace Mini
open Go
variable {m : Int} {X : Ctx}
theorem line_small {e : En} (hc : e.chk = 0) (h7 : e.l.length ≤ 7) (a : Nat) : (lineE a e).length ≤ 2700 := by
  obtain ⟨p1, p2, p3⟩ := chkE_parts hc
  have k1 := nameB_ok p1
  have k4 := setT_len e.l (fun o ho => (chkO_n (chkS_ok p3 o ho)).2)
  have hrl := reasT_len e.r
  have hdl := (decF_len 20 e.t.toNat).1
  have hdl2 := (decF_len 20 (sumN a e.body)).1
  have l1 : wRej.length = 10 := rfl
  have l2 : wAcc.length = 10 := rfl
  have hb : e.body.length ≤ 2600 := by
    unfold En.body bodyE
    split
    · simp only [List.length_append, List.length_cons, List.length_nil, decN]; omega
    split
    · simp only [List.length_append, List.length_cons, List.length_nil]; omega
    · simp only [List.length_append]; omega
  simp only [lineE, List.length_append, List.length_cons, List.length_nil, decN]; omega
theorem text_small : ∀ {l : List En} (a : Nat), (∀ e ∈ l, e.chk = 0) → (∀ e ∈ l, e.l.length ≤ 7) → (textJ a l).length ≤ 2700 * l.length
  | [], _, _, _ => Nat.le_refl _
  | e :: l, a, h, h7 => by
    have h1 := line_small (h e List.mem_cons_self) (h7 e List.mem_cons_self) a
    have h2 := text_small (l := l) (sumN a e.body) (fun x hx => h x (List.mem_cons_of_mem _ hx)) (fun x hx => h7 x (List.mem_cons_of_mem _ hx))
    rw [textJ, List.length_append, List.length_cons]
    omega
theorem textJ_byte : ∀ {l : List En} (a : Nat), (∀ e ∈ l, e.chk = 0) → ∀ c ∈ textJ a l, c < 256
  | [], _, _, c, hc => by cases hc
  | e :: l, a, h, c, hc => by
    rw [textJ, List.mem_append] at hc
    rcases hc with hc | hc
    · simp only [lineE, List.mem_append, List.mem_cons, List.not_mem_nil, or_false] at hc
      rcases hc with ((hc | hc) | hc) | hc
      · exact (body_ok (h e List.mem_cons_self)).1 c hc
      · omega
      · exact decF_byte 20 _ c hc
      · omega
    · exact textJ_byte _ (fun x hx => h x (List.mem_cons_of_mem _ hx)) c hc
end Mini
end Go.Proofs.YtgjlofpfbhioaaaGreatDoor
namespace Go.Proofs.YtgjlofpfbhioaaaGreatDoor
namespace Mini
open Go
variable {m : Int} {X : Ctx}
def errP (la : Nat) (x : List Nat) : Nat := if (readE x).2.2 = false then 6 else if (readE x).1.chk ≠ 0 then (readE x).1.chk else if ((sumL la x : Nat) : Int) ≠ (readE x).2.1 then 24 else 0
end Mini
end Go.Proofs.YtgjlofpfbhioaaaGreatDoor
namespace Go.Proofs.YtgjlofpfbhioaaaGreatDoor
namespace Mini
open Go
variable {m : Int} {X : Ctx}
theorem parseJ_errP {f : Nat} {l : List En} {u la : Nat} {s : List Nat} {i : Nat} (hi : idxN 10 s = some i) (hl : l.length ≠ 4096) : parseJ (f + 1) l u la s = if errP la (s.take i) = 0 then parseJ f (l ++ [newE (readE (s.take i)).1]) (u + i + 1) (sumL la (s.take i)) (s.drop (i + 1)) else (l, u, la, errP la (s.take i)) := by
  rw [parseJ, hi]
  simp only
  rw [if_neg hl]
  unfold errP
  split
  · rw [if_neg (by simp)]
  split
  · rfl
  split
  · rw [if_neg (by simp)]
  · rw [if_pos rfl]
end Mini
end Go.Proofs.YtgjlofpfbhioaaaGreatDoor
namespace Go.Proofs.YtgjlofpfbhioaaaGreatDoor
namespace Mini
open Go
theorem decF_numN : ∀ (n f : Nat) (s : List Nat), s.length = n → s ≠ [] → s.all isDig = true → s.getD 0 0 ≠ 48 → n ≤ f + 1 → decF f (numN 0 s) = s
  | 0, _, s, hn, h, _, _, _ => absurd (List.length_eq_zero_iff.1 hn) h
  | n + 1, f, s, hn, hne, hd, hh, hf => by
    obtain ⟨p, b, rfl⟩ : ∃ p b, s = p ++ [b] := ⟨s.dropLast, s.getLast hne, (List.dropLast_concat_getLast hne).symm⟩
    rw [List.length_append] at hn
    simp only [List.length_cons, List.length_nil] at hn
    rw [List.all_append, Bool.and_eq_true] at hd
    have hb : 48 ≤ b ∧ b ≤ 57 := isDig_rng (by simpa using hd.2)
    rw [numN_snoc]
    by_cases hp : p = []
    · subst hp
      have hnum : numN 0 [] = 0 := rfl
      rw [hnum]
      cases f with
      | zero =>
        simp only [decF, List.nil_append]
        congr 1; omega
      | succ f =>
        rw [decF, if_pos (by omega)]
        simp only [List.nil_append]
        congr 1; omega
    · have hh' : p.getD 0 0 ≠ 48 := by
        cases p with
        | nil => exact absurd rfl hp
        | cons y t => simpa using hh
      have hge : 1 ≤ numN 0 p := by
        cases p with
        | nil => exact absurd rfl hp
        | cons y t =>
          have hy : 48 ≤ y ∧ y ≤ 57 := by
            have := hd.1
            rw [List.all_cons, Bool.and_eq_true] at this
            exact isDig_rng this.1
          have hy2 : y ≠ 48 := by simpa using hh'
          have := numN_geh (b := y) (s := t) (by omega)
          have h1 : 0 < 10 ^ t.length := Nat.pow_pos (by omega)
          omega
      have hpl : 0 < p.length := by
        rcases Nat.eq_zero_or_pos p.length with h | h
        · exact absurd (List.length_eq_zero_iff.1 h) hp
        · exact h
      obtain ⟨f, rfl⟩ : ∃ g, f = g + 1 := ⟨f - 1, by omega⟩
      have ih := decF_numN n f p (by omega) hp hd.1 hh' (by omega)
      rw [decF, if_neg (by omega), show (10 * numN 0 p + (b - 48)) / 10 = numN 0 p by omega, ih, show 48 + (10 * numN 0 p + (b - 48)) % 10 = b by omega]
theorem decN_numN {s : List Nat} (h : arcOk s = true) : decN (numN 0 s) = s := by
  have hb := (arc_dec s).1 h
  simp only [arcOk, Bool.and_eq_true, Bool.not_eq_true', decide_eq_false_iff_not, decide_eq_true_eq] at h
  have hoff := h.1.1
  unfold arcOff at hoff
  rw [not_or, not_or] at hoff
  have h1 := hb.1
  simp only [decB, Bool.or_eq_true, Bool.and_eq_true, decide_eq_true_eq] at h1
  rcases h1 with rfl | ⟨⟨h1, h2⟩, h3⟩
  · rfl
  · exact decF_numN s.length 20 s rfl h1 h3 h2 (by omega)
end Mini
end Go.Proofs.YtgjlofpfbhioaaaGreatDoor
