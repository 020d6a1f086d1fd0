/-
  JournalsChanged: texts of the proof, part 18.
-/
import Derived.Test.YtgjlofpfbhioaaaGreatDoorJX16
import Derived.KernelRfl
namespace Go.Proofs.YtgjlofpfbhioaaaGreatDoor
namespace Mini
open Go
theorem isDig_of {n : Nat} (h : n < 10) : isDig (48 + n) = true := by
  simp only [isDig, Bool.and_eq_true, Nat.ble_eq]; omega
theorem decF_dig : ∀ f n, ∀ b ∈ decF f n, isDig b = true
  | 0, n, b, h => by
    simp only [decF, List.mem_singleton] at h
    subst h; exact isDig_of (by omega)
  | f + 1, n, b, h => by
    unfold decF at h
    split at h
    · rename_i hn
      rw [List.mem_singleton] at h
      subst h; exact isDig_of hn
    · rw [List.mem_append, List.mem_singleton] at h
      rcases h with h | h
      · exact decF_dig f _ b h
      · subst h; exact isDig_of (by omega)
theorem numN_decF : ∀ f n, n < 10 ^ (f + 1) → numN 0 (decF f n) = n
  | 0, n, h => by
    have : n < 10 := by simpa using h
    simp only [decF, numN, List.foldl_cons, List.foldl_nil]
    omega
  | f + 1, n, h => by
    unfold decF
    split
    · rename_i hn
      simp only [numN, List.foldl_cons, List.foldl_nil]
      omega
    · rw [numN_snoc, numN_decF f (n / 10) (by rw [Nat.pow_succ] at h; omega)]
      omega
theorem decF_head : ∀ f n, 0 < n → n < 10 ^ (f + 1) → (decF f n).getD 0 0 ≠ 48
  | 0, n, h0, h => by
    have : n < 10 := by simpa using h
    simp only [decF, List.getD_cons_zero]
    omega
  | f + 1, n, h0, h => by
    unfold decF
    split
    · simp only [List.getD_cons_zero]; omega
    · have ih := decF_head f (n / 10) (by omega) (by rw [Nat.pow_succ] at h; omega)
      have hne := (decF_len f (n / 10)).2
      cases hd : decF f (n / 10) with
      | nil => rw [hd] at hne; exact absurd hne (by simp)
      | cons x t =>
        rw [hd] at ih
        simpa using ih
theorem decN_num {n : Nat} (h : n < 4294967296) : numN 0 (decN n) = n := numN_decF 20 n (Nat.lt_of_lt_of_le h (by decide))
theorem decN_dec {n : Nat} (h : n < 4294967296) : decB (decN n) = true := by
  have hd : (decN n).all isDig = true := List.all_eq_true.2 (decF_dig 20 n)
  rcases Nat.eq_zero_or_pos n with rfl | hp
  · decide
  · have h1 := decF_head 20 n hp (Nat.lt_of_lt_of_le h (by decide))
    have h2 : decN n ≠ [] := fun he => by
      have := (decF_len 20 n).2
      change 0 < (decN n).length at this
      rw [he] at this; exact absurd this (by simp)
    unfold decB
    rw [decide_eq_true h2, decide_eq_true (show (decN n).getD 0 0 ≠ 48 from h1), hd]
    simp
theorem splitN_word {c : Nat} : ∀ {x : List Nat}, c ∉ x → splitN c x = [x]
  | [], _ => rfl
  | y :: x, h => by
    rw [List.mem_cons, not_or] at h
    rw [splitN, if_neg (fun he => h.1 he.symm), splitN_word h.2]
theorem splitN_cons {c : Nat} (rest : List Nat) : ∀ {x : List Nat}, c ∉ x → splitN c (x ++ c :: rest) = x :: splitN c rest
  | [], _ => by rw [List.nil_append, splitN, if_pos rfl]
  | y :: x, h => by
    rw [List.mem_cons, not_or] at h
    rw [List.cons_append, splitN, if_neg (fun he => h.1 he.symm), splitN_cons rest h.2]
theorem splitN_join {c : Nat} : ∀ {l : List (List Nat)}, l ≠ [] → (∀ x ∈ l, c ∉ x) → splitN c (joinN [c] l) = l
  | [], h, _ => absurd rfl h
  | [x], _, h => by rw [joinN]; exact splitN_word (h x (by simp))
  | x :: y :: l, _, h => by
    rw [joinN, List.append_assoc, List.singleton_append, splitN_cons _ (h x (by simp)), splitN_join (by simp) (fun z hz => h z (List.mem_cons_of_mem _ hz))]
theorem textO_char (o : Oid) : ∀ c ∈ textO o, isDig c = true ∨ c = 46 := fun c hc => by
  rcases joinN_mem [46] hc with h | ⟨x, h1, h2⟩
  · rw [List.mem_singleton] at h; exact .inr h
  · obtain ⟨n, _, rfl⟩ := List.mem_map.1 h1
    exact .inl (decF_dig 20 n c h2)
theorem isDig_rng {c : Nat} (h : isDig c = true) : 48 ≤ c ∧ c ≤ 57 := by
  simpa [isDig, Nat.ble_eq] using h
theorem arrP_eq (ps : List (List Nat)) : ∀ j, j ≤ 16 → j ≤ ps.length → arrP ps j = (ps.take j).map valP ++ List.replicate (16 - j) 0
  | 0, _, _ => by simp [arrP]
  | j + 1, h1, h2 => by
    have ih := arrP_eq ps j (by omega) (by omega)
    have hx : ps[j]? = some (ps.getD j []) := by rw [List.getD_eq_getElem?_getD, List.getElem?_eq_getElem (by omega)]; rfl
    have hl : ((ps.take j).map valP).length = j := by simp; omega
    rw [arrP, if_pos (by omega), ih, List.take_add_one, hx, Option.toList_some, List.map_append, List.set_append_right _ _ (by omega), hl, Nat.sub_self, show 16 - j = (16 - (j + 1)) + 1 by omega, List.replicate_succ, List.set_cons_zero]
    simp
theorem largeP_no (ps : List (List Nat)) (h : ∀ x ∈ ps, numN 0 x ≤ 4294967295) : ∀ j, largeP ps j = false
  | 0 => rfl
  | j + 1 => by
    rw [largeP, largeP_no ps h j, Bool.false_or, decide_eq_false_iff_not]
    rw [List.getD_eq_getElem?_getD]
    cases hx : ps[j]? with
    | none => simp [numN]
    | some x =>
      have := h x (List.mem_of_getElem? hx)
      simp only [Option.getD_some]
      omega
theorem chkO_tail {o : Oid} (h : chkO o = 0) : (o.2.drop o.1).all (· == 0) = true := by
  unfold chkO at h
  split at h
  · cases h
  split at h
  · cases h
  split at h
  · assumption
  · cases h
theorem parse_text {o : Oid} (hw : wfO o) (hc : chkO o = 0) : parseO (textO o) = (o, 0) := by
  have hn := chkO_n hc
  have hal := arcsO_len hw
  rw [Nat.min_eq_left hn.2] at hal
  have hlt : ∀ x ∈ arcsO o, x < 4294967296 := fun x hx => hw.2.2 x (List.mem_of_mem_take hx)
  have hsp : splitN 46 (textO o) = (arcsO o).map decN := by
    refine splitN_join (fun he => ?_) (fun x hx => ?_)
    · have := congrArg List.length he
      rw [List.length_map, hal] at this
      simp only [List.length_nil] at this
      omega
    · obtain ⟨n, _, rfl⟩ := List.mem_map.1 hx
      intro h
      have := isDig_rng (decF_dig 20 n 46 h)
      omega
  have hpl : ((arcsO o).map decN).length = o.1 := by rw [List.length_map, hal]
  have h1 : ((arcsO o).map decN).all decB = true := List.all_eq_true.2 fun x hx => by
    obtain ⟨n, hn, rfl⟩ := List.mem_map.1 hx
    exact decN_dec (hlt n hn)
  have h2 : ∀ x ∈ (arcsO o).map decN, numN 0 x ≤ 4294967295 := fun x hx => by
    obtain ⟨n, hn, rfl⟩ := List.mem_map.1 hx
    rw [decN_num (hlt n hn)]
    have := hlt n hn
    omega
  have h3 : arrP ((arcsO o).map decN) o.1 = o.2 := by
    rw [arrP_eq _ _ hn.2 (by omega), List.take_of_length_le (by omega), List.map_map]
    have e1 : (arcsO o).map (valP ∘ decN) = arcsO o := by
      conv => rhs; rw [← List.map_id (arcsO o)]
      refine List.map_congr_left fun x hx => ?_
      simp only [Function.comp, valP, decN_num (hlt x hx), id]
      have := hlt x hx
      rw [if_pos (by omega)]
    have e2 : List.replicate (16 - o.1) 0 = o.2.drop o.1 := by
      have ht := chkO_tail hc
      rw [List.all_eq_true] at ht
      symm
      rw [List.eq_replicate_iff]
      refine ⟨by rw [List.length_drop, hw.2.1], fun x hx => by simpa using ht x hx⟩
    rw [e1, e2, arcsO, List.take_append_drop]
  unfold parseO
  rw [hsp, hpl, h3, if_neg (by rw [h1]; simp), if_neg (by omega), if_neg (by rw [largeP_no _ h2]; simp), if_neg (by rw [hc]; simp)]
theorem okB_rng {c : Nat} (h : okB c = true) : 45 ≤ c := by
  simp only [okB, letB, digB, Bool.or_eq_true, Bool.and_eq_true, decide_eq_true_eq] at h
  omega
theorem setT_char (l : List Oid) : ∀ c ∈ setT l, 44 ≤ c := fun c hc => by
  rcases joinN_mem [44] hc with h | ⟨x, h1, h2⟩
  · rw [List.mem_singleton] at h; omega
  · obtain ⟨o, _, rfl⟩ := List.mem_map.1 h1
    rcases textO_char o c h2 with h | h
    · have := isDig_rng h; omega
    · omega
theorem split_set {l : List Oid} (h : l ≠ []) : splitN 44 (setT l) = l.map textO := by
  refine splitN_join (by simpa using h) (fun x hx => ?_)
  obtain ⟨o, _, rfl⟩ := List.mem_map.1 hx
  intro h
  rcases textO_char o 44 h with h | h
  · have := isDig_rng h; omega
  · omega
theorem reach_d (H : Heap) (k : Nat) : ∀ {cs : List C}, cs.all C.isD = true → cs.flatMap (reachC H k) = []
  | [], _ => rfl
  | c :: cs, h => by
    rw [List.all_cons, Bool.and_eq_true] at h
    rw [List.flatMap_cons, reach_d H k h.2, List.append_nil]
    cases c with
    | d x => simp [reachC]
    | _ => cases h.1
theorem oC_d (o : Oid) : (oC o).all C.isD = true := by
  rw [List.all_eq_true]
  intro c hc
  obtain ⟨d, _, rfl⟩ := List.mem_map.1 hc
  rfl
end Mini
end Go.Proofs.YtgjlofpfbhioaaaGreatDoor
namespace Go.Proofs.YtgjlofpfbhioaaaGreatDoor
namespace Mini
open Go
variable {m : Int} {X : Ctx}
def sumS (a x : Nat) : Nat := (a * 31 + x) % 65521
def sumN (a : Nat) (s : List Nat) : Nat := s.foldl sumS a
theorem sumN_lt : ∀ (s : List Nat) {a : Nat}, a < 65521 → sumN a s < 65521
  | [], _, h => h
  | x :: s, a, _ => sumN_lt s (a := sumS a x) (Nat.mod_lt _ (by decide))
theorem sumN_at {s : List Nat} {a j : Nat} (h : j < s.length) : sumN a (s.take (j + 1)) = sumS (sumN a (s.take j)) (s.getD j 0) := by
  have hx : s[j]? = some (s.getD j 0) := by rw [List.getD_eq_getElem?_getD, List.getElem?_eq_getElem h]; rfl
  rw [List.take_add_one, hx, Option.toList_some]
  simp [sumN]
theorem step_sum {a x : Nat} (ha : a < 65521) (hx : x < 256) : IntKind.i64.wrap ((a : Int) * 31) = ((a * 31 : Nat) : Int) ∧ IntKind.i64.wrap (x : Int) = (x : Int) ∧ IntKind.i64.wrap (((a * 31 : Nat) : Int) + (x : Int)) = ((a * 31 + x : Nat) : Int) ∧ ((a * 31 + x : Nat) : Int).tmod 65521 = ((sumS a x : Nat) : Int) := by
  refine ⟨?_, wrap_nat (by omega), ?_, ?_⟩
  · rw [← wrap_nat (k := a * 31) (by omega)]; simp
  · rw [← wrap_nat (k := a * 31 + x) (by omega)]; simp
  · rw [Int.tmod_eq_emod_of_nonneg (by omega)]; simp only [sumS]; omega
abbrev R74 (s : List Nat) (x0 : V) (a j : Nat) : List V := [x0, strV s, .any, i64 (sumN a (s.take j)), .any, i64 (s.length : Int), i64 (j : Int), .any]
theorem f74 (hX : XOj m X) {N : Nat} {s : List Nat} {a : Nat} (hN : s.length + 10 ≤ N) (ha : a < 65521) (hb : ∀ c ∈ s, c < 256) (hs : s.length < 1000000000) : vcallN X N 74 [i64 a, strV s] = some (i64 (sumN a s)) := by
  obtain ⟨N, rfl⟩ : ∃ M, N = M + 1 := ⟨N - 1, by omega⟩
  have hF : fnsX 74 = some fn74' := rfl
  have hit : iter (some [1, 3, 5, 6]) 0 (exec (zenv X N) N false fn74L0) N ⟨R74 s .any a 0, []⟩ = some (.exit 0, ⟨[.any, strV s, .any, i64 (sumN a s), .any, i64 (s.length : Int), i64 (s.length : Int), bl false], []⟩) := by
    refine iter_to (fun j => ⟨R74 s .any a j, []⟩) (e := .exit 0) (fun h => by cases h) s.length 0 N (fun j _ hj => ?_) ?_ (by omega)
    · have hj' : j < s.length := by omega
      have h4 : (j : Int) < (s.length : Int) := by omega
      have h6 := wrap_succ (k := j) (by omega)
      have hx : s[j]? = some (s.getD j 0) := by rw [List.getD_eq_getElem?_getD, List.getElem?_eq_getElem hj']; rfl
      have hxb : s.getD j 0 < 256 := hb _ (List.mem_of_getElem? hx)
      have hA := sumN_lt (s.take j) ha
      obtain ⟨e1, e2, e3, e4⟩ := step_sum hA hxb
      have hst := sumN_at (a := a) hj'
      refine ⟨⟨[.any, strV s, .any, i64 (sumN a (s.take (j + 1))), i64 (j : Int), i64 (s.length : Int), i64 ((j + 1 : Nat) : Int), bl true], []⟩, ?_, ?_⟩
      · rw [hst]
        simp only [fn74L0, R74, strV, h4, h6, hx, e1, e2, e3, e4, evs, Int.reduceEq]
      · show gc 0 ⟨_, _⟩ = _
        rw [gc_le (by simp)]
        rfl
    · rw [Nat.zero_add]
      have h4 : ¬ (s.length : Int) < (s.length : Int) := by omega
      have ht : s.take s.length = s := List.take_length
      unfold R74
      rw [ht]
      simp only [fn74L0, strV, h4, evs]
  have h0 : sumN a (s.take 0) = a := rfl
  unfold R74 at hit
  rw [h0] at hit
  simp only [strV, i64, bl, Int.natCast_zero] at hit
  refine vcall_of (r := i64 (sumN a s)) (H := []) ?_ rfl
  rw [hX.fn hF]
  refine (rf_fin _ _ _ _ _ _ _ _ _ (by rfl)).trans ?_
  simp only [strV, hit, evs, Nat.reduceAdd, Nat.reduceBEq, Nat.reduceSub]
abbrev R46 (s : List Nat) (a j : Nat) : List V := [i64 (sumN a (s.take j)), strV s, .any, i64 (j : Int), .any]
theorem f46 (hX : XOj m X) {N : Nat} {s : List Nat} {a : Nat} (hN : s.length + 10 ≤ N) (ha : a < 65521) (hb : ∀ c ∈ s, c < 256) (hs : s.length < 1000000000) : vcallN X N 46 [i64 a, strV s] = some (i64 (sumN a s)) := by
  obtain ⟨N, rfl⟩ : ∃ M, N = M + 1 := ⟨N - 1, by omega⟩
  have hF : fnsX 46 = some fn46' := rfl
  have hit : iter (some [0, 1, 3]) 0 (exec (zenv X N) N false fn46L0) N ⟨R46 s a 0, []⟩ = some (.exit 0, ⟨[i64 (sumN a s), strV s, .any, i64 (s.length : Int), bl false], []⟩) := by
    refine iter_to (fun j => ⟨R46 s a j, []⟩) (e := .exit 0) (fun h => by cases h) s.length 0 N (fun j _ hj => ?_) ?_ (by omega)
    · have hj' : j < s.length := by omega
      have h4 : (j : Int) < (s.length : Int) := by omega
      have h6 := wrap_succ (k := j) (by omega)
      have hx : s[j]? = some (s.getD j 0) := by rw [List.getD_eq_getElem?_getD, List.getElem?_eq_getElem hj']; rfl
      have hxb : s.getD j 0 < 256 := hb _ (List.mem_of_getElem? hx)
      have hA := sumN_lt (s.take j) ha
      obtain ⟨e1, e2, e3, e4⟩ := step_sum hA hxb
      have hst := sumN_at (a := a) hj'
      refine ⟨⟨[i64 (sumN a (s.take (j + 1))), strV s, .any, i64 ((j + 1 : Nat) : Int), bl true], []⟩, ?_, ?_⟩
      · rw [hst]
        simp only [fn46L0, R46, strV, h4, h6, hx, e1, e2, e3, e4, evs, Int.reduceEq]
      · show gc 0 ⟨_, _⟩ = _
        rw [gc_le (by simp)]
        rfl
    · rw [Nat.zero_add]
      have h4 : ¬ (s.length : Int) < (s.length : Int) := by omega
      have ht : s.take s.length = s := List.take_length
      unfold R46
      rw [ht]
      simp only [fn46L0, strV, h4, evs]
  have h0 : sumN a (s.take 0) = a := rfl
  unfold R46 at hit
  rw [h0] at hit
  simp only [strV, i64, bl, Int.natCast_zero] at hit
  refine vcall_of (r := i64 (sumN a s)) (H := []) ?_ rfl
  rw [hX.fn hF]
  refine (rf_fin _ _ _ _ _ _ _ _ _ (by rfl)).trans ?_
  simp only [strV, hit, evs, Nat.reduceAdd, Nat.reduceBEq, Nat.reduceSub]
def reasT (k : Nat) : List Nat := if k = 1 then [109, 97, 112, 112, 101, 100] else if k = 2 then [118, 97, 108, 105, 100] else if k = 3 then [117, 115, 101, 114] else []
theorem f101 (hX : XOj m X) {N : Nat} (hN : 1 ≤ N) {k : Nat} (hk : k < 4) : vcallN X N 101 [.c (.d (.int .u8 (k : Int)))] = some (strV (reasT k)) := by
  obtain ⟨N, rfl⟩ : ∃ M, N = M + 1 := ⟨N - 1, by omega⟩
  refine vcall_of (r := strV (reasT k)) (H := []) ?_ rfl
  rw [hX.fn (F := fn101) rfl]
  have : k = 0 ∨ k = 1 ∨ k = 2 ∨ k = 3 := by omega
  rcases this with rfl | rfl | rfl | rfl <;> rfl
def reasD : D := .sl [.str [], .str [109, 97, 112, 112, 101, 100], .str [118, 97, 108, 105, 100], .str [117, 115, 101, 114]] 4
theorem f77 (hX : XOj m X) {N : Nat} (hN : 1 ≤ N) : vcallN X N 77 [] = some (.c (.d reasD)) := by
  obtain ⟨N, rfl⟩ : ∃ M, N = M + 1 := ⟨N - 1, by omega⟩
  refine vcall_of (r := .c (.os 0 0 0 4 1 (some 4))) (H := [.cells [.d (.str []), .d (.str [109, 97, 112, 112, 101, 100]), .d (.str [118, 97, 108, 105, 100]), .d (.str [117, 115, 101, 114])] 0 false]) ?_ rfl
  rw [hX.fn (F := fn77) rfl]
  rfl
end Mini
end Go.Proofs.YtgjlofpfbhioaaaGreatDoor
namespace Go.Proofs.YtgjlofpfbhioaaaGreatDoor
namespace Mini
open Go
variable {m : Int} {X : Ctx}
structure En where
  s : List Nat
  acc : Bool
  r : Nat
  t : Int
  w : D
  l : List Oid
def enC (s : List Nat) (acc : Bool) (r : Nat) (t : Int) (w : D) : List C := [.d (.str s), .d (.bool acc), .d (.int .u8 (r : Int)), .d (.int .i64 t), .d w]
def badE (acc : Bool) (r : Nat) (t : Int) (n : Nat) : Prop := (acc = true ∧ (r ≠ 0 ∨ t ≠ 0)) ∨ (acc = false ∧ (r < 1 ∨ 3 < r ∨ t < 0 ∨ 63 < t ∨ 0 < n))
instance (acc : Bool) (r : Nat) (t : Int) (n : Nat) : Decidable (badE acc r t n) := by unfold badE; infer_instance
def chkE (s : List Nat) (acc : Bool) (r : Nat) (t : Int) (l : List Oid) : Nat := if nameB s = false then 18 else if badE acc r t l.length then 1 else chkS l
theorem f48 (hX : XOj m X) {N : Nat} {s : List Nat} {acc : Bool} {r : Nat} {t : Int} {w : D} {l : List Oid} (hN : s.length + 500 ≤ N) (hs : s.length < 1000000) (hw : isSet w l) (hl : wfS l) (hlen : l.length < 1000000) : vcallN X N 48 [.agg (enC s acc r t w)] = some (i64 (chkE s acc r t l)) := by
  obtain ⟨N, rfl⟩ : ∃ M, N = M + 1 := ⟨N - 1, by omega⟩
  have hF : fnsX 48 = some fn48' := rfl
  have hx := hX.x
  have h83 := hx.vc (k := 83) (F := fn83) rfl (f83 hx (N := N) (by omega))
  have h19 := hx.vc (k := 19) (F := fn19) rfl (f19 hx (N := N) (by omega) hw hl hlen)
  have hln := hw.len
  have hcA : chkA s [anyO] = if nameB s = false then 18 else 0 := by
    unfold chkA
    rw [if_neg (show ¬ chkS [anyO] ≠ 0 by decide), if_neg (show ¬ [anyO].length = 0 by decide)]
  have hso : slO [anyO] = .sl (oD anyO) 1 := by simp [slO]
  have h33 := hx.vc (k := 33) (F := fn33) rfl (f33g hx (N := N) (s := s) (w := slO [anyO]) (u := [anyO]) (b1 := false) (b2 := false) (b3 := false) (by omega) hs (.inr rfl) (fun o ho => by
    rw [List.mem_singleton] at ho
    subst ho
    exact ⟨by decide, rfl, by decide⟩) (by decide))
  rw [hcA, hso] at h33
  have hoc : ∀ H k, mapO (deepC H k) (oC anyO) = some (oD anyO) := fun H k => mapO_d H k _
  have hol : (oC anyO).length = 17 := rfl
  have hot : (oC anyO).take 17 = oC anyO := rfl
  have hfl : (oC anyO).all C.flat = true := rfl
  have rep1 : ∀ z : List C, rep z 1 = z := fun z => by simp [rep]
  have hd83 := h83
  clear h83 hcA hso
  generalize oC anyO = oc at *
  generalize oD anyO = od at *
  refine vcall_of (r := i64 (chkE s acc r t l)) (H := [.cells (enC s acc r t w) 0 false, .cells oc 0 false]) ?_ rfl
  rw [hX.fn hF]
  simp only [i64, anC] at h19 h33
  unfold chkE
  cases hn : nameB s
  · rw [hn] at h33
    simp only [if_true, Int.cast_ofNat_Int] at h33
    rw [if_pos rfl]
    have g1 : ((18 : Int) != 0) = true := rfl
    refine (rf_fin _ _ _ _ _ _ _ _ _ (by rfl)).trans ?_
    simp only [g1, Int.cast_ofNat_Int, ob?, enC, lay, rep1, splice, hd83, h33, hfl, hoc, hot, hol, deepMax, List.take, List.drop, List.map_cons, List.map_nil, evs, Nat.reduceAdd, Nat.reduceLeDiff, Nat.reduceSub]
  rw [hn] at h33
  simp only [Bool.true_eq_false, if_false, Int.natCast_zero] at h33
  rw [if_neg (by simp)]
  have g0 : ((0 : Int) != 0) = false := rfl
  cases acc
  · by_cases c1 : (r : Int) < 1
    · rw [if_pos (show badE false r t l.length by unfold badE; simp only [reduceCtorEq, false_and, true_and, false_or]; omega)]
      refine (rf_fin _ _ _ _ _ _ _ _ _ (by rfl)).trans ?_
      simp only [g0, Int.cast_ofNat_Int, c1, ob?, enC, lay, rep1, splice, hd83, h33, hfl, hoc, hot, hol, deepMax, List.take, List.drop, List.map_cons, List.map_nil, Bool.not_false, evs, Nat.reduceAdd, Nat.reduceLeDiff, Nat.reduceSub]
    by_cases c2 : (r : Int) > 3
    · rw [if_pos (show badE false r t l.length by unfold badE; simp only [reduceCtorEq, false_and, true_and, false_or]; omega)]
      refine (rf_fin _ _ _ _ _ _ _ _ _ (by rfl)).trans ?_
      simp only [g0, Int.cast_ofNat_Int, c1, c2, ob?, enC, lay, rep1, splice, hd83, h33, hfl, hoc, hot, hol, deepMax, List.take, List.drop, List.map_cons, List.map_nil, Bool.not_false, evs, Nat.reduceAdd, Nat.reduceLeDiff, Nat.reduceSub]
    by_cases c3 : t < 0
    · rw [if_pos (show badE false r t l.length by unfold badE; simp only [reduceCtorEq, false_and, true_and, false_or]; omega)]
      refine (rf_fin _ _ _ _ _ _ _ _ _ (by rfl)).trans ?_
      simp only [g0, Int.cast_ofNat_Int, c1, c2, c3, ob?, enC, lay, rep1, splice, hd83, h33, hfl, hoc, hot, hol, deepMax, List.take, List.drop, List.map_cons, List.map_nil, Bool.not_false, evs, Nat.reduceAdd, Nat.reduceLeDiff, Nat.reduceSub]
    by_cases c4 : t ≥ 64
    · rw [if_pos (show badE false r t l.length by unfold badE; simp only [reduceCtorEq, false_and, true_and, false_or]; omega)]
      refine (rf_fin _ _ _ _ _ _ _ _ _ (by rfl)).trans ?_
      simp only [g0, Int.cast_ofNat_Int, c1, c2, c3, c4, ob?, enC, lay, rep1, splice, hd83, h33, hfl, hoc, hot, hol, deepMax, List.take, List.drop, List.map_cons, List.map_nil, Bool.not_false, evs, Nat.reduceAdd, Nat.reduceLeDiff, Nat.reduceSub]
    by_cases c5 : (l.length : Int) > 0
    · rw [if_pos (show badE false r t l.length by unfold badE; simp only [reduceCtorEq, false_and, true_and, false_or]; omega)]
      refine (rf_fin _ _ _ _ _ _ _ _ _ (by rfl)).trans ?_
      simp only [g0, Int.cast_ofNat_Int, c1, c2, c3, c4, c5, ob?, enC, lay, rep1, splice, hd83, h33, hfl, hln, hoc, hot, hol, deepMax, List.take, List.drop, List.map_cons, List.map_nil, Bool.not_false, ↓sp_len, evs, Nat.reduceAdd, Nat.reduceLeDiff, Nat.reduceSub]
    rw [if_neg (show ¬ badE false r t l.length by unfold badE; simp only [reduceCtorEq, false_and, true_and, false_or]; omega)]
    refine (rf_fin _ _ _ _ _ _ _ _ _ (by rfl)).trans ?_
    simp only [g0, h19, c1, c2, c3, c4, c5, ob?, enC, lay, rep1, splice, hd83, h33, hfl, hln, hoc, hot, hol, deepMax, List.take, List.drop, List.map_cons, List.map_nil, Bool.not_false, ↓sp_len, evs, Nat.reduceAdd, Nat.reduceLeDiff, Nat.reduceSub]
  · by_cases c1 : r = 0
    · subst c1
      have g1 : (((0 : Nat) : Int) != 0) = false := rfl
      by_cases c2 : t = 0
      · subst c2
        rw [if_neg (show ¬ badE true 0 0 l.length by unfold badE; simp only [reduceCtorEq, false_and, true_and, or_false]; omega)]
        refine (rf_fin _ _ _ _ _ _ _ _ _ (by rfl)).trans ?_
        simp only [g0, h19, Int.cast_ofNat_Int, ob?, enC, lay, rep1, splice, hd83, h33, hfl, hoc, hot, hol, deepMax, List.take, List.drop, List.map_cons, List.map_nil, Bool.not_true, evs, Nat.reduceAdd, Nat.reduceLeDiff, Nat.reduceSub]
      · have g2 : (t != 0) = true := by rw [bne_iff_ne]; exact c2
        rw [if_pos (show badE true 0 t l.length by unfold badE; simp only [reduceCtorEq, false_and, true_and, or_false]; omega)]
        refine (rf_fin _ _ _ _ _ _ _ _ _ (by rfl)).trans ?_
        simp only [g0, g2, Int.cast_ofNat_Int, ob?, enC, lay, rep1, splice, hd83, h33, hfl, hoc, hot, hol, deepMax, List.take, List.drop, List.map_cons, List.map_nil, evs, Nat.reduceAdd, Nat.reduceLeDiff, Nat.reduceSub]
    · have g2 : ((r : Int) != 0) = true := by rw [bne_iff_ne]; omega
      rw [if_pos (show badE true r t l.length by unfold badE; simp only [reduceCtorEq, false_and, true_and, or_false]; omega)]
      refine (rf_fin _ _ _ _ _ _ _ _ _ (by rfl)).trans ?_
      simp only [g0, g2, Int.cast_ofNat_Int, ob?, enC, lay, rep1, splice, hd83, h33, hfl, hoc, hot, hol, deepMax, List.take, List.drop, List.map_cons, List.map_nil, evs, Nat.reduceAdd, Nat.reduceLeDiff, Nat.reduceSub]
end Mini
end Go.Proofs.YtgjlofpfbhioaaaGreatDoor
namespace Go.Proofs.YtgjlofpfbhioaaaGreatDoor
namespace Mini
open Go
variable {m : Int} {X : Ctx}
abbrev i64D (n : Nat) : D := .int .i64 (n : Int)
theorem r50 {E : Env} {N : Nat} {n : Nat} {s : List Nat} (hn : n < 4294967296) (hs : s.length < 1000) : exec E N false fn50L0 ⟨[.c (.d (i64D n)), .any, strV s, bl true, .any], []⟩ = some (.nrm, ⟨[.c (.d (i64D (n / 10))), .any, strV ((48 + n % 10) :: s), bl (decide (((n / 10 : Nat) : Int) > 0)), bl true], [.cells [.d (.int .u8 ((48 + n % 10 : Nat) : Int))] 0 false]⟩) := by
  have h1 : (n : Int).tmod 10 = ((n % 10 : Nat) : Int) := (Int.ofNat_tmod n 10).symm
  have h2 : (n : Int).tdiv 10 = ((n / 10 : Nat) : Int) := (Int.ofNat_tdiv n 10).symm
  have h3 : IntKind.i64.wrap (48 + ((n % 10 : Nat) : Int)) = ((48 + n % 10 : Nat) : Int) := by
    rw [← wrap_nat (k := 48 + n % 10) (by omega)]; rfl
  have h4 : IntKind.u8.wrap ((48 + n % 10 : Nat) : Int) = ((48 + n % 10 : Nat) : Int) := wrap_u8 (by omega)
  have h5 : IntKind.i64.wrap ((n / 10 : Nat) : Int) = ((n / 10 : Nat) : Int) := wrap_nat (by omega)
  have h6 : bytesOf [C.d (.int .u8 ((48 + n % 10 : Nat) : Int))] = some [48 + n % 10] := bytesOf_of (s := [48 + n % 10]) (fun b hb => by rw [List.mem_singleton] at hb; omega)
  have h7 : 1 + s.length ≤ 1073741824 := by omega
  have h8 : ((10 : Int) = 0) = False := by simp
  generalize 48 + n % 10 = d at *
  generalize n / 10 = q at *
  simp only [fn50L0, strV, i64D, ob?, h1, h2, h3, h4, h5, h6, h7, h8, binStr, elems, lay, rep, splice, List.take, List.drop, List.map_cons, List.map_nil, evs, Nat.reduceLeDiff]
theorem it50 {E : Env} {N : Nat} : ∀ (f n : Nat) (s : List Nat) (fuel : Nat), n < 10 ^ (f + 1) → n < 4294967296 → s.length + f < 1000 → f + 2 ≤ fuel → iter (some [0, 2, 3]) 0 (exec E N false fn50L0) fuel ⟨[.c (.d (i64D n)), .any, strV s, bl true, .any], []⟩ = some (.exit 0, ⟨[.c (.d (i64D 0)), .any, strV (decF f n ++ s), bl false, bl false], []⟩) := by
  have hend : ∀ (s : List Nat), exec E N false fn50L0 ⟨[.c (.d (i64D 0)), .any, strV s, bl false, .any], []⟩ = some (.exit 0, ⟨[.c (.d (i64D 0)), .any, strV s, bl false, bl false], []⟩) := fun s => by
    simp only [fn50L0, evs]
  intro f
  induction f with
  | zero =>
    intro n s fuel hn hn2 hs hf
    obtain ⟨fuel, rfl⟩ : ∃ k, fuel = k + 2 := ⟨fuel - 2, by omega⟩
    have hq : n / 10 = 0 := by omega
    have hr := r50 (E := E) (N := N) hn2 (s := s) (by omega)
    rw [hq] at hr
    rw [iter_step hr]
    have ht : tidy 0 (some [0, 2, 3]) ⟨[.c (.d (i64D 0)), .any, strV ((48 + n % 10) :: s), bl (decide (((0 : Nat) : Int) > 0)), bl true], [.cells [.d (.int .u8 ((48 + n % 10 : Nat) : Int))] 0 false]⟩ = ⟨[.c (.d (i64D 0)), .any, strV ((48 + n % 10) :: s), bl false, .any], []⟩ := gc_yes rfl rfl
    rw [ht, iter_stop (hend _)]
    rfl
  | succ f ih =>
    intro n s fuel hn hn2 hs hf
    obtain ⟨fuel, rfl⟩ : ∃ k, fuel = k + 1 := ⟨fuel - 1, by omega⟩
    have hr := r50 (E := E) (N := N) hn2 (s := s) (by omega)
    rw [iter_step hr]
    by_cases hq : n < 10
    · have hq0 : n / 10 = 0 := by omega
      obtain ⟨fuel, rfl⟩ : ∃ k, fuel = k + 1 := ⟨fuel - 1, by omega⟩
      rw [hq0]
      have ht : tidy 0 (some [0, 2, 3]) ⟨[.c (.d (i64D 0)), .any, strV ((48 + n % 10) :: s), bl (decide (((0 : Nat) : Int) > 0)), bl true], [.cells [.d (.int .u8 ((48 + n % 10 : Nat) : Int))] 0 false]⟩ = ⟨[.c (.d (i64D 0)), .any, strV ((48 + n % 10) :: s), bl false, .any], []⟩ := gc_yes rfl rfl
      rw [ht, iter_stop (hend _), decF, if_pos hq, Nat.mod_eq_of_lt hq]
      rfl
    · have hd : decide (((n / 10 : Nat) : Int) > 0) = true := decide_eq_true (by omega)
      rw [hd]
      have ht : tidy 0 (some [0, 2, 3]) ⟨[.c (.d (i64D (n / 10))), .any, strV ((48 + n % 10) :: s), bl true, bl true], [.cells [.d (.int .u8 ((48 + n % 10 : Nat) : Int))] 0 false]⟩ = ⟨[.c (.d (i64D (n / 10))), .any, strV ((48 + n % 10) :: s), bl true, .any], []⟩ := gc_yes rfl rfl
      rw [ht, ih (n / 10) _ fuel (by rw [Nat.pow_succ] at hn; omega) (by omega) (by simp only [List.length_cons]; omega) (by omega), decF, if_neg hq, List.append_assoc]
      rfl
theorem f50 (hX : XOj m X) {N : Nat} (hN : 40 ≤ N) {n : Nat} (hn : n < 4294967296) : vcallN X N 50 [.c (.d (i64D n))] = some (strV (decN n)) := by
  obtain ⟨N, rfl⟩ : ∃ M, N = M + 1 := ⟨N - 1, by omega⟩
  have hF : fnsX 50 = some fn50' := rfl
  have hit := it50 (E := zenv X N) (N := N) 20 n [] N (Nat.lt_of_lt_of_le hn (by decide)) hn (by simp) (by omega)
  refine vcall_of (r := strV (decN n)) (H := []) ?_ rfl
  rw [hX.fn hF]
  refine (rf_fin _ _ _ _ _ _ _ _ _ (by rfl)).trans ?_
  simp only [strV, bl, List.append_nil] at hit ⊢
  simp only [decN, hit, evs, Nat.reduceAdd, Nat.reduceBEq, Nat.reduceSub]
def wRej : List Nat := [32, 114, 101, 106, 101, 99, 116, 101, 100, 32]
def wAcc : List Nat := [32, 97, 99, 99, 101, 112, 116, 101, 100, 32]
def bodyE (s : List Nat) (acc : Bool) (r : Nat) (t : Int) (l : List Oid) : List Nat := if acc = false then s ++ wRej ++ reasT r ++ [32] ++ decN t.toNat else if l.length = 0 then s ++ wAcc ++ [45] else s ++ wAcc ++ setT l
theorem chkE_parts {s : List Nat} {acc : Bool} {r : Nat} {t : Int} {l : List Oid} (h : chkE s acc r t l = 0) : nameB s = true ∧ ¬ badE acc r t l.length ∧ chkS l = 0 := by
  unfold chkE at h
  by_cases h1 : nameB s = false
  · rw [if_pos h1] at h; cases h
  · rw [if_neg h1] at h
    by_cases h2 : badE acc r t l.length
    · rw [if_pos h2] at h; cases h
    · rw [if_neg h2] at h
      exact ⟨by simpa using h1, h2, h⟩
theorem chkE_rej {s : List Nat} {r : Nat} {t : Int} {l : List Oid} (h : chkE s false r t l = 0) : 1 ≤ r ∧ r ≤ 3 ∧ 0 ≤ t ∧ t ≤ 63 ∧ l.length = 0 := by
  have := (chkE_parts h).2.1
  simp only [badE, reduceCtorEq, false_and, true_and, false_or] at this
  omega
theorem reas_at {r : Nat} (h : r < 4) : ixac 1 r (.c (.d reasD)) = some (.c (.d (.ip (D.str (reasT r) :: ([D.str [], D.str [109, 97, 112, 112, 101, 100], D.str [118, 97, 108, 105, 100], D.str [117, 115, 101, 114]].drop (r + 1))))), []) := by
  have : r = 0 ∨ r = 1 ∨ r = 2 ∨ r = 3 := by omega
  rcases this with rfl | rfl | rfl | rfl <;> rfl
theorem reasT_len (r : Nat) : (reasT r).length ≤ 6 := by
  unfold reasT
  split
  · decide
  split
  · decide
  split
  · decide
  · decide
theorem f49 (hX : XOj m X) {N : Nat} (hN : 400 ≤ N) {s : List Nat} {acc : Bool} {r : Nat} {t : Int} {w : D} {l : List Oid} (hw : isSet w l) (hl : wfS l) (hc : chkE s acc r t l = 0) : vcallN X N 49 [.agg (enC s acc r t w)] = some (strV (bodyE s acc r t l)) := by
  obtain ⟨N, rfl⟩ : ∃ M, N = M + 1 := ⟨N - 1, by omega⟩
  have hF : fnsX 49 = some fn49' := rfl
  obtain ⟨p1, p2, p3⟩ := chkE_parts hc
  have k1 := nameB_ok p1
  have k3 := chkS_len p3
  have k4 := chkS_ok p3
  have hx := hX.x
  have hln := hw.len
  refine vcall_of (r := strV (bodyE s acc r t l)) (H := [.cells (enC s acc r t w) 0 false]) ?_ rfl
  rw [hX.fn hF]
  unfold bodyE
  cases acc
  · rw [if_pos rfl]
    obtain ⟨e1, e2, e3, e4, e5⟩ := chkE_rej hc
    obtain ⟨n, rfl⟩ := Int.eq_ofNat_of_zero_le e3
    have h77 := hX.vc (k := 77) (F := fn77) rfl (f77 hX (N := N) (by omega))
    have h50 := hX.vc (k := 50) (F := fn50) rfl (f50 hX (N := N) (by omega) (n := n) (by omega))
    have hra := reas_at (r := r) (by omega)
    have hrf : reasD.flat = false := rfl
    have hrl := reasT_len r
    have hdl := (decF_len 20 n).1
    have an : asNat (.c (.d (.int .u8 (r : Int)))) = some r := by simp [asNat, asInt]
    have hto : (n : Int).toNat = n := Int.toNat_natCast n
    rw [hto]
    have g1 : s.length + 10 ≤ 1073741824 := by omega
    have g2 : s.length + 10 + (reasT r).length ≤ 1073741824 := by omega
    have g3 : s.length + 10 + (reasT r).length + 1 ≤ 1073741824 := by omega
    have g4 : s.length + 10 + (reasT r).length + 1 + (decN n).length ≤ 1073741824 := by unfold decN; omega
    generalize reasT r = rt at *
    generalize decN n = dn at *
    generalize reasD = rd at *
    simp only [i64D, strV] at h50
    refine (rf_fin _ _ _ _ _ _ _ _ _ (by rfl)).trans ?_
    simp only [enC, ob?, strV, wRej, binStr, h50, h77, hra, hrf, an, g1, g2, g3, g4, List.length_append, List.take, List.drop, List.map_cons, List.map_nil, freeze_nil, List.flatMap_nil, Bool.not_false, ↓sp_ixa, evs, Nat.reduceAdd, Nat.reduceSub]
  rw [if_neg (by simp)]
  have hst := setT_take l (fun o ho => (chkO_n (k4 o ho)).2)
  have hit : iter (some [1, 3, 4]) 1 (exec (zenv X N) N false fn49L0) N ⟨[.any, .c (.ptr 0 0 0), .any, strV (s ++ wAcc ++ setT (l.take 0)), i64 ((0 : Nat) : Int), .any, .any, .any, .any], [.cells (enC s true r t w) 0 false]⟩ = some (.exit 0, ⟨[.any, .c (.ptr 0 0 0), .any, strV (s ++ wAcc ++ setT (l.take l.length)), i64 (l.length : Int), .any, .any, bl false, .any], [.cells (enC s true r t w) 0 false]⟩) := by
    refine iter_to (fun j => ⟨[.any, .c (.ptr 0 0 0), .any, strV (s ++ wAcc ++ setT (l.take j)), i64 (j : Int), .any, .any, .any, .any], [.cells (enC s true r t w) 0 false]⟩) (e := .exit 0) (fun h => by cases h) l.length 0 N (fun j _ hj => ?_) ?_ (by omega)
    · have hj1 : j < l.length := by omega
      have ho := hl.at hj1
      have h1 := hw.at hl hj1
      have h2 := flatO_at hl hj1
      have h4 : (j : Int) < (l.length : Int) := by omega
      have h6 := wrap_succ (k := j) (by omega)
      have hon := chkO_n (k4 _ (getD_mem hj1))
      have h58 := hx.vc (k := 58) (F := fn58) rfl (f58 hx (N := N) (by omega) ho hon.2)
      have hto := textO_len _ hon.2
      have hlo := oC_len ho
      have hsl := hst j
      have hsu := setT_succ l hj1
      rw [hsu]
      have hlen : (s ++ wAcc ++ setT (l.take j)).length ≤ 200000 := by
        simp only [wAcc, List.length_append, List.length_cons, List.length_nil]; omega
      have hm : ∀ H : Heap, mapO (deepC H deepMax) (oC (l.getD j o0)) = some (oD (l.getD j o0)) := fun H => mapO_d H _ _
      have hd : List.map C.d (oD (l.getD j o0)) = oC (l.getD j o0) := rfl
      rw [show s ++ wAcc ++ (setT (l.take j) ++ (if j = 0 then [] else [44]) ++ textO (l.getD j o0)) = s ++ wAcc ++ setT (l.take j) ++ (if j = 0 then [] else [44]) ++ textO (l.getD j o0) by simp only [List.append_assoc]]
      generalize s ++ wAcc ++ setT (l.take j) = T at *
      generalize l.getD j o0 = o at *
      simp only [strV] at h58
      simp only [enC]
      by_cases hz : j = 0
      · have g1 : ¬ (j : Int) > 0 := by omega
        have g2 : T.length + (textO o).length ≤ 1073741824 := by omega
        rw [if_pos hz, List.append_nil]
        refine ⟨⟨[.any, .c (.ptr 0 0 0), .any, strV (T ++ textO o), i64 ((j + 1 : Nat) : Int), .any, .any, bl true, bl false], [.cells (enC s true r t w) 0 false]⟩, ?_, gc_le (Nat.le_refl 1)⟩
        simp only [fn49L0, enC, ob?, strV, binStr, hln, h1, h2, h4, h6, h58, hm, hd, hlo, g1, g2, List.take, List.drop, ↓sp_len, ↓sp_ixa, evs]
      · have g1 : (j : Int) > 0 := by omega
        have g3 : T.length + 1 + (textO o).length ≤ 1073741824 := by omega
        have g4 : T.length ≤ 1073741823 := by omega
        rw [if_neg hz]
        refine ⟨⟨[.any, .c (.ptr 0 0 0), .any, strV (T ++ [44] ++ textO o), i64 ((j + 1 : Nat) : Int), .any, .any, bl true, bl true], [.cells (enC s true r t w) 0 false]⟩, ?_, gc_le (Nat.le_refl 1)⟩
        simp only [fn49L0, enC, ob?, strV, binStr, hln, h1, h2, h4, h6, h58, hm, hd, hlo, g1, g3, g4, List.length_append, List.take, List.drop, ↓sp_len, ↓sp_ixa, evs, Nat.reduceLeDiff]
    · rw [Nat.zero_add]
      simp only [fn49L0, enC, ob?, hln, List.take, List.drop, ↓sp_len, evs]
  rw [List.take_length] at hit
  have hs0 : s ++ wAcc ++ setT (l.take 0) = s ++ wAcc := by rw [List.take_zero]; simp [setT, joinN]
  rw [hs0] at hit
  have g1 : s.length + 10 ≤ 1073741824 := by omega
  by_cases c1 : l.length = 0
  · rw [if_pos c1]
    have g0 : ((l.length : Int) == 0) = true := by rw [beq_iff_eq]; omega
    have g2 : s.length + 10 + 1 ≤ 1073741824 := by omega
    refine (rf_fin _ _ _ _ _ _ _ _ _ (by rfl)).trans ?_
    simp only [enC, ob?, strV, wAcc, binStr, hln, g0, g1, g2, List.length_append, List.take, List.drop, Bool.not_true, ↓sp_len, evs, Nat.reduceAdd, Nat.reduceSub]
  · rw [if_neg c1]
    have g0 : ((l.length : Int) == 0) = false := by rw [beq_eq_false_iff_ne]; omega
    simp only [strV, i64, bl, wAcc, enC, Int.natCast_zero] at hit
    refine (rf_fin _ _ _ _ _ _ _ _ _ (by rfl)).trans ?_
    simp only [enC, ob?, strV, wAcc, binStr, hln, g0, g1, hit, List.take, List.drop, Bool.not_true, ↓sp_len, evs, Nat.reduceAdd, Nat.reduceBEq, Nat.reduceSub]
end Mini
end Go.Proofs.YtgjlofpfbhioaaaGreatDoor
namespace Go.Proofs.YtgjlofpfbhioaaaGreatDoor
namespace Mini
open Go
variable {m : Int} {X : Ctx}
def En.ds (e : En) : List D := [.str e.s, .bool e.acc, .int .u8 (e.r : Int), .int .i64 e.t, e.w]
def En.body (e : En) : List Nat := bodyE e.s e.acc e.r e.t e.l
def En.chk (e : En) : Nat := chkE e.s e.acc e.r e.t e.l
def e0 : En := ⟨[], false, 0, 0, .nils, []⟩
def isEns (w : D) (l : List En) : Prop := w = .nils ∧ l = [] ∨ w = .sl (l.flatMap En.ds) l.length
def wfE (e : En) : Prop := isSet e.w e.l ∧ wfS e.l
def wfEs (l : List En) : Prop := ∀ e ∈ l, wfE e
theorem getE_mem {l : List En} {i : Nat} (h : i < l.length) : l.getD i e0 ∈ l := by
  rw [List.getD_eq_getElem?_getD, List.getElem?_eq_getElem h]
  exact List.getElem_mem h
theorem isEns.len {w : D} {l : List En} (h : isEns w l) : lenc (.c (.d w)) = some (.c (.d (.int .i64 (l.length : Int))), []) := by
  rcases h with ⟨rfl, rfl⟩ | rfl <;> rfl
theorem dropE {l : List En} {i : Nat} (h : i < l.length) : l.drop i = l.getD i e0 :: l.drop (i + 1) := by
  rw [List.getD_eq_getElem?_getD, List.getElem?_eq_getElem h]
  exact List.drop_eq_getElem_cons h
theorem isEns.at {w : D} {l : List En} (h : isEns w l) {i : Nat} (hi : i < l.length) : ∃ t, ixac 5 i (.c (.d w)) = some (.c (.d (.ip (En.ds (l.getD i e0) ++ t))), []) := by
  rcases h with ⟨rfl, rfl⟩ | rfl
  · exact absurd hi (Nat.not_lt_zero _)
  · refine ⟨(l.drop (i + 1)).flatMap En.ds, ?_⟩
    have hl : (l.flatMap En.ds).length = l.length * 5 := flD_len (fun _ _ => rfl)
    rw [ixac, if_pos ⟨hi, by rw [hl]; omega⟩, flD_drop (f := En.ds) (k := 5) (fun _ _ => rfl), dropE hi, List.flatMap_cons]
theorem takeE {l : List En} {j : Nat} (hj : j < l.length) : l.take (j + 1) = l.take j ++ [l.getD j e0] := by
  have hx : l[j]? = some (l.getD j e0) := by rw [List.getD_eq_getElem?_getD, List.getElem?_eq_getElem hj]; rfl
  rw [List.take_add_one, hx, Option.toList_some]
theorem reasT_byte (r : Nat) : ∀ c ∈ reasT r, c < 256 := by
  unfold reasT
  split
  · decide
  split
  · decide
  split
  · decide
  · decide
theorem body_ok {e : En} (h : e.chk = 0) : (∀ c ∈ e.body, c < 256) ∧ e.body.length ≤ 91000 := by
  obtain ⟨p1, p2, p3⟩ := chkE_parts h
  have k1 := nameB_ok p1
  have k3 := chkS_len p3
  have k4 := setT_len e.l (fun o ho => (chkO_n (chkS_ok p3 o ho)).2)
  have hn : ∀ c ∈ e.s, c < 256 := fun c hc => okB_byte (k1.2.2 c hc)
  have hrl := reasT_len e.r
  have hdl := (decF_len 20 e.t.toNat).1
  have hdb := decF_byte 20 e.t.toNat
  have hr : ∀ c ∈ wRej, c < 256 := by decide
  have ha : ∀ c ∈ wAcc, c < 256 := by decide
  have hst := setT_byte e.l
  have hre := reasT_byte e.r
  have l1 : wRej.length = 10 := rfl
  have l2 : wAcc.length = 10 := rfl
  unfold En.body bodyE
  by_cases c1 : e.acc = false
  · rw [if_pos c1]
    refine ⟨fun c hc => ?_, by simp only [List.length_append, List.length_cons, List.length_nil, decN]; omega⟩
    simp only [List.mem_append, List.mem_cons, List.not_mem_nil, or_false] at hc
    rcases hc with (((hc | hc) | hc) | rfl) | hc
    · exact hn c hc
    · exact hr c hc
    · exact hre c hc
    · omega
    · exact hdb c hc
  · rw [if_neg c1]
    by_cases c2 : e.l.length = 0
    · rw [if_pos c2]
      refine ⟨fun c hc => ?_, by simp only [List.length_append, List.length_cons, List.length_nil]; omega⟩
      simp only [List.mem_append, List.mem_cons, List.not_mem_nil, or_false] at hc
      rcases hc with (hc | hc) | rfl
      · exact hn c hc
      · exact ha c hc
      · omega
    · rw [if_neg c2]
      refine ⟨fun c hc => ?_, by simp only [List.length_append]; omega⟩
      simp only [List.mem_append] at hc
      rcases hc with (hc | hc) | hc
      · exact hn c hc
      · exact ha c hc
      · exact hst c hc
def lineE (a : Nat) (e : En) : List Nat := e.body ++ [32] ++ decN (sumN a e.body) ++ [10]
def lastJ (a : Nat) (l : List En) : Nat := l.foldl (fun a e => sumN a e.body) a
def textJ (a : Nat) : List En → List Nat
  | [] => []
  | e :: l => lineE a e ++ textJ (sumN a e.body) l
theorem lastJ_snoc (a : Nat) (l : List En) (e : En) : lastJ a (l ++ [e]) = sumN (lastJ a l) e.body := by simp [lastJ]
theorem textJ_snoc (e : En) : ∀ (l : List En) (a : Nat), textJ a (l ++ [e]) = textJ a l ++ lineE (lastJ a l) e
  | [], a => by simp [textJ, lastJ]
  | x :: l, a => by
    rw [List.cons_append, textJ, textJ, textJ_snoc e l, List.append_assoc]
    rfl
theorem lastJ_lt : ∀ (l : List En) {a : Nat}, a < 65521 → lastJ a l < 65521
  | [], _, h => h
  | e :: l, a, h => lastJ_lt l (a := sumN a e.body) (sumN_lt _ h)
theorem line_len {e : En} (h : e.chk = 0) (a : Nat) : (lineE a e).length ≤ 91100 := by
  have h1 := (body_ok h).2
  have h2 := (decF_len 20 (sumN a e.body)).1
  simp only [lineE, List.length_append, List.length_cons, List.length_nil, decN]; omega
theorem textJ_len : ∀ {l : List En} (a : Nat), (∀ e ∈ l, e.chk = 0) → (textJ a l).length ≤ 91100 * l.length
  | [], _, _ => Nat.le_refl _
  | e :: l, a, h => by
    have h1 := line_len (h e List.mem_cons_self) a
    have h2 := textJ_len (l := l) (sumN a e.body) (fun x hx => h x (List.mem_cons_of_mem _ hx))
    rw [textJ, List.length_append, List.length_cons]
    omega
end Mini
end Go.Proofs.YtgjlofpfbhioaaaGreatDoor
namespace Go.Proofs.YtgjlofpfbhioaaaGreatDoor
namespace Mini
open Go
variable {m : Int} {X : Ctx}
abbrev R38 (w : D) (l : List En) (j : Nat) : List V := [.c (.d w), .any, strV (textJ 0 (l.take j)), i64 (lastJ 0 (l.take j)), i64 (j : Int), .any, .any]
theorem f38 (hX : XOj m X) {N : Nat} (hN : 100000 ≤ N) {w : D} {l : List En} (hw : isEns w l) (hl : wfEs l) (hc : ∀ e ∈ l, e.chk = 0) (hlen : l.length ≤ 4096) : vcallN X N 38 [.c (.d w)] = some (strV (textJ 0 l)) := by
  obtain ⟨N, rfl⟩ : ∃ M, N = M + 1 := ⟨N - 1, by omega⟩
  have hF : fnsX 38 = some fn38' := rfl
  have hln := hw.len
  have hit : iter (some [0, 2, 3, 4]) 0 (exec (zenv X N) N false fn38L0) N ⟨R38 w l 0, []⟩ = some (.exit 0, ⟨[.c (.d w), .any, strV (textJ 0 l), i64 (lastJ 0 l), i64 (l.length : Int), .any, bl false], []⟩) := by
    refine iter_to (fun j => ⟨R38 w l j, []⟩) (e := .exit 0) (fun h => by cases h) l.length 0 N (fun j _ hj => ?_) ?_ (by omega)
    · have hj' : j < l.length := by omega
      have h4 : (j : Int) < (l.length : Int) := by omega
      have h6 := wrap_succ (k := j) (by omega)
      obtain ⟨t, h1⟩ := hw.at hj'
      have hmem := getE_mem hj'
      have hce := hc _ hmem
      obtain ⟨w1, w2⟩ := hl _ hmem
      obtain ⟨b1, b2⟩ := body_ok hce
      have h49 := hX.vc (k := 49) (F := fn49) rfl (f49 hX (N := N) (by omega) w1 w2 hce)
      have hla := lastJ_lt (l.take j) (a := 0) (by decide)
      have h46 := hX.vc (k := 46) (F := fn46) rfl (f46 hX (N := N) (s := (l.getD j e0).body) (a := lastJ 0 (l.take j)) (by omega) hla b1 (by omega))
      have hsl := sumN_lt (l.getD j e0).body hla
      have h50 := hX.vc (k := 50) (F := fn50) rfl (f50 hX (N := N) (by omega) (n := sumN (lastJ 0 (l.take j)) (l.getD j e0).body) (by omega))
      have htl := textJ_len (l := l.take j) 0 (fun e he => hc e (List.mem_of_mem_take he))
      have hdl := (decF_len 20 (sumN (lastJ 0 (l.take j)) (l.getD j e0).body)).1
      have htk : (l.take j).length ≤ 4096 := by rw [List.length_take]; omega
      have hs1 : textJ 0 (l.take (j + 1)) = textJ 0 (l.take j) ++ (l.getD j e0).body ++ [32] ++ decN (sumN (lastJ 0 (l.take j)) (l.getD j e0).body) ++ [10] := by
        rw [takeE hj', textJ_snoc, lineE]
        simp only [List.append_assoc]
      have hs2 : lastJ 0 (l.take (j + 1)) = sumN (lastJ 0 (l.take j)) (l.getD j e0).body := by rw [takeE hj', lastJ_snoc]
      have hbd : bodyE (l.getD j e0).s (l.getD j e0).acc (l.getD j e0).r (l.getD j e0).t (l.getD j e0).l = (l.getD j e0).body := rfl
      rw [hbd] at h49
      unfold R38
      rw [hs1, hs2]
      have g1 : (textJ 0 (l.take j)).length + (l.getD j e0).body.length ≤ 1073741824 := by omega
      have g2 : (textJ 0 (l.take j)).length + (l.getD j e0).body.length + 1 ≤ 1073741824 := by omega
      have g3 : (textJ 0 (l.take j)).length + (l.getD j e0).body.length + 1 + (decN (sumN (lastJ 0 (l.take j)) (l.getD j e0).body)).length ≤ 1073741824 := by unfold decN; omega
      have g4 : (textJ 0 (l.take j)).length + (l.getD j e0).body.length + 1 + (decN (sumN (lastJ 0 (l.take j)) (l.getD j e0).body)).length + 1 ≤ 1073741824 := by unfold decN; omega
      generalize decN (sumN (lastJ 0 (l.take j)) (l.getD j e0).body) = dn at *
      generalize sumN (lastJ 0 (l.take j)) (l.getD j e0).body = sn at *
      generalize lastJ 0 (l.take j) = la at *
      generalize textJ 0 (l.take j) = tt at *
      generalize (l.getD j e0).body = bo at *
      generalize l.getD j e0 = e at *
      simp only [En.ds] at h1
      simp only [enC, strV, i64, i64D] at h49 h46 h50
      refine ⟨⟨[.c (.d w), .any, strV (tt ++ bo ++ [32] ++ dn ++ [10]), i64 (sn : Int), i64 ((j + 1 : Nat) : Int), strV bo, bl true], []⟩, ?_, gc_le (Nat.le_refl 0)⟩
      simp only [fn38L0, strV, binStr, hln, h1, h4, h6, h49, h46, h50, g1, g2, g3, g4, List.length_append, List.take, List.map_cons, List.map_nil, List.cons_append, List.nil_append, ↓sp_len, ↓sp_ixa, evs, Nat.reduceAdd]
    · rw [Nat.zero_add]
      unfold R38
      rw [List.take_length]
      simp only [fn38L0, hln, ↓sp_len, evs]
  have h0 : textJ 0 (l.take 0) = [] := rfl
  have h00 : lastJ 0 (l.take 0) = 0 := rfl
  unfold R38 at hit
  rw [h0, h00] at hit
  simp only [strV, i64, bl, Int.natCast_zero] at hit
  refine vcall_of (r := strV (textJ 0 l)) (H := []) ?_ rfl
  rw [hX.fn hF]
  refine (rf_fin _ _ _ _ _ _ _ _ _ (by rfl)).trans ?_
  simp only [strV, hit, evs, Nat.reduceAdd, Nat.reduceBEq, Nat.reduceSub]
end Mini
end Go.Proofs.YtgjlofpfbhioaaaGreatDoor
namespace Go.Proofs.YtgjlofpfbhioaaaGreatDoor
namespace Mini
open Go
variable {m : Int} {X : Ctx}
def pad16 (l : List Nat) : Oid := (l.length, l ++ List.replicate (16 - l.length) 0)
def fewO (k : Nat) : Oid := match k with
  | 0 => pad16 [1, 2, 3]
  | 1 => pad16 [1, 2, 4]
  | 2 => pad16 [1, 2, 3, 1]
  | 3 => pad16 [2, 5, 29, 32]
  | 4 => pad16 [2, 5, 30]
  | 5 => pad16 [2, 16]
  | _ => pad16 [2, 5, 29, 32, 0]
def ordF : List Nat := [0, 2, 1, 3, 6, 4, 5]
def bitF (m k : Nat) : Bool := (m / 2 ^ k) % 2 == 1
def addF (m k : Nat) : Nat := if bitF m k then m else m + 2 ^ k
def subF (m : Nat) : List Oid := (ordF.filter (bitF m)).map fewO
def polF (m : Nat) : D := if m = 0 then .nils else slO (subF m)
theorem few_runs (m : Int) : (List.range 256).map (fun n => vcallF (XA m) 60 32 [.c (.d (.int .u8 (Int.ofNat n)))]) = (List.range 256).map (fun n => some (.agg (oC (fewO (n % 7))))) := by kernel_rfl
theorem f32 (hX : XOk m X) {N : Nat} (hN : 60 ≤ N) {n : Nat} (hn : n < 256) : vcallN X N 32 [.c (.d (.int .u8 (n : Int)))] = some (.agg (oC (fewO (n % 7)))) := by
  refine hX.run (n := 60) ?_ hN
  rw [← vcallF_eq]
  exact (List.map_inj_left.1 (few_runs m)) n (List.mem_range.2 hn)
def cntF (m : Nat) : Nat := (ordF.filter (bitF m)).length
def pairsF : List (Nat × Nat) := ((List.range 128).filter fun m => cntF m < 4).flatMap fun m => (List.range 7).map fun k => (m, k)
theorem with_runs (m : Int) : pairsF.map (fun p => vcallF (XA m) 60 78 [.c (.d (polF p.1)), .agg (oC (fewO p.2))]) = pairsF.map (fun p => some (.c (.d (polF (addF p.1 p.2))))) := by kernel_rfl
theorem f78 (hX : XOk m X) {N : Nat} (hN : 60 ≤ N) {a k : Nat} (ha : a < 128) (hc : cntF a < 4) (hk : k < 7) : vcallN X N 78 [.c (.d (polF a)), .agg (oC (fewO k))] = some (.c (.d (polF (addF a k)))) := by
  refine hX.run (n := 60) ?_ hN
  rw [← vcallF_eq]
  refine (List.map_inj_left.1 (with_runs m)) (a, k) ?_
  unfold pairsF
  rw [List.mem_flatMap]
  exact ⟨a, List.mem_filter.2 ⟨List.mem_range.2 ha, by simpa using hc⟩, List.mem_map.2 ⟨k, List.mem_range.2 hk, rfl⟩⟩
def okF (a : Nat) : Bool := (chkS (subF a) == 0) && decide ((subF a).length ≤ 7) && (a == 0 || decide (0 < (subF a).length)) && (List.range 7).all fun k => decide (addF a k < 128) && !(addF a k == 0) && decide (cntF (addF a k) ≤ cntF a + 1)
theorem okF_all : (List.range 128).all okF = true := by decide +kernel
theorem okF_at {a : Nat} (h : a < 128) : chkS (subF a) = 0 ∧ (subF a).length ≤ 7 ∧ (a ≠ 0 → 0 < (subF a).length) ∧ ∀ k, k < 7 → addF a k < 128 ∧ addF a k ≠ 0 ∧ cntF (addF a k) ≤ cntF a + 1 := by
  have := List.all_eq_true.1 okF_all a (List.mem_range.2 h)
  simp only [okF, Bool.and_eq_true, beq_iff_eq, decide_eq_true_eq, Bool.or_eq_true, List.all_eq_true, List.mem_range, Bool.not_eq_true', beq_eq_false_iff_ne] at this
  exact ⟨this.1.1.1, this.1.1.2, fun h => this.1.2.resolve_left h, fun k hk => ⟨(this.2 k hk).1.1, (this.2 k hk).1.2, (this.2 k hk).2⟩⟩
theorem fewO_wf (k : Nat) : wfO (fewO k) := by
  unfold fewO pad16 wfO
  split <;> decide
theorem subF_wf (a : Nat) : wfS (subF a) := fun o ho => by
  obtain ⟨k, _, rfl⟩ := List.mem_map.1 ho
  exact fewO_wf k
theorem polF_is (a : Nat) : isSet (polF a) (subF a) := by
  unfold polF
  split
  · rename_i h; subst h; exact .inl ⟨rfl, by decide⟩
  · exact .inr rfl
def mskF : List Nat → Nat → Nat
  | _, 0 => 0
  | bs, j + 1 => addF (mskF bs j) (bs.getD j 0 % 7)
theorem mskF_ok (bs : List Nat) : ∀ j, mskF bs j < 128 ∧ cntF (mskF bs j) ≤ j ∧ (0 < j → mskF bs j ≠ 0)
  | 0 => ⟨by show (0 : Nat) < 128; decide, by show cntF 0 ≤ 0; decide, fun h => absurd h (Nat.lt_irrefl _)⟩
  | j + 1 => by
    obtain ⟨h1, h2, _⟩ := mskF_ok bs j
    obtain ⟨h3, h4, h5⟩ := (okF_at h1).2.2.2 (bs.getD j 0 % 7) (by omega)
    exact ⟨h3, by unfold mskF; omega, fun _ => h4⟩
def isBy (w : D) (bs : List Nat) : Prop := w = .nils ∧ bs = [] ∨ w = .sl (bs.map fun b : Nat => D.int .u8 (b : Int)) bs.length
theorem isBy.len {w : D} {l : List Nat} (h : isBy w l) : lenc (.c (.d w)) = some (.c (.d (.int .i64 (l.length : Int))), []) := by
  rcases h with ⟨rfl, rfl⟩ | rfl <;> rfl
theorem isBy.at {w : D} {l : List Nat} (h : isBy w l) {i : Nat} (hi : i < l.length) : ∃ t, ixac 1 i (.c (.d w)) = some (.c (.d (.ip (D.int .u8 (l.getD i 0 : Int) :: t))), []) := by
  rcases h with ⟨rfl, rfl⟩ | rfl
  · exact absurd hi (Nat.not_lt_zero _)
  · refine ⟨(l.drop (i + 1)).map fun b : Nat => D.int .u8 (b : Int), ?_⟩
    have h2 : (l.map fun b : Nat => D.int .u8 (b : Int)).drop i = D.int .u8 (l.getD i 0 : Int) :: (l.drop (i + 1)).map fun b : Nat => D.int .u8 (b : Int) := by
      rw [List.getD_eq_getElem?_getD, List.getElem?_eq_getElem hi, ← List.map_drop, List.drop_eq_getElem_cons hi]
      rfl
    rw [ixac, if_pos ⟨hi, by simp; omega⟩, Nat.mul_one, h2]
end Mini
end Go.Proofs.YtgjlofpfbhioaaaGreatDoor
namespace Go.Proofs.YtgjlofpfbhioaaaGreatDoor
namespace Mini
open Go
variable {m : Int} {X : Ctx}
structure Ej where
  nm : Nat
  acc : Bool
  rs : Nat
  tt : Nat
  w : D
  bs : List Nat
def Ej.ds (x : Ej) : List D := [.int .u8 (x.nm : Int), .bool x.acc, .int .u8 (x.rs : Int), .int .u8 (x.tt : Int), x.w]
def j0 : Ej := ⟨0, false, 0, 0, .nils, []⟩
def wfJ (x : Ej) : Prop := isBy x.w x.bs ∧ (∀ b ∈ x.bs, b < 256) ∧ x.nm < 256 ∧ x.rs < 256 ∧ x.tt < 256
def isEjs (w : D) (l : List Ej) : Prop := w = .nils ∧ l = [] ∨ w = .sl (l.flatMap Ej.ds) l.length
def nameJ (k : Nat) : List Nat := if k = 0 then [97] else if k = 1 then [98] else if k = 2 then [99, 45, 50] else if k = 3 then [114, 111, 111, 116] else [122, 57]
abbrev namesJ : List C := [.d (.str [97]), .d (.str [98]), .d (.str [99, 45, 50]), .d (.str [114, 111, 111, 116]), .d (.str [122, 57])]
theorem nameJ_at {k : Nat} (h : k < 5) : (namesJ.drop k).take 1 = [.d (.str (nameJ k))] := by
  have : k = 0 ∨ k = 1 ∨ k = 2 ∨ k = 3 ∨ k = 4 := by omega
  rcases this with rfl | rfl | rfl | rfl | rfl <;> rfl
def enO (x : Ej) : En := if x.acc then ⟨nameJ (x.nm % 5), true, 0, 0, polF (mskF x.bs (min x.bs.length 4)), subF (mskF x.bs (min x.bs.length 4))⟩ else ⟨nameJ (x.nm % 5), false, 1 + x.rs % 3, ((x.tt % 64 : Nat) : Int), .nils, []⟩
abbrev R44 (j : Nat) : List V := [.any, .c (.ptr 0 0 0), .c (.ptr 1 0 0), .c (.ptr 3 0 0), i64 (j : Int), .any, .any]
def zE : List C := [.d (.str []), .d (.bool false), .d (.int .u8 0), .d (.int .i64 0), .d .nils]
theorem rg_ap (ts : List V) (H : Heap) (E : Env) (regs : List V) (exp : List (Nat × Nat)) (a b : A) (aps : List (A × A)) : regc (some (ts, H)) E regs exp ((a, b) :: aps) = if apart (look E regs ts a) (look E regs ts b) = true then regc (some (ts, H)) E regs exp aps else none := by
  by_cases h : apart (look E regs ts a) (look E regs ts b) = true
  · simp only [regc, List.all_cons, h, Bool.true_and, if_true]
  · simp only [regc, List.all_cons, h, Bool.false_and]
    rfl
theorem f44 (hX : XOj m X) {N : Nat} (hN : 100 ≤ N) {x : Ej} (hx : wfJ x) : vcallN X N 44 [.agg (x.ds.map .d)] = some (.agg ((enO x).ds.map .d)) := by
  obtain ⟨N, rfl⟩ : ∃ M, N = M + 1 := ⟨N - 1, by omega⟩
  have hF : fnsX 44 = some fn44' := rfl
  obtain ⟨nm, acc, rs, tt, w, bs⟩ := x
  obtain ⟨hb, hbs, hnm, hrs, htt⟩ := hx
  simp only at hb hbs hnm hrs htt
  have hlw := hb.len
  have q1 : (nm : Int).tmod 5 = ((nm % 5 : Nat) : Int) := (Int.ofNat_tmod nm 5).symm
  have q2 : (rs : Int).tmod 3 = ((rs % 3 : Nat) : Int) := (Int.ofNat_tmod rs 3).symm
  have q3 : (tt : Int).tmod 64 = ((tt % 64 : Nat) : Int) := (Int.ofNat_tmod tt 64).symm
  have q4 : IntKind.u8.wrap (1 + ((rs % 3 : Nat) : Int)) = ((1 + rs % 3 : Nat) : Int) := by
    rw [← wrap_u8 (n := 1 + rs % 3) (by omega)]; rfl
  have q5 := wrap_nat (k := tt % 64) (by omega)
  have hk : nm % 5 < 5 := by omega
  have q6 := nameJ_at hk
  have q7 : asNat (.c (.d (.int .u8 ((nm % 5 : Nat) : Int)))) = some (nm % 5) := asNat_nat _ _
  unfold Ej.ds
  simp only [List.map_cons, List.map_nil]
  cases acc
  · have hE : enO ⟨nm, false, rs, tt, w, bs⟩ = ⟨nameJ (nm % 5), false, 1 + rs % 3, ((tt % 64 : Nat) : Int), .nils, []⟩ := rfl
    rw [hE]
    simp only [En.ds, List.map_cons, List.map_nil]
    generalize nameJ (nm % 5) = nn at *
    generalize nm % 5 = k at *
    generalize 1 + rs % 3 = r1 at *
    generalize tt % 64 = t1 at *
    generalize hrs3 : rs % 3 = r3 at *
    refine vcall_of (r := .agg [.d (.str nn), .d (.bool false), .d (.int .u8 (r1 : Int)), .d (.int .i64 (t1 : Int)), .d .nils]) (H := [.cells [.d (.int .u8 (nm : Int)), .d (.bool false), .d (.int .u8 (rs : Int)), .d (.int .u8 (tt : Int)), .d w] 0 false, .cells [.d (.str nn), .d (.bool false), .d (.int .u8 (r1 : Int)), .d (.int .i64 (t1 : Int)), .d .nils] 0 false, .cells namesJ 0 false, .cells [.d (.str nn), .d (.bool false), .d (.int .u8 (r1 : Int)), .d (.int .i64 (t1 : Int)), .d .nils] 0 false]) ?_ rfl
    rw [hX.fn hF]
    refine (rf_fin _ _ _ _ _ _ _ _ _ (by rfl)).trans ?_
    have ap : apart (.c (.ptr 0 0 3)) (.c (.ptr 3 0 2)) = true := rfl
    simp only [ob?, lay, rep, splice, rg_ap, ap, q1, q2, q3, q4, q5, q6, q7, hk, List.take, List.drop, List.map_cons, List.map_nil, List.set_cons_zero, List.set_cons_succ, Bool.not_false, ↓sp_ixa, evs, Int.reduceEq, Nat.reduceAdd, Nat.reduceLeDiff, Nat.reduceSub]
  · have hE : enO ⟨nm, true, rs, tt, w, bs⟩ = ⟨nameJ (nm % 5), true, 0, 0, polF (mskF bs (min bs.length 4)), subF (mskF bs (min bs.length 4))⟩ := rfl
    rw [hE]
    simp only [En.ds, List.map_cons, List.map_nil]
    generalize nameJ (nm % 5) = nn at *
    generalize nm % 5 = k at *
    have hit : iter (some [1, 2, 3, 4]) 4 (exec (zenv X N) N false fn44L0) N ⟨R44 0, [.cells [.d (.int .u8 (nm : Int)), .d (.bool true), .d (.int .u8 (rs : Int)), .d (.int .u8 (tt : Int)), .d w] 0 false, .cells zE 0 false, .cells namesJ 0 false, .cells [.d (.str nn), .d (.bool true), .d (.int .u8 0), .d (.int .i64 0), .d (polF (mskF bs 0))] 0 false]⟩ = some (.exit 0, ⟨[.any, .c (.ptr 0 0 0), .c (.ptr 1 0 0), .c (.ptr 3 0 0), i64 ((min bs.length 4 : Nat) : Int), .any, bl false], [.cells [.d (.int .u8 (nm : Int)), .d (.bool true), .d (.int .u8 (rs : Int)), .d (.int .u8 (tt : Int)), .d w] 0 false, .cells zE 0 false, .cells namesJ 0 false, .cells [.d (.str nn), .d (.bool true), .d (.int .u8 0), .d (.int .i64 0), .d (polF (mskF bs (min bs.length 4)))] 0 false]⟩) := by
      refine iter_to (fun j => ⟨R44 j, [.cells [.d (.int .u8 (nm : Int)), .d (.bool true), .d (.int .u8 (rs : Int)), .d (.int .u8 (tt : Int)), .d w] 0 false, .cells zE 0 false, .cells namesJ 0 false, .cells [.d (.str nn), .d (.bool true), .d (.int .u8 0), .d (.int .i64 0), .d (polF (mskF bs j))] 0 false]⟩) (e := .exit 0) (fun h => by cases h) (min bs.length 4) 0 N (fun j _ hj => ?_) ?_ (by omega)
      · have hj1 : j < bs.length := by omega
        have h4 : (j : Int) < (bs.length : Int) := by omega
        have h5 : (j : Int) < 4 := by omega
        have h6 := wrap_succ (k := j) (by omega)
        obtain ⟨t, h1⟩ := hb.at hj1
        have hm : bs.getD j 0 ∈ bs := by
          rw [List.getD_eq_getElem?_getD, List.getElem?_eq_getElem hj1]; exact List.getElem_mem _
        have h32 := hX.x.vc (k := 32) (F := fn32) rfl (f32 hX.x (N := N) (by omega) (hbs _ hm))
        obtain ⟨k1, k2, _⟩ := mskF_ok bs j
        have h78 := hX.x.vc (k := 78) (F := fn78) rfl (f78 hX.x (N := N) (by omega) k1 (by omega) (show bs.getD j 0 % 7 < 7 by omega))
        have hM : mskF bs (j + 1) = addF (mskF bs j) (bs.getD j 0 % 7) := rfl
        rw [hM]
        have hlo := oC_len (fewO_wf (bs.getD j 0 % 7))
        have hd : List.map C.d (oD (fewO (bs.getD j 0 % 7))) = oC (fewO (bs.getD j 0 % 7)) := rfl
        have hm2 : ∀ H : Heap, mapO (deepC H deepMax) (oC (fewO (bs.getD j 0 % 7))) = some (oD (fewO (bs.getD j 0 % 7))) := fun H => mapO_d H _ _
        have hro : ∀ H : Heap, (oC (fewO (bs.getD j 0 % 7))).flatMap (reachC H deepMax) = [] := fun H => reach_d H _ (oC_d _)
        have hfo := oC_flat (fewO (bs.getD j 0 % 7))
        generalize fewO (bs.getD j 0 % 7) = o at *
        generalize polF (addF (mskF bs j) (bs.getD j 0 % 7)) = s' at *
        generalize polF (mskF bs j) = s at *
        generalize bs.getD j 0 = b at *
        refine ⟨⟨[.any, .c (.ptr 0 0 0), .c (.ptr 1 0 0), .c (.ptr 3 0 0), i64 ((j + 1 : Nat) : Int), .any, bl true], [.cells [.d (.int .u8 (nm : Int)), .d (.bool true), .d (.int .u8 (rs : Int)), .d (.int .u8 (tt : Int)), .d w] 0 false, .cells zE 0 false, .cells namesJ 0 false, .cells [.d (.str nn), .d (.bool true), .d (.int .u8 0), .d (.int .i64 0), .d s'] 0 false]⟩, ?_, gc_le (Nat.le_refl 4)⟩
        simp only [fn44L0, R44, ob?, splice, hlw, h1, h4, h5, h6, h32, h78, hd, hm2, hro, hfo, List.take, List.drop, List.map_cons, List.map_nil, List.set_cons_zero, List.set_cons_succ, freeze_nil, reachV, reachC, ite_self, List.flatMap_cons, List.flatMap_nil, List.append_nil, ↓sp_len, ↓sp_ixa, evs, Nat.reduceAdd, Nat.reduceLeDiff]
      · rw [Nat.zero_add]
        by_cases h : ((min bs.length 4 : Nat) : Int) < (bs.length : Int)
        · have h5 : ¬ ((min bs.length 4 : Nat) : Int) < 4 := by omega
          simp only [fn44L0, R44, ob?, hlw, h, h5, List.take, List.drop, ↓sp_len, evs]
        · simp only [fn44L0, R44, ob?, hlw, h, List.take, List.drop, ↓sp_len, evs]
    have hs0 : polF (mskF bs 0) = .nils := rfl
    rw [hs0] at hit
    simp only [R44, i64, bl, Int.natCast_zero, zE] at hit
    generalize polF (mskF bs (min bs.length 4)) = pl at *
    generalize ((min bs.length 4 : Nat) : Int) = mn at *
    refine vcall_of (r := .agg [.d (.str nn), .d (.bool true), .d (.int .u8 0), .d (.int .i64 0), .d pl]) (H := [.cells [.d (.int .u8 (nm : Int)), .d (.bool true), .d (.int .u8 (rs : Int)), .d (.int .u8 (tt : Int)), .d w] 0 false, .cells [.d (.str nn), .d (.bool true), .d (.int .u8 0), .d (.int .i64 0), .d pl] 0 false, .cells namesJ 0 false, .cells [.d (.str nn), .d (.bool true), .d (.int .u8 0), .d (.int .i64 0), .d pl] 0 false]) ?_ rfl
    rw [hX.fn hF]
    refine (rf_fin _ _ _ _ _ _ _ _ _ (by rfl)).trans ?_
    simp only [ob?, lay, rep, splice, hit, q1, q6, q7, hk, List.take, List.drop, List.map_cons, List.map_nil, List.set_cons_zero, List.set_cons_succ, Bool.not_true, ↓sp_ixa, evs, Int.reduceEq, Nat.reduceAdd, Nat.reduceLeDiff, Nat.reduceBEq, Nat.reduceSub]
end Mini
end Go.Proofs.YtgjlofpfbhioaaaGreatDoor
namespace Go.Proofs.YtgjlofpfbhioaaaGreatDoor
namespace Mini
open Go
variable {m : Int} {X : Ctx}
theorem isEjs.len {w : D} {l : List Ej} (h : isEjs w l) : lenc (.c (.d w)) = some (.c (.d (.int .i64 (l.length : Int))), []) := by
  rcases h with ⟨rfl, rfl⟩ | rfl <;> rfl
theorem dropJ {l : List Ej} {i : Nat} (h : i < l.length) : l.drop i = l.getD i j0 :: l.drop (i + 1) := by
  rw [List.getD_eq_getElem?_getD, List.getElem?_eq_getElem h]
  exact List.drop_eq_getElem_cons h
theorem isEjs.at {w : D} {l : List Ej} (h : isEjs w l) {i : Nat} (hi : i < l.length) : ∃ t, ixac 5 i (.c (.d w)) = some (.c (.d (.ip (Ej.ds (l.getD i j0) ++ t))), []) := by
  rcases h with ⟨rfl, rfl⟩ | rfl
  · exact absurd hi (Nat.not_lt_zero _)
  · refine ⟨(l.drop (i + 1)).flatMap Ej.ds, ?_⟩
    have hl : (l.flatMap Ej.ds).length = l.length * 5 := flD_len (fun _ _ => rfl)
    rw [ixac, if_pos ⟨hi, by rw [hl]; omega⟩, flD_drop (f := Ej.ds) (k := 5) (fun _ _ => rfl), dropJ hi, List.flatMap_cons]
theorem getJ_mem {l : List Ej} {i : Nat} (h : i < l.length) : l.getD i j0 ∈ l := by
  rw [List.getD_eq_getElem?_getD, List.getElem?_eq_getElem h]
  exact List.getElem_mem h
def eC (l : List En) : List C := (l.flatMap En.ds).map .d
theorem eC_len (l : List En) : (eC l).length = l.length * 5 := by
  rw [eC, List.length_map, flD_len (k := 5) (fun _ _ => rfl)]
theorem eC_snoc (l : List En) (e : En) : eC (l ++ [e]) = eC l ++ e.ds.map .d := by simp [eC]
theorem eC_u (n : Nat) (l : List En) : (eC l).all (uC n) = true := by
  rw [List.all_eq_true]
  intro c hc
  obtain ⟨d, _, rfl⟩ := List.mem_map.1 hc
  rfl
def lstJ (xs : List Ej) (n : Nat) : List En := (List.range n).map fun i => enO (xs.getD i j0)
theorem lstJ_len (xs : List Ej) (n : Nat) : (lstJ xs n).length = n := by simp [lstJ]
theorem lstJ_succ (xs : List Ej) (n : Nat) : lstJ xs (n + 1) = lstJ xs n ++ [enO (xs.getD n j0)] := by simp [lstJ, List.range_succ]
theorem nameJ_ok : ∀ k, k < 5 → nameB (nameJ k) = true := by decide
theorem enO_ok (x : Ej) : (enO x).chk = 0 ∧ wfE (enO x) ∧ (enO x).l.length ≤ 7 := by
  have hn := nameJ_ok (x.nm % 5) (by omega)
  unfold enO
  cases x.acc
  · refine ⟨?_, ⟨.inl ⟨rfl, rfl⟩, fun _ h => by cases h⟩, by simp⟩
    simp only [En.chk, Bool.false_eq_true, if_false]
    unfold chkE
    rw [if_neg (by rw [hn]; simp), if_neg (by simp only [badE, reduceCtorEq, false_and, true_and, false_or, List.length_nil]; omega)]
    decide
  · obtain ⟨k1, _⟩ := mskF_ok x.bs (min x.bs.length 4)
    obtain ⟨k2, k3, _⟩ := okF_at k1
    refine ⟨?_, ⟨polF_is _, subF_wf _⟩, k3⟩
    simp only [En.chk, if_true]
    unfold chkE
    rw [if_neg (by rw [hn]; simp), if_neg (by simp [badE]), k2]
theorem mem_lstJ {xs : List Ej} {n : Nat} {e : En} (h : e ∈ lstJ xs n) : ∃ i, i < n ∧ e = enO (xs.getD i j0) := by
  obtain ⟨i, h1, h2⟩ := List.mem_map.1 h
  exact ⟨i, List.mem_range.1 h1, h2.symm⟩
theorem lstJ_ok (xs : List Ej) (n : Nat) : (∀ e ∈ lstJ xs n, e.chk = 0) ∧ wfEs (lstJ xs n) ∧ ∀ e ∈ lstJ xs n, e.l.length ≤ 7 := by
  refine ⟨fun e he => ?_, fun e he => ?_, fun e he => ?_⟩ <;> obtain ⟨i, _, rfl⟩ := mem_lstJ he
  · exact (enO_ok _).1
  · exact (enO_ok _).2.1
  · exact (enO_ok _).2.2
theorem f35 (hX : XOj m X) {N : Nat} (hN : 200 ≤ N) {w : D} {xs : List Ej} (hw : isEjs w xs) (hx : ∀ x ∈ xs, wfJ x) : vcallN X N 35 [.c (.d w)] = some (.c (.d (.sl ((lstJ xs (min xs.length 12)).flatMap En.ds) (min xs.length 12)))) := by
  obtain ⟨N, rfl⟩ : ∃ M, N = M + 1 := ⟨N - 1, by omega⟩
  have hF : fnsX 35 = some fn35' := rfl
  have hlw := hw.len
  have hit : iter (some [0, 2, 3]) 1 (exec (zenv X N) N false fn35L0) N ⟨[.c (.d w), .any, .c (.os 0 0 0 0 5 none), i64 ((0 : Nat) : Int), .any], [.cells (eC (lstJ xs 0)) 0 false]⟩ = some (.exit 0, ⟨[.c (.d w), .any, .c (.os 0 (min xs.length 12) 0 (min xs.length 12) 5 none), i64 ((min xs.length 12 : Nat) : Int), bl false], [.cells (eC (lstJ xs (min xs.length 12))) (min xs.length 12) false]⟩) := by
    refine iter_to (fun j => ⟨[.c (.d w), .any, .c (.os 0 j 0 j 5 none), i64 (j : Int), .any], [.cells (eC (lstJ xs j)) j false]⟩) (e := .exit 0) (fun h => by cases h) (min xs.length 12) 0 N (fun j _ hj => ?_) ?_ (by omega)
    · have hj1 : j < xs.length := by omega
      have h4 : (j : Int) < (xs.length : Int) := by omega
      have h5 : (j : Int) < 12 := by omega
      have h6 := wrap_succ (k := j) (by omega)
      obtain ⟨t, h1⟩ := hw.at hj1
      have h44 := hX.vc (k := 44) (F := fn44) rfl (f44 hX (N := N) (by omega) (hx _ (getJ_mem hj1)))
      rw [lstJ_succ, eC_snoc]
      have hal := eC_len (lstJ xs j)
      rw [lstJ_len] at hal
      have htk : (eC (lstJ xs j)).take (j * 5) = eC (lstJ xs j) := List.take_of_length_le (by omega)
      have k1 : j + 1 ≤ 1073741824 := by omega
      have k2 : j + 1 < genK := by show j + 1 < 1000000; omega
      have hu := eC_u 1 (lstJ xs j)
      generalize enO (xs.getD j j0) = a at *
      generalize xs.getD j j0 = x at *
      generalize eC (lstJ xs j) = ac at *
      simp only [Ej.ds] at h1 h44
      simp only [En.ds, List.map_cons, List.map_nil] at h44 ⊢
      refine ⟨⟨[.c (.d w), .any, .c (.os 0 (j + 1) 0 (j + 1) 5 none), i64 ((j + 1 : Nat) : Int), bl true], [.cells (ac ++ [.d (.str a.s), .d (.bool a.acc), .d (.int .u8 (a.r : Int)), .d (.int .i64 a.t), .d a.w]) (j + 1) false] ++ [.cells [.d (.str a.s), .d (.bool a.acc), .d (.int .u8 (a.r : Int)), .d (.int .i64 a.t), .d a.w] 0 false]⟩, ?_, ?_⟩
      · simp only [fn35L0, ob?, elems, lay, rep, splice, hlw, h1, h4, h5, h6, h44, hal, htk, k1, k2, Option.map_none, Nat.one_ne_zero, Nat.le_refl, List.cons_append, List.nil_append, List.take, List.drop, List.map_cons, List.map_nil, List.set_cons_zero, freeze_nil, reachV, reachC, ite_self, List.flatMap_cons, List.flatMap_nil, ↓sp_len, ↓sp_ixa, evs, Nat.reduceAdd]
      · refine tidy_back (by simp) rfl (by rfl) (Hp.cons ?_ Hp.nil)
        simp only [uO, List.all_append, Bool.and_eq_true]
        exact ⟨hu, rfl⟩
    · rw [Nat.zero_add]
      by_cases h : ((min xs.length 12 : Nat) : Int) < (xs.length : Int)
      · have h5 : ¬ ((min xs.length 12 : Nat) : Int) < 12 := by omega
        simp only [fn35L0, hlw, h, h5, ↓sp_len, evs]
      · simp only [fn35L0, hlw, h, ↓sp_len, evs]
  have ha0 : eC (lstJ xs 0) = [] := rfl
  have hal := eC_len (lstJ xs (min xs.length 12))
  rw [lstJ_len] at hal
  rw [ha0] at hit
  simp only [i64, bl, Int.natCast_zero] at hit
  refine vcall_of (r := .c (.os 0 (min xs.length 12) 0 (min xs.length 12) 5 none)) (H := [.cells (eC (lstJ xs (min xs.length 12))) (min xs.length 12) false]) ?_ ?_
  · rw [hX.fn hF]
    refine (rf_fin _ _ _ _ _ _ _ _ _ (by rfl)).trans ?_
    simp only [ex_fresh, frn_nil, hit, evs, Nat.reduceAdd, Nat.reduceBEq, Nat.reduceSub]
  · have p2 : ((eC (lstJ xs (min xs.length 12))).drop 0).take (min xs.length 12 * 5) = ((lstJ xs (min xs.length 12)).flatMap En.ds).map .d := by
      rw [List.drop_zero, List.take_of_length_le (by omega)]; rfl
    have p1 : 0 + min xs.length 12 * 5 ≤ (eC (lstJ xs (min xs.length 12))).length := by omega
    simp only [deepV, deepV1, deepMax, deepC, ob?, if_true, if_pos p1, p2, mapO_d, Option.map_some]
end Mini
end Go.Proofs.YtgjlofpfbhioaaaGreatDoor
namespace Go.Proofs.YtgjlofpfbhioaaaGreatDoor
namespace Mini
open Go
variable {m : Int} {X : Ctx}
def fn99A : I := .reg false [⟨none, .mov (.r 17)⟩] [(8, 0)] []
def fn99B : I := .block 2 ( .seq (.reg false [⟨none, .mov (.r 8)⟩, ⟨none, .vc 94 [(.l 0)]⟩, ⟨none, .mov (.l 0)⟩, ⟨none, .ext (.l 0) 0⟩, ⟨none, .ext (.l 1) 1⟩, ⟨none, .pre⟩, ⟨none, .ini 17 (.l 2)⟩, ⟨none, .mov (.l 2)⟩] [(9, 1), (10, 0)] []) ( .seq (.seq (.reg false [⟨none, .mov (.r 10)⟩, ⟨none, .bin .neq (.l 0) (.v (.c (.d (.int .i64 0))))⟩] [(18, 0)] []) ( .cond (.r 18) ( .seq (.reg false [⟨none, .bld [.str [], .bool false, .int .u8 0, .int .i64 0, .nils] []⟩, ⟨none, .st 5 (.r 1) (.l 0)⟩, ⟨none, .st 1 (.r 2) (.v (.c (.d (.int .i64 0))))⟩, ⟨none, .st 1 (.r 3) (.v (.c (.d (.bool false))))⟩] [] []) ( .ret)) ( .skip))) ( .reg false [⟨none, .fa 4 (.r 6)⟩, ⟨none, .ld false 1 (.l 0)⟩, ⟨none, .ld true 17 (.r 9)⟩, ⟨none, .bsl 1 17 [.int .u8 0, .int .u32 0, .int .u32 0, .int .u32 0, .int .u32 0, .int .u32 0, .int .u32 0, .int .u32 0, .int .u32 0, .int .u32 0, .int .u32 0, .int .u32 0, .int .u32 0, .int .u32 0, .int .u32 0, .int .u32 0, .int .u32 0] [(0, 17, (.l 0))]⟩, ⟨none, .app 17 (.l 2) (.l 0)⟩, ⟨none, .fa 4 (.r 6)⟩, ⟨none, .st 1 (.l 0) (.l 1)⟩] [] [])))
def fn99'' : Fn := ⟨1, 23, [0, 2, 3, 4, 5, 6, 7, 8, 9, 10, 11, 12, 18, 35, 39, 49, 53, 54, 61, 69, 79, 87, 102], [.cell 1 5 true, .cell 2 1 false, .cell 3 1 false], .seq (.reg false [⟨none, .new [.str [], .bool false, .int .u8 0, .int .i64 0, .nils]⟩, ⟨none, .new [.int .i64 0]⟩, ⟨none, .new [.bool false]⟩] [(1, 2), (2, 1), (3, 0)] []) ( .seq (.reg false [⟨none, .mov (.r 0)⟩, ⟨none, .pc 92 [(.l 0), (.v (.c (.d (.str [32]))))]⟩, ⟨none, .mov (.l 0)⟩] [(4, 0)] []) ( .seq (.reg false [⟨none, .mov (.r 4)⟩, ⟨none, .len (.l 0)⟩, ⟨none, .mov (.l 0)⟩] [(5, 0)] []) ( .seq (.seq (.reg false [⟨none, .mov (.r 5)⟩, ⟨none, .bin .lss (.l 0) (.v (.c (.d (.int .i64 4))))⟩] [(12, 0)] []) ( .cond (.r 12) ( .seq (.reg false [⟨none, .bld [.str [], .bool false, .int .u8 0, .int .i64 0, .nils] []⟩, ⟨none, .st 5 (.r 1) (.l 0)⟩, ⟨none, .st 1 (.r 2) (.v (.c (.d (.int .i64 0))))⟩, ⟨none, .st 1 (.r 3) (.v (.c (.d (.bool false))))⟩] [] []) ( .ret)) ( .skip))) ( .seq (.reg true [⟨none, .mov (.r 4)⟩, ⟨none, .ixa 1 (.l 0) (.v (.c (.d (.int .i64 0))))⟩, ⟨none, .ld false 1 (.l 0)⟩, ⟨none, .mov (.r 4)⟩, ⟨none, .ixa 1 (.l 0) (.v (.c (.d (.int .i64 1))))⟩, ⟨none, .ld false 1 (.l 0)⟩, ⟨none, .bin .eql (.l 0) (.v (.c (.d (.str [97, 99, 99, 101, 112, 116, 101, 100]))))⟩, ⟨none, .bld [.str [], .bool false, .int .u8 0, .int .i64 0, .nils] [(0, 1, (.l 4)), (1, 1, (.l 0))]⟩, ⟨none, .pre⟩, ⟨none, .ini 5 (.l 1)⟩] [(6, 0)] []) ( .seq (.reg false [⟨none, .mov (.r 4)⟩, ⟨none, .mov (.r 5)⟩, ⟨none, .bin .sub (.l 0) (.v (.c (.d (.int .i64 1))))⟩, ⟨none, .ixa 1 (.l 2) (.l 0)⟩, ⟨none, .ld false 1 (.l 0)⟩, ⟨none, .pc 122 [(.l 0), (.v (.c (.d (.int .i64 5))))]⟩, ⟨none, .mov (.l 0)⟩] [(7, 0)] []) ( .seq (.block 0 ( .seq (.reg false [⟨none, .mov (.r 7)⟩, ⟨none, .bin .lss (.l 0) (.v (.c (.d (.int .i64 0))))⟩, ⟨none, .mov (.l 0)⟩] [(13, 0)] []) ( .cond (.r 13) ( .seq (.reg false [⟨none, .bld [.str [], .bool false, .int .u8 0, .int .i64 0, .nils] []⟩, ⟨none, .st 5 (.r 1) (.l 0)⟩, ⟨none, .st 1 (.r 2) (.v (.c (.d (.int .i64 0))))⟩, ⟨none, .st 1 (.r 3) (.v (.c (.d (.bool false))))⟩] [] []) ( .ret)) ( .seq (.reg false [⟨none, .fa 1 (.r 6)⟩, ⟨none, .ld false 1 (.l 0)⟩, ⟨none, .mov (.l 0)⟩, ⟨some (0, true), .mov (.r 5)⟩, ⟨some (1, true), .bin .eql (.l 0) (.v (.c (.d (.int .i64 4))))⟩, ⟨none, .pick (.l 2) (.l 0) (.v (.c (.d (.bool false))))⟩, ⟨none, .mov (.l 0)⟩] [(14, 0)] []) ( .cond (.r 14) ( .seq (.seq (.reg false [⟨none, .mov (.r 4)⟩, ⟨none, .ixa 1 (.l 0) (.v (.c (.d (.int .i64 2))))⟩, ⟨none, .ld false 1 (.l 0)⟩, ⟨none, .bin .eql (.l 0) (.v (.c (.d (.str [45]))))⟩] [(15, 0)] []) ( .cond (.r 15) ( .exit 0) ( .skip))) ( .seq (.reg false [⟨none, .mov (.r 4)⟩, ⟨none, .ixa 1 (.l 0) (.v (.c (.d (.int .i64 2))))⟩, ⟨none, .ld false 1 (.l 0)⟩, ⟨none, .hc (.v (.c (.d (.fn 93 [] [])))) [(.l 0), (.v (.c (.d (.str [44]))))]⟩] [(16, 0)] []) ( .block 1 ( .seq (.fresh 6 (some 4) 17) ( .rf (.r 16) [17] fn99A fn99B))))) ( .seq (.reg false [⟨none, .mov (.r 4)⟩, ⟨none, .ixa 1 (.l 0) (.v (.c (.d (.int .i64 1))))⟩, ⟨none, .ld false 1 (.l 0)⟩, ⟨none, .bin .eql (.l 0) (.v (.c (.d (.str [114, 101, 106, 101, 99, 116, 101, 100]))))⟩, ⟨none, .mov (.l 0)⟩, ⟨some (0, true), .mov (.r 5)⟩, ⟨some (1, true), .bin .eql (.l 0) (.v (.c (.d (.int .i64 5))))⟩, ⟨none, .pick (.l 2) (.l 0) (.v (.c (.d (.bool false))))⟩, ⟨none, .mov (.l 0)⟩] [(19, 0)] []) ( .cond (.r 19) ( .seq (.seq (.reg false [⟨none, .mov (.v (.c (.d (.int .u8 1))))⟩] [(11, 0)] []) ( .block 3 ( .loop (some [1, 2, 3, 4, 6, 7, 11]) fn99L0))) ( .seq (.reg false [⟨none, .mov (.r 4)⟩, ⟨none, .ixa 1 (.l 0) (.v (.c (.d (.int .i64 3))))⟩, ⟨none, .ld false 1 (.l 0)⟩, ⟨none, .pc 122 [(.l 0), (.v (.c (.d (.int .i64 3))))]⟩, ⟨none, .fa 3 (.r 6)⟩, ⟨none, .st 1 (.l 0) (.l 1)⟩] [] []) ( .seq (.reg false [⟨none, .fa 2 (.r 6)⟩, ⟨none, .ld false 1 (.l 0)⟩, ⟨none, .bin .eql (.l 0) (.v (.c (.d (.int .u8 0))))⟩, ⟨none, .mov (.l 0)⟩, ⟨some (0, false), .fa 3 (.r 6)⟩, ⟨some (1, false), .ld false 1 (.l 0)⟩, ⟨some (2, false), .bin .lss (.l 0) (.v (.c (.d (.int .i64 0))))⟩, ⟨none, .pick (.l 3) (.v (.c (.d (.bool true)))) (.l 0)⟩] [(22, 0)] []) ( .cond (.r 22) ( .seq (.reg false [⟨none, .bld [.str [], .bool false, .int .u8 0, .int .i64 0, .nils] []⟩, ⟨none, .st 5 (.r 1) (.l 0)⟩, ⟨none, .st 1 (.r 2) (.v (.c (.d (.int .i64 0))))⟩, ⟨none, .st 1 (.r 3) (.v (.c (.d (.bool false))))⟩] [] []) ( .ret)) ( .skip))))) ( .seq (.reg false [⟨none, .bld [.str [], .bool false, .int .u8 0, .int .i64 0, .nils] []⟩, ⟨none, .st 5 (.r 1) (.l 0)⟩, ⟨none, .st 1 (.r 2) (.v (.c (.d (.int .i64 0))))⟩, ⟨none, .st 1 (.r 3) (.v (.c (.d (.bool false))))⟩] [] []) ( .ret))))))))) ( .seq (.reg false [⟨none, .ld true 5 (.r 6)⟩, ⟨none, .mov (.r 7)⟩, ⟨none, .st 5 (.r 1) (.l 1)⟩, ⟨none, .st 1 (.r 2) (.l 1)⟩, ⟨none, .st 1 (.r 3) (.v (.c (.d (.bool true))))⟩] [] []) ( .ret))))))))⟩
def enK (name : List Nat) (c : C) : List C := [.d (.str name), .d (.bool true), .d (.int .u8 0), .d (.int .i64 0), c]
abbrev fnSj : C := .fn 148 [] [.ptr 5 0 0, .ptr 4 0 0, .ptr 6 0 0]
abbrev regs99 (s : List Nat) (q : List (List Nat)) (st : Int) : List V := [strV s, .c (.ptr 0 0 0), .c (.ptr 1 0 0), .c (.ptr 2 0 0), .c (.d (slS q)), i64 4, .c (.ptr 3 0 0), i64 st, .any, .any, .any, .any, bl false, bl false, bl true, bl false, .c fnSj, .any, .any, .any, .any, .any, .any]
def hp99 (s : List Nat) (q : List (List Nat)) (st : Int) (name : List Nat) (ps : List (List Nat)) (r : List Nat) (j : Nat) (t : Bool) : Heap := [.cells zE 0 false, .cells [.d (.int .i64 0)] 0 false, .cells [.d (.bool false)] 0 false, .cells (enK name (.os 7 j 0 j 17 none)) 0 false, .cells [.d (.str r)] 0 false, .cells [.d (.str [44])] 0 false, .cells [.d (.int .i64 0)] 0 false, .cells (flC (osP ps j)) j false, .loop t none (regs99 s q st) [17] fn99A fn99B]
theorem yl99 (hX : XOj m X) {N : Nat} {s : List Nat} {q : List (List Nat)} {st : Int} {name r : List Nat} {ps : List (List Nat)} {j : Nat} (hN : (ps.getD j []).length + 70 ≤ N) (hj : j < ps.length) (hl : (ps.getD j []).length < 1000000) (hj2 : j + 1 < 900000) (hp : (parseO (ps.getD j [])).2 = 0) :
    ∃ t, callN X N (.yld 8) [strV (ps.getD j [])] (hp99 s q st name ps r j true) = some (bl true, hp99 s q st name ps r (j + 1) true ++ t) := by
  obtain ⟨N, rfl⟩ : ∃ M, N = M + 1 := ⟨N - 1, by omega⟩
  have h94 := hX.x.vc (k := 94) (F := fn94) rfl (f94 hX.x (N := N) (s := ps.getD j []) (by omega) (by omega))
  have hwf := parseO_wf (ps.getD j [])
  have hos := osP_succ ps hj
  have hlo := osP_len ps (j := j) (by omega)
  have hfl := flC_len (osP_wf ps j)
  rw [hlo] at hfl
  rw [hp] at h94
  unfold hp99
  rw [hos]
  generalize (parseO (ps.getD j [])).1 = o at *
  generalize osP ps j = l at *
  generalize ps.getD j [] = x at *
  have h6 := oC_len hwf
  have hd : ∀ o : Oid, List.map C.d (oD o) = oC o := fun _ => rfl
  have hap : flC (l ++ [o]) = flC l ++ oC o := by rw [flC_app, flC_one]
  have htk : (flC l).take (j * 17) = flC l := List.take_of_length_le (by omega)
  have hl1 := lay1 hwf
  have k1 : j + 1 ≤ 1073741824 := by omega
  have k2 : j + 1 < genK := by show j + 1 < 1000000; omega
  have hfo := oC_flat o
  rw [hap]
  simp only [strV, i64, Int.natCast_zero] at h94
  refine ⟨[.cells (oC o) 0 false, .cells (oC o) 0 false], ?_⟩
  refine (callN_yld (X := X) (n := N) (id := 8) (p := 17) (regs := regs99 s q st) (regs1 := regs99 s q st) (regs2 := regs99 s q st) (ps1 := [17]) (ps2 := [17]) (asg := fn99A) (body := fn99B) (asg1 := fn99A) (body1 := fn99B) (asg2 := fn99A) (body2 := fn99B) (s1 := ⟨[strV s, .c (.ptr 0 0 0), .c (.ptr 1 0 0), .c (.ptr 2 0 0), .c (.d (slS q)), i64 4, .c (.ptr 3 0 0), i64 st, strV x, .any, .any, .any, bl false, bl false, bl true, bl false, .c fnSj, strV x, .any, .any, .any, .any, .any], [.cells zE 0 false, .cells [.d (.int .i64 0)] 0 false, .cells [.d (.bool false)] 0 false, .cells (enK name (.os 7 j 0 j 17 none)) 0 false, .cells [.d (.str r)] 0 false, .cells [.d (.str [44])] 0 false, .cells [.d (.int .i64 0)] 0 false, .cells (flC l) j false, .loop true none (regs99 s q st) [17] fn99A fn99B]⟩)
    (s2 := ⟨[strV s, .c (.ptr 0 0 0), .c (.ptr 1 0 0), .c (.ptr 2 0 0), .c (.d (slS q)), i64 4, .c (.ptr 3 0 0), i64 st, strV x, .c (.ptr 9 0 0), i64 0, .any, bl false, bl false, bl true, bl false, .c fnSj, strV x, bl false, .any, .any, .any, .any], [.cells zE 0 false, .cells [.d (.int .i64 0)] 0 false, .cells [.d (.bool false)] 0 false, .cells (enK name (.os 7 (j + 1) 0 (j + 1) 17 none)) 0 false, .cells [.d (.str r)] 0 false, .cells [.d (.str [44])] 0 false, .cells [.d (.int .i64 0)] 0 false, .cells (flC l ++ oC o) (j + 1) false, .loop false none (regs99 s q st) [17] fn99A fn99B, .cells (oC o) 0 false, .cells (oC o) 0 false]⟩) (e := .nrm) rfl ?_ rfl ?_ rfl).trans rfl
  · simp only [fn99A, evs]
  · simp only [fn99B, zE, ob?, strV, enK, elems, splice, h94, h6, hfl, htk, hl1, k1, k2, List.take, List.drop, List.take_of_length_le (Nat.le_of_eq h6), List.set_cons_zero, List.set_cons_succ, List.map_cons, List.map_nil, freeze_nil, reachV, reachC, ite_self, List.flatMap_cons, List.flatMap_nil, Nat.le_refl, Nat.one_ne_zero, evs, Nat.reduceAdd]
theorem yl99b (hX : XOj m X) {N : Nat} {s : List Nat} {q : List (List Nat)} {st : Int} {name r : List Nat} {ps : List (List Nat)} {j : Nat} (hN : (ps.getD j []).length + 70 ≤ N) (hl : (ps.getD j []).length < 1000000) (hp : (parseO (ps.getD j [])).2 ≠ 0) :
    ∃ t, callN X N (.yld 8) [strV (ps.getD j [])] (hp99 s q st name ps r j true) = some (bl false, (hp99 s q st name ps r j true).set 8 (.loop false (some .ret) (regs99 s q st) [17] fn99A fn99B) ++ t) := by
  obtain ⟨N, rfl⟩ : ∃ M, N = M + 1 := ⟨N - 1, by omega⟩
  have h94 := hX.x.vc (k := 94) (F := fn94) rfl (f94 hX.x (N := N) (s := ps.getD j []) (by omega) (by omega))
  have hwf := parseO_wf (ps.getD j [])
  unfold hp99
  have g1 : ((((parseO (ps.getD j [])).2 : Nat) : Int) != 0) = true := by rw [bne_iff_ne]; omega
  generalize (parseO (ps.getD j [])).1 = o at *
  generalize (parseO (ps.getD j [])).2 = e at *
  generalize osP ps j = l at *
  generalize ps.getD j [] = x at *
  have h6 := oC_len hwf
  simp only [strV, i64] at h94
  have hfo := oC_flat o
  refine ⟨[.cells (oC o) 0 false], ?_⟩
  refine (callN_yld (X := X) (n := N) (id := 8) (p := 17) (regs := regs99 s q st) (regs1 := regs99 s q st) (regs2 := regs99 s q st) (ps1 := [17]) (ps2 := [17]) (asg := fn99A) (body := fn99B) (asg1 := fn99A) (body1 := fn99B) (asg2 := fn99A) (body2 := fn99B) (s1 := ⟨[strV s, .c (.ptr 0 0 0), .c (.ptr 1 0 0), .c (.ptr 2 0 0), .c (.d (slS q)), i64 4, .c (.ptr 3 0 0), i64 st, strV x, .any, .any, .any, bl false, bl false, bl true, bl false, .c fnSj, strV x, .any, .any, .any, .any, .any], [.cells zE 0 false, .cells [.d (.int .i64 0)] 0 false, .cells [.d (.bool false)] 0 false, .cells (enK name (.os 7 j 0 j 17 none)) 0 false, .cells [.d (.str r)] 0 false, .cells [.d (.str [44])] 0 false, .cells [.d (.int .i64 0)] 0 false, .cells (flC l) j false, .loop true none (regs99 s q st) [17] fn99A fn99B]⟩)
    (s2 := ⟨[strV s, .c (.ptr 0 0 0), .c (.ptr 1 0 0), .c (.ptr 2 0 0), .c (.d (slS q)), i64 4, .c (.ptr 3 0 0), i64 st, strV x, .c (.ptr 9 0 0), i64 (e : Int), .any, bl false, bl false, bl true, bl false, .c fnSj, strV x, bl true, .any, .any, .any, .any], [.cells zE 0 false, .cells [.d (.int .i64 0)] 0 false, .cells [.d (.bool false)] 0 false, .cells (enK name (.os 7 j 0 j 17 none)) 0 false, .cells [.d (.str r)] 0 false, .cells [.d (.str [44])] 0 false, .cells [.d (.int .i64 0)] 0 false, .cells (flC l) j false, .loop false none (regs99 s q st) [17] fn99A fn99B, .cells (oC o) 0 false]⟩) (e := .ret) rfl ?_ rfl ?_ rfl).trans rfl
  · simp only [fn99A, evs]
  · simp only [fn99B, zE, ob?, strV, lay, splice, h94, h6, g1, List.take, List.drop, List.set_cons_zero, List.set_cons_succ, List.map_cons, List.map_nil, freeze_nil, reachV, reachC, ite_self, List.flatMap_cons, List.flatMap_nil, evs, Nat.reduceAdd, Nat.reduceLeDiff]
abbrev R148j : List V := [.c (.yld 8), .c (.ptr 5 0 0), .c (.ptr 4 0 0), .c (.ptr 6 0 0), .any, .any, .any, .any, .any, .any, .any, .any]
theorem r148j (hX : XOj m X) {N : Nat} {s t : List Nat} {q : List (List Nat)} {st : Int} {name : List Nat} {j : Nat} (hN : t.length + 70 ≤ N) (ht : t.length < 800000) (hj : j + 1 < (splitN 44 t).length) (hp : (parseO ((splitN 44 t).getD j [])).2 = 0) :
    ∃ s', exec (zenv X N) N false fn148L0 ⟨R148j, hp99 s q st name (splitN 44 t) (restN 44 t j) j true⟩ = some (.nrm, s') ∧ tidy 9 (some [0, 1, 2, 3]) s' = ⟨R148j, hp99 s q st name (splitN 44 t) (restN 44 t (j + 1)) (j + 1) true⟩ := by
  obtain ⟨i, h1, h2, h3, h4⟩ := restN_round 44 t j hj
  obtain ⟨hl1, hl2⟩ := splitN_len 44 t
  have hx : ((splitN 44 t).getD j []).length ≤ t.length := hl2 _ (by
    rw [List.getD_eq_getElem?_getD, List.getElem?_eq_getElem (by omega)]
    exact List.getElem_mem _)
  obtain ⟨u, hy⟩ := yl99 hX (N := N) (s := s) (q := q) (st := st) (name := name) (r := restN 44 t j) (ps := splitN 44 t) (j := j) (by omega) (by omega) (by omega) (by omega) hp
  have hrl := restN_len 44 t j
  have hpc := p147 hX.x (N := N) (s := restN 44 t j) (c := 44)
  rw [h1] at hpc
  have w1 : IntKind.i64.wrap ((i : Int) + 0) = (i : Int) := by rw [Int.add_zero]; exact wrap_nat (by omega)
  have w2 := wrap_succ (k := i) (by omega)
  rw [← h4]
  have htk : (restN 44 t j).take (restN 44 t j).length = restN 44 t j := List.take_length
  have k1 : i ≤ (restN 44 t j).length := by omega
  have k2 : i + 1 ≤ (restN 44 t j).length := by omega
  have k3 : ¬ (i : Int) < 0 := by omega
  have hos : oInt (some i) = (i : Int) := rfl
  have hosu : (flC (osP (splitN 44 t) (j + 1))).all C.isD = true := flC_d _
  unfold hp99 zE at hy ⊢
  rw [← h3] at hy
  generalize restN 44 t j = r at *
  generalize osP (splitN 44 t) j = l at *
  generalize osP (splitN 44 t) (j + 1) = l' at *
  refine ⟨⟨[.c (.yld 8), .c (.ptr 5 0 0), .c (.ptr 4 0 0), .c (.ptr 6 0 0), .any, i64 (i : Int), strV (r.take i), .any, .any, .any, bl false, bl false], [.cells zE 0 false, .cells [.d (.int .i64 0)] 0 false, .cells [.d (.bool false)] 0 false, .cells (enK name (.os 7 (j + 1) 0 (j + 1) 17 none)) 0 false, .cells [.d (.str (r.drop (i + 1)))] 0 false, .cells [.d (.str [44])] 0 false, .cells [.d (.int .i64 0)] 0 false, .cells (flC l') (j + 1) false, .loop true none (regs99 s q st) [17] fn99A fn99B] ++ u⟩, ?_, ?_⟩
  · simp only [strV, bl] at hy
    simp only [fn148L0, R148j, zE, ob?, strV, optNat, splice, hpc, hos, hy, w1, w2, htk, k1, k2, k3, Int.natCast_one, Option.map_none, Bool.not_true, Nat.zero_le, Nat.le_refl, List.take, List.drop, List.set_cons_zero, List.set_cons_succ, List.map_cons, List.map_nil, freeze_nil, reachV, reachC, ite_self, List.flatMap_cons, List.flatMap_nil, evs]
  · refine gc_yes rfl ?_
    simp only [enK, zE, List.cons_append, List.nil_append, List.take_succ_cons, List.take_zero, List.all_cons, List.all_nil, Ob.under, undersC_d 9 _ hosu, Bool.and_true, Bool.and_self]
    rfl
end Mini
end Go.Proofs.YtgjlofpfbhioaaaGreatDoor
