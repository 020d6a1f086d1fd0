/-
  Texts read: walked.
-/
import Derived.Test.YtgjlofpfbhioaaaGreatDoorMiniJV
namespace Go.Proofs.YtgjlofpfbhioaaaGreatDoor
namespace Mini
open Go
variable {m : Int} {X : Ctx}
def decB (s : List Nat) : Bool := decide (s = [48]) || (decide (s ≠ []) && decide (s.getD 0 0 ≠ 48) && s.all isDig)
theorem digs_is (b : Nat) : digs.contains b = isDig b := by
  rw [Bool.eq_iff_iff]
  simp only [digs, isDig, List.contains_cons, List.contains_nil, Bool.or_false, Bool.or_eq_true, beq_iff_eq, Bool.and_eq_true, Nat.ble_eq]
  omega
theorem dropWhile_nil {α : Type} (p : α → Bool) : ∀ l : List α, l.dropWhile p = [] ↔ l.all p = true
  | [] => by simp
  | x :: l => by
    cases h : p x
    · simp [List.dropWhile, h]
    · simp only [List.dropWhile, h, List.all_cons, Bool.true_and]
      exact dropWhile_nil p l
theorem dropWhile_sub {α : Type} (p : α → Bool) : ∀ (l : List α), (∀ x ∈ l.dropWhile p, x ∈ l)
  | [] => by simp
  | x :: l => by
    cases h : p x
    · simp [List.dropWhile, h]
    · simp only [List.dropWhile, h]
      exact fun y hy => List.mem_cons_of_mem _ (dropWhile_sub p l y hy)
theorem dropWhile_head {α : Type} (p : α → Bool) : ∀ (l : List α) (x : α) (t : List α), l.dropWhile p = x :: t → p x = false
  | [], _, _, h => by simp at h
  | y :: l, x, t, h => by
    cases hy : p y
    · simp only [List.dropWhile, hy, List.cons.injEq] at h
      rw [← h.1]; exact hy
    · simp only [List.dropWhile, hy] at h
      exact dropWhile_head p l x t h
theorem trim_nil (s : List Nat) : (trimN digs s == []) = s.all isDig := by
  have hp : (fun b => digs.contains b) = isDig := funext digs_is
  unfold trimN
  have hp2 : (digs.contains ·) = isDig := hp
  rw [hp2]
  rw [Bool.eq_iff_iff, beq_iff_eq, dropWhile_nil]
  constructor
  · intro h
    have h1 : s.reverse.dropWhile isDig = [] := by
      cases hd : s.reverse.dropWhile isDig with
      | nil => rfl
      | cons x t =>
        have hx := dropWhile_head isDig _ _ _ hd
        rw [hd, List.all_eq_true] at h
        have := h x (by simp)
        rw [hx] at this; cases this
    have h2 := (dropWhile_nil isDig _).1 h1
    rw [List.all_eq_true] at h2 ⊢
    exact fun x hx => h2 x (List.mem_reverse.2 hx)
  · intro h
    rw [List.all_eq_true] at h ⊢
    exact fun x hx => h x (List.mem_reverse.1 (dropWhile_sub isDig _ x (List.mem_reverse.1 hx)))
theorem f118 (hX : XOk m X) {N : Nat} (hN : 1 ≤ N) {s : List Nat} (hs : s.length < 4294967281) : vcallN X N 118 [strV s] = some (bl (decB s)) := by
  obtain ⟨N, rfl⟩ : ∃ M, N = M + 1 := ⟨N - 1, by omega⟩
  refine vcall_of (r := bl (decB s)) (H := []) ?_ rfl
  rw [hX.fn (F := fn118) rfl]
  refine (rf_fin _ _ _ _ _ _ _ _ _ (by rfl)).trans ?_
  by_cases c1 : s = [48]
  · subst c1
    have g1 : (([48] : List Nat) == [48]) = true := rfl
    have g2 : decB [48] = true := rfl
    simp only [strV, binStr, g1, g2, evs, Nat.reduceSub]
  have g1 : (s == [48]) = false := by rw [beqS]; exact decide_eq_false c1
  by_cases c2 : s = []
  · subst c2
    have g2 : (([] : List Nat) == []) = true := rfl
    have g3 : decB [] = false := rfl
    simp only [strV, binStr, g1, g2, g3, Bool.not_true, evs, Nat.reduceSub]
  have g2 : (s == []) = false := by rw [beqS]; exact decide_eq_false c2
  have hp : 0 < s.length := by
    rcases Nat.eq_zero_or_pos s.length with h | h
    · exact absurd (List.length_eq_zero_iff.1 h) c2
    · exact h
  have h3 : s[0]? = some (s.getD 0 0) := by rw [List.getD_eq_getElem?_getD, List.getElem?_eq_getElem hp]; rfl
  by_cases c3 : s.getD 0 0 = 48
  · have g3 : decB s = false := by
      unfold decB
      rw [decide_eq_false c1, show decide (s.getD 0 0 ≠ 48) = false from by rw [c3]; rfl]
      simp
    rw [c3] at h3
    have g4 : (((48 : Nat) : Int) != 48) = false := rfl
    simp only [strV, binStr, g1, g2, g3, g4, h3, Bool.not_false, evs, Nat.reduceSub]
  · have g3 : decB s = s.all isDig := by
      unfold decB
      rw [decide_eq_false c1, decide_eq_true (show s ≠ [] from c2), decide_eq_true (show s.getD 0 0 ≠ 48 from c3)]
      rfl
    have g4 : ((s.getD 0 0 : Int) != 48) = true := by rw [bne_iff_ne]; omega
    have hpc : (zenv X N).prim 151 [.c (.d (.str s)), .c (.d (.str [48, 49, 50, 51, 52, 53, 54, 55, 56, 57]))] = some (.c (.d (.str (trimN digs s)))) := by
      rw [zenv_pr]
      refine hX.prim _ _ _ ?_
      have e : prim0 151 [.c (.d (.str s)), .c (.d (.str [48, 49, 50, 51, 52, 53, 54, 55, 56, 57]))] = if digs = digs ∧ s.length < 4294967281 then some (Str (trimN digs s)) else none := rfl
      rw [e, if_pos ⟨rfl, hs⟩]
    have g5 := trim_nil s
    simp only [strV, binStr, g1, g2, g3, g4, g5, h3, hpc, Bool.not_false, evs, Nat.reduceSub]
theorem f117 (hX : XOk m X) {N : Nat} (hN : 2 ≤ N) {s : List Nat} {H : Heap} (hs : s.length < 4294967281) : callN X N (.d (.fn 117 [] [])) [strV s] H = some (bl (!decB s), H) := by
  obtain ⟨N, rfl⟩ : ∃ M, N = M + 1 := ⟨N - 1, by omega⟩
  have h1 := hX.vc (k := 118) (F := fn118) rfl (f118 hX (N := N) (by omega) hs)
  rw [hX.fn (F := fn117) rfl]
  refine (rf_fin _ _ _ _ _ _ _ _ _ (by rfl)).trans ?_
  simp only [strV, bl] at h1
  simp only [strV, h1, evs, Nat.reduceSub]
/-- A row of strings. -/
def slS (ps : List (List Nat)) : D := .sl (ps.map D.str) ps.length
theorem slS_at (ps : List (List Nat)) {i : Nat} (h : i < ps.length) : ixac 1 i (.c (.d (slS ps))) = some (.c (.d (.ip (.str (ps.getD i []) :: (ps.drop (i + 1)).map D.str))), []) := by
  have h2 : (ps.map D.str).drop i = .str (ps.getD i []) :: (ps.drop (i + 1)).map D.str := by
    rw [List.getD_eq_getElem?_getD, List.getElem?_eq_getElem h, ← List.map_drop, List.drop_eq_getElem_cons h]
    rfl
  rw [slS, ixac, if_pos ⟨h, by simp; omega⟩, Nat.mul_one, h2]
theorem slS_len (ps : List (List Nat)) : lenc (.c (.d (slS ps))) = some (.c (.d (.int .i64 (ps.length : Int))), []) := rfl
theorem f150 (hX : XOk m X) {N : Nat} {ps : List (List Nat)} (hN : ps.length + 10 ≤ N) (hs : ∀ x ∈ ps, x.length < 4294967281) (hl : ps.length < 1000000000) : ∃ z : Int, vcallN X N 150 [.c (.d (slS ps)), .c (.d (.fn 117 [] []))] = some (i64 z) ∧ decide (z ≥ 0) = !ps.all decB := by
  obtain ⟨N, rfl⟩ : ∃ M, N = M + 1 := ⟨N - 1, by omega⟩
  have hF : fnsA 150 = some fn150' := rfl
  have hlw := slS_len ps
  have hmem : ∀ j, j < ps.length → ps.getD j [] ∈ ps := fun j hj => by
    rw [List.getD_eq_getElem?_getD, List.getElem?_eq_getElem hj]
    exact List.getElem_mem hj
  have hsc := iter_find (js := some [0, 1, 4, 5]) (hl := 0) (body := exec (zenv X N) N false fn150L0) (fun j => decB (ps.getD j []) = false) ps.length (fun i => ⟨[.c (.d (slS ps)), .c (.d (.fn 117 [] [])), .any, .any, i64 (ps.length : Int), i64 (i : Int), .any, .any], []⟩) (b := 0) (s1 := ⟨[.c (.d (slS ps)), .c (.d (.fn 117 [] [])), .any, .any, i64 (ps.length : Int), i64 (ps.length : Int), bl false, .any], []⟩) (Q := fun k s => s = ⟨[.c (.d (slS ps)), .c (.d (.fn 117 [] [])), i64 (k : Int), i64 (k : Int), i64 (ps.length : Int), i64 (k : Int), bl true, bl true], []⟩) (fuel := N) (by omega)
    (by
      intro j hj hp
      have hp : decB (ps.getD j []) = true := by simpa using hp
      have h1 := slS_at ps hj
      have h2 := f117 hX (N := N) (by omega) (H := []) (hs _ (hmem j hj))
      have h4 : (j : Int) < (ps.length : Int) := by omega
      have h5 := wrap_succ (k := j) (by omega)
      rw [hp] at h2
      simp only [strV] at h2
      refine ⟨⟨[.c (.d (slS ps)), .c (.d (.fn 117 [] [])), .any, i64 (j : Int), i64 (ps.length : Int), i64 ((j + 1 : Nat) : Int), bl true, bl false], []⟩, ?_, gc_le (Nat.le_refl 0)⟩
      simp only [fn150L0, h1, h2, h4, h5, Bool.not_true, List.take, List.map_cons, List.map_nil, ↓sp_ixa, evs])
    (by simp only [fn150L0, evs])
    (by
      intro j hj hp
      have h1 := slS_at ps hj
      have h2 := f117 hX (N := N) (by omega) (H := []) (hs _ (hmem j hj))
      have h4 : (j : Int) < (ps.length : Int) := by omega
      rw [hp] at h2
      simp only [strV] at h2
      refine ⟨_, ?_, rfl⟩
      simp only [fn150L0, h1, h2, h4, Bool.not_false, List.take, List.map_cons, List.map_nil, ↓sp_ixa, evs])
  simp only [i64, bl, Int.natCast_zero] at hsc
  rcases hsc with ⟨hno, hit⟩ | ⟨k, s', hk, hp, hno, rfl, hit⟩
  · refine ⟨-1, ?_, ?_⟩
    · refine vcall_of (r := i64 (-1)) (H := []) ?_ rfl
      rw [hX.fn hF]
      refine (rf_fin _ _ _ _ _ _ _ _ _ (by rfl)).trans ?_
      simp only [hlw, hit, ↓sp_len, evs, Nat.reduceAdd, Nat.reduceBEq, Nat.reduceSub]
    · have : ps.all decB = true := by
        rw [List.all_eq_true]
        intro x hx
        obtain ⟨i, hi, rfl⟩ := List.getElem_of_mem hx
        have := hno i hi
        rw [List.getD_eq_getElem?_getD, List.getElem?_eq_getElem hi, Option.getD_some] at this
        simpa using this
      rw [this]; rfl
  · refine ⟨(k : Int), ?_, ?_⟩
    · refine vcall_of (r := i64 (k : Int)) (H := []) ?_ rfl
      rw [hX.fn hF]
      refine (rf_fin _ _ _ _ _ _ _ _ _ (by rfl)).trans ?_
      simp only [hlw, hit, ↓sp_len, evs, Nat.reduceAdd, Nat.reduceBEq, Nat.reduceSub]
    · have : ps.all decB = false := by
        rw [List.all_eq_false]
        exact ⟨_, hmem k hk, by rw [hp]; simp⟩
      rw [this]
      simp
theorem f116 (hX : XOk m X) {N : Nat} {ps : List (List Nat)} (hN : ps.length + 11 ≤ N) (hs : ∀ x ∈ ps, x.length < 4294967281) (hl : ps.length < 1000000000) : vcallN X N 116 [.c (.d (slS ps)), .c (.d (.fn 117 [] []))] = some (bl (!ps.all decB)) := by
  obtain ⟨N, rfl⟩ : ∃ M, N = M + 1 := ⟨N - 1, by omega⟩
  obtain ⟨z, h1, h2⟩ := f150 hX (N := N) (by omega) hs hl
  have h1 := hX.vc (k := 150) (F := fn150) rfl h1
  refine vcall_of (r := bl (!ps.all decB)) (H := []) ?_ rfl
  rw [hX.fn (F := fn116) rfl]
  refine (rf_fin _ _ _ _ _ _ _ _ _ (by rfl)).trans ?_
  simp only [i64] at h1
  simp only [h1, h2, evs, Nat.reduceAdd, Nat.reduceSub]
end Mini
end Go.Proofs.YtgjlofpfbhioaaaGreatDoor
namespace Go.Proofs.YtgjlofpfbhioaaaGreatDoor
namespace Mini
open Go
variable {m : Int} {X : Ctx}
def valP (x : List Nat) : Nat := if numN 0 x ≤ 4294967295 then numN 0 x else 4294967295
theorem valP_lt (x : List Nat) : valP x < 4294967296 := by unfold valP; split <;> omega
def arrP (ps : List (List Nat)) : Nat → List Nat
  | 0 => List.replicate 16 0
  | j + 1 => if j < 16 then (arrP ps j).set j (valP (ps.getD j [])) else arrP ps j
def largeP (ps : List (List Nat)) : Nat → Bool
  | 0 => false
  | j + 1 => largeP ps j || decide (4294967295 < numN 0 (ps.getD j []))
theorem arrP_len (ps : List (List Nat)) : ∀ j, (arrP ps j).length = 16
  | 0 => rfl
  | j + 1 => by
    unfold arrP
    split
    · rw [List.length_set, arrP_len ps j]
    · exact arrP_len ps j
theorem arrP_lt (ps : List (List Nat)) : ∀ j, ∀ x ∈ arrP ps j, x < 4294967296
  | 0 => by
    intro x hx
    simp only [arrP, List.mem_replicate] at hx
    omega
  | j + 1 => by
    unfold arrP
    split
    · intro x hx
      rcases List.mem_or_eq_of_mem_set hx with h | rfl
      · exact arrP_lt ps j x h
      · exact valP_lt _
    · exact arrP_lt ps j
theorem oC_set (n : Nat) (l : List Nat) {j v : Nat} (hj : j < l.length) : splice (oC (n, l)) (1 + j) [.d (.int .u32 (v : Int))] = oC (n, l.set j v) := by
  unfold splice oC oD
  simp only [List.map_cons, List.map_map]
  rw [Nat.add_comm 1 j, List.take_succ_cons, show j + 1 + [C.d (D.int .u32 (v : Int))].length = (j + 1) + 1 by simp, List.drop_succ_cons, List.map_set, List.set_eq_take_append_cons_drop, if_pos (by simpa using hj)]
  simp [u32D]
def parseO (s : List Nat) : Oid × Nat :=
  if (splitN 46 s).all decB = false then (o0, 6)
  else if 16 < (splitN 46 s).length then (o0, 3)
  else if largeP (splitN 46 s) (splitN 46 s).length = true then (o0, 3)
  else if chkO ((splitN 46 s).length, arrP (splitN 46 s) (splitN 46 s).length) ≠ 0 then (o0, chkO ((splitN 46 s).length, arrP (splitN 46 s) (splitN 46 s).length))
  else (((splitN 46 s).length, arrP (splitN 46 s) (splitN 46 s).length), 0)
theorem splitN_len (c : Nat) : ∀ s : List Nat, (splitN c s).length ≤ s.length + 1 ∧ ∀ x ∈ splitN c s, x.length ≤ s.length
  | [] => by simp [splitN]
  | y :: s => by
    obtain ⟨h1, h2⟩ := splitN_len c s
    unfold splitN
    split
    · refine ⟨by simp only [List.length_cons]; omega, fun x hx => ?_⟩
      rcases List.mem_cons.1 hx with rfl | hx
      · simp
      · have := h2 x hx; simp only [List.length_cons]; omega
    · cases hs : splitN c s with
      | nil => exact ⟨by simp, fun x hx => by simp only [List.mem_singleton] at hx; subst hx; simp⟩
      | cons a l =>
        rw [hs] at h1 h2
        refine ⟨by simp only [List.length_cons] at h1 ⊢; omega, fun x hx => ?_⟩
        rcases List.mem_cons.1 hx with rfl | hx
        · have := h2 a List.mem_cons_self; simp only [List.length_cons]; omega
        · have := h2 x (List.mem_cons_of_mem _ hx); simp only [List.length_cons]; omega
abbrev R94 (ps : List (List Nat)) (j : Nat) : List V := [.any, .c (.ptr 0 0 0), .any, .any, .c (.ptr 1 0 0), bl (largeP ps j), .any, .any, .any, .any, .any, .any, .c (.d (slS ps)), i64 (ps.length : Int), i64 (j : Int), .any, .any, .any, .any, .any]
theorem decB_dig {s : List Nat} (h : decB s = true) : s.all isDig = true ∧ s.isEmpty = false := by
  unfold decB at h
  simp only [Bool.or_eq_true, Bool.and_eq_true, decide_eq_true_eq] at h
  rcases h with rfl | ⟨⟨h1, _⟩, h2⟩
  · exact ⟨rfl, rfl⟩
  · exact ⟨h2, by cases s with | nil => exact absurd rfl h1 | cons _ _ => rfl⟩
set_option maxHeartbeats 1000000 in
theorem r94 (hX : XOk m X) {N : Nat} (hN : 10 ≤ N) {ps : List (List Nat)} {n j : Nat} (hj : j < ps.length) (hlen : ps.length < 100000000) (hs : (ps.getD j []).length < 100000000) (hp : decB (ps.getD j []) = true) :
    ∃ s', exec (zenv X N) N false fn94L0 ⟨R94 ps j, [.cells zC 0 false, .cells (oC (n, arrP ps j)) 0 false]⟩ = some (.nrm, s') ∧ tidy 2 (some [1, 4, 5, 12, 13, 14]) s' = ⟨R94 ps (j + 1), [.cells zC 0 false, .cells (oC (n, arrP ps (j + 1))) 0 false]⟩ := by
  have h1 := slS_at ps hj
  have h2 := hX.vc (k := 118) (F := fn118) rfl (f118 hX (N := N) (by omega) (s := ps.getD j []) (by omega))
  have h4 : (j : Int) < (ps.length : Int) := by omega
  have h5 := wrap_succ (k := j) (by omega)
  have hlA := arrP_len ps j
  have hL : largeP ps (j + 1) = (largeP ps j || decide (4294967295 < numN 0 (ps.getD j []))) := rfl
  have hA : arrP ps (j + 1) = if j < 16 then (arrP ps j).set j (valP (ps.getD j [])) else arrP ps j := rfl
  have hR : R94 ps (j + 1) = [.any, .c (.ptr 0 0 0), .any, .any, .c (.ptr 1 0 0), bl (largeP ps j || decide (4294967295 < numN 0 (ps.getD j []))), .any, .any, .any, .any, .any, .any, .c (.d (slS ps)), i64 (ps.length : Int), i64 ((j + 1 : Nat) : Int), .any, .any, .any, .any, .any] := by rw [← hL]
  have hv := valP_lt (ps.getD j [])
  have hpc : (zenv X N).prim 119 [.c (.d (.str (ps.getD j []))), .c (.d (.int .i64 10)), .c (.d (.int .i64 32))] = some (.tup [.c (.d (.int .u64 (valP (ps.getD j []) : Int))), .c (.d (if 4294967295 < numN 0 (ps.getD j []) then .ifc else .nili))]) := by
    rw [zenv_pr]
    refine hX.prim _ _ _ ?_
    have e : ∀ x : List Nat, prim0 119 [.c (.d (.str x)), .c (.d (.int .i64 10)), .c (.d (.int .i64 32))] = if x.length < 281474976710656 then (if (x.all isDig && !x.isEmpty) = true then some (if numN 0 x ≤ 4294967295 then .tup [U64 (numN 0 x), .c (.d .nili)] else .tup [U64 4294967295, .c (.d .ifc)]) else none) else none := fun _ => rfl
    rw [e]
    unfold valP
    obtain ⟨d1, d2⟩ := decB_dig hp
    rw [if_pos (by omega), d1, d2, if_pos (by rfl)]
    by_cases hb : numN 0 (ps.getD j []) ≤ 4294967295
    · rw [if_pos hb, if_pos hb, if_neg (by omega)]
    · rw [if_neg hb, if_neg hb, if_pos (by omega)]; rfl
  rw [hp] at h2
  rw [hR, hA]
  clear hR
  unfold R94
  simp only [strV, bl] at h2
  have hw : IntKind.u32.wrap (valP (ps.getD j []) : Int) = (valP (ps.getD j []) : Int) := wrap_u32 hv
  have hset := fun hj16 : j < 16 => oC_set n (arrP ps j) (j := j) (v := valP (ps.getD j [])) (by rw [hlA]; exact hj16)
  have hlo : (oC (n, arrP ps j)).length = 17 := by simp [oC, oD, hlA]
  generalize valP (ps.getD j []) = v at *
  generalize largeP ps j = lg at *
  by_cases hb : 4294967295 < numN 0 (ps.getD j [])
  · rw [if_pos hb] at hpc
    rw [decide_eq_true hb]
    by_cases h16 : j < 16
    · have h16' : (j : Int) < 16 := by omega
      have hset := hset h16
      rw [if_pos h16]
      refine ⟨⟨[.any, .c (.ptr 0 0 0), .any, .any, .c (.ptr 1 0 0), bl (lg || true), i64 (j : Int), strV (ps.getD j []), .c (.d (.int .u64 (v : Int))), .c (.d .ifc), .any, .any, .c (.d (slS ps)), i64 (ps.length : Int), i64 ((j + 1 : Nat) : Int), bl true, bl false, bl true, .any, .any], [.cells zC 0 false, .cells (oC (n, (arrP ps j).set j v)) 0 false]⟩, ?_, gc_le (Nat.le_refl 2)⟩
      have h17 : 1 + j + 1 ≤ 17 := by omega
      cases lg <;>
        simp only [fn94L0, ob?, strV, h1, h2, h4, h5, h16, h16', h17, hpc, hw, hset, hlo, Bool.not_true, List.take, List.map_cons, List.map_nil, List.set_cons_zero, List.set_cons_succ, freeze_nil, reachV, reachC, ite_self, List.flatMap_cons, List.flatMap_nil, ↓sp_ixa, evs]
    · have h16' : ¬ (j : Int) < 16 := by omega
      rw [if_neg h16]
      refine ⟨⟨[.any, .c (.ptr 0 0 0), .any, .any, .c (.ptr 1 0 0), bl (lg || true), i64 (j : Int), strV (ps.getD j []), .c (.d (.int .u64 (v : Int))), .c (.d .ifc), .any, .any, .c (.d (slS ps)), i64 (ps.length : Int), i64 ((j + 1 : Nat) : Int), bl true, bl false, bl false, .any, .any], [.cells zC 0 false, .cells (oC (n, arrP ps j)) 0 false]⟩, ?_, gc_le (Nat.le_refl 2)⟩
      cases lg <;>
        simp only [fn94L0, strV, h1, h2, h4, h5, h16', hpc, Bool.not_true, List.take, List.map_cons, List.map_nil, freeze_nil, reachV, reachC, ite_self, List.flatMap_cons, List.flatMap_nil, ↓sp_ixa, evs]
  · rw [if_neg hb] at hpc
    rw [decide_eq_false hb]
    by_cases h16 : j < 16
    · have h16' : (j : Int) < 16 := by omega
      have hset := hset h16
      rw [if_pos h16]
      refine ⟨⟨[.any, .c (.ptr 0 0 0), .any, .any, .c (.ptr 1 0 0), bl (lg || false), i64 (j : Int), strV (ps.getD j []), .c (.d (.int .u64 (v : Int))), .c (.d .nili), .any, .any, .c (.d (slS ps)), i64 (ps.length : Int), i64 ((j + 1 : Nat) : Int), bl true, bl false, bl true, .any, .any], [.cells zC 0 false, .cells (oC (n, (arrP ps j).set j v)) 0 false]⟩, ?_, gc_le (Nat.le_refl 2)⟩
      have h17 : 1 + j + 1 ≤ 17 := by omega
      cases lg <;>
        simp only [fn94L0, ob?, strV, h1, h2, h4, h5, h16, h16', h17, hpc, hw, hset, hlo, Bool.not_true, List.take, List.map_cons, List.map_nil, List.set_cons_zero, List.set_cons_succ, freeze_nil, reachV, reachC, ite_self, List.flatMap_cons, List.flatMap_nil, ↓sp_ixa, evs]
    · have h16' : ¬ (j : Int) < 16 := by omega
      rw [if_neg h16]
      refine ⟨⟨[.any, .c (.ptr 0 0 0), .any, .any, .c (.ptr 1 0 0), bl (lg || false), i64 (j : Int), strV (ps.getD j []), .c (.d (.int .u64 (v : Int))), .c (.d .nili), .any, .any, .c (.d (slS ps)), i64 (ps.length : Int), i64 ((j + 1 : Nat) : Int), bl true, bl false, bl false, .any, .any], [.cells zC 0 false, .cells (oC (n, arrP ps j)) 0 false]⟩, ?_, gc_le (Nat.le_refl 2)⟩
      cases lg <;>
        simp only [fn94L0, strV, h1, h2, h4, h5, h16', hpc, Bool.not_true, List.take, List.map_cons, List.map_nil, freeze_nil, reachV, reachC, ite_self, List.flatMap_cons, List.flatMap_nil, ↓sp_ixa, evs]
theorem f94 (hX : XOk m X) {N : Nat} {s : List Nat} (hN : s.length + 60 ≤ N) (hs : s.length < 10000000) : vcallN X N 94 [strV s] = some (.tup [.agg (oC (parseO s).1), i64 ((parseO s).2 : Nat)]) := by
  obtain ⟨N, rfl⟩ : ∃ M, N = M + 1 := ⟨N - 1, by omega⟩
  have hF : fnsA 94 = some fn94' := rfl
  obtain ⟨hl1, hl2⟩ := splitN_len 46 s
  have hpc : (zenv X N).prim 92 [.c (.d (.str s)), .c (.d (.str [46]))] = some (.c (.d (slS (splitN 46 s)))) := by
    rw [zenv_pr]
    refine hX.prim _ _ _ ?_
    have e : ∀ x : List Nat, prim0 92 [.c (.d (.str x)), .c (.d (.str [46]))] = if x.length < 4294967281 then some (.c (.d (.sl ((splitN 46 x).map .str) (splitN 46 x).length))) else none := fun _ => rfl
    rw [e, if_pos (by omega)]
    rfl
  unfold parseO
  generalize hps : splitN 46 s = ps at *
  have h116 := hX.vc (k := 116) (F := fn116) rfl (f116 hX (N := N) (ps := ps) (by omega) (fun x hx => by have := hl2 x hx; omega) (by omega))
  have hlw := slS_len ps
  suffices h : ∃ H, callN X (N + 1) (.d (.fn 94 [] [])) [strV s] [] = some (.tup [.agg (oC (if ps.all decB = false then (o0, 6) else if 16 < ps.length then (o0, 3) else if largeP ps ps.length = true then (o0, 3) else if chkO (ps.length, arrP ps ps.length) ≠ 0 then (o0, chkO (ps.length, arrP ps ps.length)) else ((ps.length, arrP ps ps.length), 0)).1), i64 ((if ps.all decB = false then (o0, 6) else if 16 < ps.length then (o0, 3) else if largeP ps ps.length = true then (o0, 3) else if chkO (ps.length, arrP ps ps.length) ≠ 0 then (o0, chkO (ps.length, arrP ps ps.length)) else ((ps.length, arrP ps ps.length), 0)).2 : Nat)], H) by
    obtain ⟨H, h⟩ := h
    refine vcall_of h ?_
    simp only [deepV, mapO, deepV1, i64]
    rw [show ∀ (H : Heap) (o : Oid), mapO (deepC H deepMax) (oC o) = some (oD o) from fun H o => mapO_d H _ _]
    rfl
  rw [hX.fn hF]
  have hz0 : oC o0 = zC := rfl
  have hdp : ∀ H : Heap, deepC H deepMax (.d (slS ps)) = some (slS ps) := fun _ => rfl
  have hmem : ∀ j, j < ps.length → ps.getD j [] ∈ ps := fun j hj => by
    rw [List.getD_eq_getElem?_getD, List.getElem?_eq_getElem hj]
    exact List.getElem_mem hj
  have hwu : IntKind.u8.wrap (ps.length : Int) = ((ps.length % 256 : Nat) : Int) := by
    simp only [IntKind.wrap, IntKind.bits, IntKind.signed]
    simp
  have hsc := iter_find (js := some [1, 4, 5, 12, 13, 14]) (hl := 2) (body := exec (zenv X N) N false fn94L0) (fun j => decB (ps.getD j []) = false) ps.length (fun i => ⟨R94 ps i, [.cells zC 0 false, .cells (oC (ps.length % 256, arrP ps i)) 0 false]⟩) (b := 0) (s1 := ⟨[.any, .c (.ptr 0 0 0), .any, .any, .c (.ptr 1 0 0), bl (largeP ps ps.length), .any, .any, .any, .any, .any, .any, .c (.d (slS ps)), i64 (ps.length : Int), i64 (ps.length : Int), bl false, .any, .any, .any, .any], [.cells zC 0 false, .cells (oC (ps.length % 256, arrP ps ps.length)) 0 false]⟩) (Q := fun k s => ∃ o, nth s.regs 1 = .c (.ptr 0 0 0) ∧ nth s.regs 2 = i64 6 ∧ s.heap = [.cells zC 0 false, o]) (fuel := N) (by omega)
    (by
      intro j hj hp
      exact r94 hX (by omega) hj (by omega) (by have := hl2 _ (hmem j hj); omega) (by simpa using hp))
    (by simp only [fn94L0, R94, evs])
    (by
      intro j hj hp
      have h1 := slS_at ps hj
      have h2 := hX.vc (k := 118) (F := fn118) rfl (f118 hX (N := N) (by omega) (s := ps.getD j []) (by have := hl2 _ (hmem j hj); omega))
      have h4 : (j : Int) < (ps.length : Int) := by omega
      rw [hp] at h2
      simp only [strV, bl] at h2
      refine ⟨⟨[.any, .c (.ptr 0 0 0), i64 6, .any, .c (.ptr 1 0 0), bl (largeP ps j), i64 (j : Int), strV (ps.getD j []), .any, .any, .any, .any, .c (.d (slS ps)), i64 (ps.length : Int), i64 (j : Int), bl true, bl true, .any, .any, .any], [.cells zC 0 false, .cells (oC (ps.length % 256, arrP ps j)) 0 false]⟩, ?_, _, rfl, rfl, rfl⟩
      simp only [fn94L0, R94, ob?, strV, h1, h2, h4, lay, splice, Bool.not_false, List.take, List.drop, List.map_cons, List.map_nil, List.set_cons_zero, ↓sp_ixa, evs, Nat.reduceAdd, Nat.reduceLeDiff])
  simp only [i64, bl, R94, Int.natCast_zero] at hsc h116
  have hlay : lay [.d (.int .u8 0), .d (.int .u32 0), .d (.int .u32 0), .d (.int .u32 0), .d (.int .u32 0), .d (.int .u32 0), .d (.int .u32 0), .d (.int .u32 0), .d (.int .u32 0), .d (.int .u32 0), .d (.int .u32 0), .d (.int .u32 0), .d (.int .u32 0), .d (.int .u32 0), .d (.int .u32 0), .d (.int .u32 0), .d (.int .u32 0)] [(0, 1, .c (.d (.int .u8 ((ps.length % 256 : Nat) : Int))))] = some (oC (ps.length % 256, arrP ps 0)) := rfl
  have hlo0 : (oC (ps.length % 256, arrP ps 0)).length = 17 := rfl
  by_cases ca : ps.all decB = true
  · rw [ca] at h116
    rw [if_neg (by simp [ca])]
    simp only [Bool.not_true] at h116
    rcases hsc with ⟨hno, hit⟩ | ⟨k, s', hk, hp, hno, _, _⟩
    case inr =>
      exfalso
      rw [List.all_eq_true] at ca
      have := ca _ (hmem k hk)
      rw [hp] at this; cases this
    have h00 : largeP ps 0 = false := rfl
    rw [h00] at hit
    by_cases c16 : 16 < ps.length
    · rw [if_pos c16]
      have c16' : (ps.length : Int) > 16 := by omega
      refine ⟨[.cells zC 0 false], (rf_fin _ _ _ _ _ _ _ _ _ (by rfl)).trans ?_⟩
      simp only [ob?, strV, hpc, h116, hlw, hdp, c16', hz0, lay, splice, Bool.not_false, List.take, List.drop, List.map_cons, List.map_nil, List.set_cons_zero, freeze_nil, reachV, reachC, ite_self, List.flatMap_cons, List.flatMap_nil, Int.cast_ofNat_Int, ↓sp_len, evs, Nat.reduceAdd, Nat.reduceLeDiff, Nat.reduceSub]
    · have c16' : ¬ (ps.length : Int) > 16 := by omega
      rw [if_neg c16]
      have hm : ps.length % 256 = ps.length := Nat.mod_eq_of_lt (by omega)
      rw [hm] at hit hlay hwu hlo0
      cases hL : largeP ps ps.length
      · rw [hL] at hit
        rw [if_neg (by simp)]
        have hwf : wfO (ps.length, arrP ps ps.length) := ⟨by simp only; omega, arrP_len ps _, arrP_lt ps _⟩
        have h53 := hX.vc (k := 53) (F := fn53) rfl (chkO_ok (hX.fns _ _ rfl) hwf (N := N) (by omega))
        have hlo := oC_len hwf
        have hdD : mapO (deepC [Ob.cells zC 0 false, .cells (oC (ps.length, arrP ps ps.length)) 0 false] deepMax) (oC (ps.length, arrP ps ps.length)) = some (oD (ps.length, arrP ps ps.length)) := mapO_d _ _ _
        have hd : List.map C.d (oD (ps.length, arrP ps ps.length)) = oC (ps.length, arrP ps ps.length) := rfl
        have hsp : splice zC 0 (oC (ps.length, arrP ps ps.length)) = oC (ps.length, arrP ps ps.length) := by
          unfold splice
          rw [List.take_zero, List.nil_append, Nat.zero_add, hlo, List.drop_of_length_le (Nat.le_refl 17), List.append_nil]
        generalize (ps.length, arrP ps ps.length) = oo at *
        simp only [i64] at h53
        by_cases hck : chkO oo = 0
        · rw [if_neg (by rw [hck]; simp)]
          rw [hck] at h53
          refine ⟨[.cells (oC oo) 0 false, .cells (oC oo) 0 false], (rf_fin _ _ _ _ _ _ _ _ _ (by rfl)).trans ?_⟩
          simp only [ob?, strV, hpc, h116, hlw, hdp, c16', hwu, hlay, hlo0, hit, h53, hlo, hd, hdD, hsp, Bool.not_false, List.drop_zero, List.take_of_length_le (Nat.le_of_eq hlo), List.map_cons, List.map_nil, List.set_cons_zero, freeze_nil, reachV, reachC, ite_self, List.flatMap_cons, List.flatMap_nil, Int.cast_ofNat_Int, ↓sp_len, evs, Nat.reduceAdd, Nat.reduceLeDiff, Nat.reduceBEq, Nat.reduceSub]
        · rw [if_pos hck]
          have g1 : ((chkO oo : Int) != 0) = true := by rw [bne_iff_ne]; omega
          refine ⟨[.cells zC 0 false, .cells (oC oo) 0 false], (rf_fin _ _ _ _ _ _ _ _ _ (by rfl)).trans ?_⟩
          simp only [ob?, strV, hpc, h116, hlw, hdp, c16', hz0, hwu, hlay, hlo0, hit, h53, g1, hlo, hd, hdD, lay, splice, Bool.not_false, List.take, List.drop, List.take_of_length_le (Nat.le_of_eq hlo), List.map_cons, List.map_nil, List.set_cons_zero, freeze_nil, reachV, reachC, ite_self, List.flatMap_cons, List.flatMap_nil, ↓sp_len, evs, Nat.reduceAdd, Nat.reduceLeDiff, Nat.reduceBEq, Nat.reduceSub]
      · rw [hL] at hit
        rw [if_pos rfl]
        refine ⟨[.cells zC 0 false, .cells (oC (ps.length, arrP ps ps.length)) 0 false], (rf_fin _ _ _ _ _ _ _ _ _ (by rfl)).trans ?_⟩
        simp only [ob?, strV, hpc, h116, hlw, hdp, c16', hz0, hwu, hlay, hlo0, hit, lay, splice, Bool.not_false, List.take, List.drop, List.map_cons, List.map_nil, List.set_cons_zero, freeze_nil, reachV, reachC, ite_self, List.flatMap_cons, List.flatMap_nil, Int.cast_ofNat_Int, ↓sp_len, evs, Nat.reduceAdd, Nat.reduceLeDiff, Nat.reduceBEq, Nat.reduceSub]
  · have ca : ps.all decB = false := by simpa using ca
    rw [ca] at h116
    rw [if_pos ca]
    simp only [Bool.not_false] at h116
    rcases hsc with ⟨hno, hit⟩ | ⟨k, s', hk, hp, hno, ⟨o, hq1, hq2, hqh⟩, hit⟩
    · exfalso
      rw [List.all_eq_false] at ca
      obtain ⟨x, hx, hxb⟩ := ca
      obtain ⟨i, hi, rfl⟩ := List.getElem_of_mem hx
      have := hno i hi
      rw [List.getD_eq_getElem?_getD, List.getElem?_eq_getElem hi, Option.getD_some] at this
      exact this (by simpa using hxb)
    · obtain ⟨r, H⟩ := s'
      simp only at hq1 hq2 hqh
      subst hqh
      have h00 : largeP ps 0 = false := rfl
      rw [h00] at hit
      refine ⟨[.cells zC 0 false, o], (rf_fin _ _ _ _ _ _ _ _ _ (by rfl)).trans ?_⟩
      simp only [ob?, strV, hpc, h116, hlw, hdp, hz0, hwu, hlay, hlo0, hit, hq1, hq2, Bool.not_true, List.take, List.drop, List.map_cons, List.map_nil, freeze_nil, reachV, reachC, ite_self, List.flatMap_cons, List.flatMap_nil, Int.cast_ofNat_Int, ↓sp_len, evs, Nat.reduceAdd, Nat.reduceBEq, Nat.reduceSub]
end Mini
end Go.Proofs.YtgjlofpfbhioaaaGreatDoor
namespace Go.Proofs.YtgjlofpfbhioaaaGreatDoor
namespace Mini
open Go
variable {m : Int} {X : Ctx}
theorem callN_fnc {X : Ctx} {n : Nat} {f : FuncId} {F : Fn} {first caps : List C} {args : List V} {H : Heap} (h : X.fns f = some F) : callN X (n + 1) (.fn f first caps) args H = runFn (zenv X n) n F (first.map .c ++ args ++ caps.map .c) H := by
  have : callN X (n + 1) (.fn f first caps) args H = match X.fns f with
      | some F => runFn (zenv X n) n F (first.map .c ++ args ++ caps.map .c) H
      | none => X.hprim f (first.map .c ++ args ++ caps.map .c) H := rfl
  rw [this, h]
theorem f62c (hX : XOk m X) {N : Nat} (hN : 1 ≤ N) {H : Heap} {id k : Nat} (hk : k < 3) : callN X N (.fn 62 [.ptr id 0 0] []) [i64 (k : Int)] H = some (.c (.ptr id 0 (2 + k)), H) := by
  have h := f62 hX hN (H := H) (id := id) hk
  obtain ⟨N, rfl⟩ : ∃ M, N = M + 1 := ⟨N - 1, by omega⟩
  rw [hX.fn (F := fn62) rfl] at h
  rw [callN_fnc (hX.fns 62 fn62 rfl)]
  exact h
def opt1 (k : Nat) : List (List Nat) → Bool × List (List Nat)
  | [] => (false, [])
  | x :: t => if x = wordK k then (true, t) else (false, x :: t)
def restP (ps : List (List Nat)) : Nat → List (List Nat)
  | 0 => ps
  | k + 1 => (opt1 k (restP ps k)).2
def flgP (ps : List (List Nat)) (k : Nat) : Bool := (opt1 k (restP ps k)).1
theorem restP_len (ps : List (List Nat)) : ∀ k, (restP ps k).length ≤ ps.length
  | 0 => Nat.le_refl _
  | k + 1 => by
    have := restP_len ps k
    unfold restP
    generalize restP ps k = q at *
    cases q with
    | nil => exact this
    | cons x t =>
      simp only [opt1]
      split
      · simp only [List.length_cons] at this; simp only; omega
      · exact this
def anK (s : List Nat) (c : C) (e nm na : Bool) : List C := [.d (.str s), c, .d (.bool e), .d (.bool nm), .d (.bool na)]
def anP (s : List Nat) (c : C) (ps : List (List Nat)) (k : Nat) : List C := anK s c (decide (0 < k) && flgP ps 0) (decide (1 < k) && flgP ps 1) (decide (2 < k) && flgP ps 2)
theorem anP_len (s : List Nat) (c : C) (ps : List (List Nat)) (k : Nat) : (anP s c ps k).length = 5 := rfl
theorem anP_set {s : List Nat} {c : C} {ps : List (List Nat)} {k : Nat} (hk : k < 3) (hf : flgP ps k = true) : splice (anP s c ps k) (2 + k) [.d (.bool true)] = anP s c ps (k + 1) := by
  have : k = 0 ∨ k = 1 ∨ k = 2 := by omega
  rcases this with rfl | rfl | rfl <;> simp [anP, anK, splice, hf]
theorem anP_no {s : List Nat} {c : C} {ps : List (List Nat)} {k : Nat} (hk : k < 3) (hf : flgP ps k = false) : anP s c ps k = anP s c ps (k + 1) := by
  have : k = 0 ∨ k = 1 ∨ k = 2 := by omega
  rcases this with rfl | rfl | rfl <;> simp [anP, anK, hf]
theorem slS_tail (x : List Nat) (t : List (List Nat)) : (((t.length + 1) - 1) : Nat) = t.length ∧ (((D.str x :: t.map D.str).drop (1 * 1)).take ((t.length + 1 - 1) * 1)) = t.map D.str := by
  refine ⟨rfl, ?_⟩
  simp only [List.drop_succ_cons, List.drop_zero, Nat.add_sub_cancel, Nat.mul_one]
  exact List.take_of_length_le (by simp)
abbrev R95 (ps : List (List Nat)) (ia k : Nat) : List V := [.c (.d (slS (restP ps k))), .c (.fn 62 [.ptr ia 0 0] []), .any, .any, .any, .agg wordsC3, i64 (k : Int), .any, .any]
theorem r95 (hX : XOk m X) {N : Nat} (hN : 10 ≤ N) {ps : List (List Nat)} {H : Heap} {ia k : Nat} {s : List Nat} {c : C} (hk : k < 3) (hia : ia < H.length) :
    ∃ s', exec (zenv X N) N false fn95L0 ⟨R95 ps ia k, H.set ia (.cells (anP s c ps k) 0 false)⟩ = some (.nrm, s') ∧ tidy H.length (some [0, 1, 5, 6]) s' = ⟨R95 ps ia (k + 1), H.set ia (.cells (anP s c ps (k + 1)) 0 false)⟩ := by
  have h62 := f62c hX (N := N) (by omega) (H := H.set ia (.cells (anP s c ps k) 0 false)) (id := ia) hk
  have h5 := wrap_succ (k := k) (by omega)
  have hkk : (k : Int) < 3 := by omega
  have hx : (wordsC3.drop k).take 1 = [.d (.str (wordK k))] := by
    have : k = 0 ∨ k = 1 ∨ k = 2 := by omega
    rcases this with rfl | rfl | rfl <;> rfl
  have e1 : (H.set ia (.cells (anP s c ps k) 0 false))[ia]? = some (.cells (anP s c ps k) 0 false) := List.getElem?_set_self hia
  have hs := fun hf => anP_set (s := s) (c := c) (ps := ps) hk hf
  have hn := fun hf => anP_no (s := s) (c := c) (ps := ps) hk hf
  have hlp := anP_len s c ps k
  have hR : restP ps (k + 1) = (opt1 k (restP ps k)).2 := rfl
  have hF : flgP ps k = (opt1 k (restP ps k)).1 := rfl
  have h25 : 2 + k + 1 ≤ 5 := by omega
  simp only [wordsC3] at hx
  simp only [i64] at h62
  unfold R95
  rw [hR]
  generalize restP ps k = q at *
  cases q with
  | nil =>
    have hf : flgP ps k = false := hF
    rw [← hn hf]
    have hl0 : lenc (.c (.d (slS []))) = some (.c (.d (.int .i64 0)), []) := rfl
    refine ⟨⟨[.c (.d (slS [])), .c (.fn 62 [.ptr ia 0 0] []), .any, i64 (k : Int), strV (wordK k), .agg wordsC3, i64 ((k + 1 : Nat) : Int), bl true, bl false], H.set ia (.cells (anP s c ps k) 0 false)⟩, ?_, ?_⟩
    · simp only [fn95L0, strV, h5, hk, hkk, hx, hl0, ↓sp_len, evs]
    · exact gc_le (by simp)
  | cons x t =>
    have hl0 : lenc (.c (.d (slS (x :: t)))) = some (.c (.d (.int .i64 ((t.length + 1 : Nat) : Int))), []) := rfl
    have hp : ((t.length + 1 : Nat) : Int) > 0 := by omega
    have hat : ixac 1 0 (.c (.d (slS (x :: t)))) = some (.c (.d (.ip (.str x :: t.map D.str))), []) := slS_at (x :: t) (i := 0) (by simp)
    by_cases hw : x = wordK k
    · have hO : opt1 k (x :: t) = (true, t) := by simp only [opt1, if_pos hw]
      have hf : flgP ps k = true := by rw [hF, hO]
      have hs := hs hf
      rw [hO]
      have hq : (x == wordK k) = true := by rw [beqS]; exact decide_eq_true hw
      have hsl : slS (x :: t) = .sl (.str x :: t.map D.str) (t.length + 1) := rfl
      obtain ⟨t1, t2⟩ := slS_tail x t
      have t3 : 1 ≤ t.length + 1 ∧ t.length + 1 ≤ t.length + 1 ∧ t.length + 1 ≤ t.length + 1 ∧ (D.str x :: t.map D.str).length = (t.length + 1) * 1 := by simp
      have t4 : D.sl (t.map D.str) t.length = slS t := rfl
      have t5 : 0 < t.length + 1 := Nat.succ_pos _
      have t6 : (t.map D.str).take t.length = t.map D.str := List.take_of_length_le (by simp)
      simp only [Nat.mul_one] at t2 t3
      refine ⟨⟨[.c (.d (slS t)), .c (.fn 62 [.ptr ia 0 0] []), .any, i64 (k : Int), strV (wordK k), .agg wordsC3, i64 ((k + 1 : Nat) : Int), bl true, bl true], H.set ia (.cells (anP s c ps (k + 1)) 0 false)⟩, ?_, ?_⟩
      · simp only [hsl] at hl0 hat ⊢
        simp only [fn95L0, strV, binStr, optNat, h5, h62, hk, hkk, hx, hl0, hp, hq, e1, hs, hlp, h25, t1, t3, t4, t5, t6, Option.map_none, List.set_set, List.take, List.drop, List.map_cons, List.map_nil, ↓sp_len, ↓sp_ixa, evs]
      · exact gc_le (by simp)
    · have hO : opt1 k (x :: t) = (false, x :: t) := by simp only [opt1, if_neg hw]
      have hf : flgP ps k = false := by rw [hF, hO]
      rw [← hn hf, hO]
      have hq : (x == wordK k) = false := by rw [beqS]; exact decide_eq_false hw
      refine ⟨⟨[.c (.d (slS (x :: t))), .c (.fn 62 [.ptr ia 0 0] []), .any, i64 (k : Int), strV (wordK k), .agg wordsC3, i64 ((k + 1 : Nat) : Int), bl true, bl false], H.set ia (.cells (anP s c ps k) 0 false)⟩, ?_, ?_⟩
      · simp only [fn95L0, strV, binStr, h5, hk, hkk, hx, hl0, hp, hat, hq, List.take, List.map_cons, List.map_nil, ↓sp_len, ↓sp_ixa, evs]
      · exact gc_le (by simp)
theorem f95 (hX : XOk m X) {N : Nat} (hN : 20 ≤ N) {ps : List (List Nat)} {H : Heap} {ia : Nat} {s : List Nat} {c : C} (ha : H[ia]? = some (.cells (anK s c false false false) 0 false)) :
    callN X N (.d (.fn 95 [] [])) [.c (.d (slS ps)), .c (.fn 62 [.ptr ia 0 0] [])] H = some (bl (decide (restP ps 3 = [])), H.set ia (.cells (anK s c (flgP ps 0) (flgP ps 1) (flgP ps 2)) 0 false)) := by
  obtain ⟨N, rfl⟩ : ∃ M, N = M + 1 := ⟨N - 1, by omega⟩
  have hF : fnsA 95 = some fn95' := rfl
  have hia := some_lt ha
  have hg : (zenv X N).glob 0 = some wordsD := by
    show X.glob 0 = _
    rw [CtxLe.glob (X := XA m) hX]; rfl
  rw [hX.fn hF]
  have h00 : anP s c ps 0 = anK s c false false false := rfl
  have h33 : anP s c ps 3 = anK s c (flgP ps 0) (flgP ps 1) (flgP ps 2) := by simp [anP]
  have hH : H.set ia (.cells (anP s c ps 0) 0 false) = H := by rw [h00]; exact set_same ha
  have hit := iter_to (js := some [0, 1, 5, 6]) (hl := H.length) (body := exec (zenv X N) N false fn95L0) (fun k => ⟨R95 ps ia k, H.set ia (.cells (anP s c ps k) 0 false)⟩) (e := .exit 0) (s := ⟨[.c (.d (slS (restP ps 3))), .c (.fn 62 [.ptr ia 0 0] []), .any, .any, .any, .agg wordsC3, i64 3, bl false, .any], H.set ia (.cells (anP s c ps 3) 0 false)⟩) (by simp) 3 0 N (fun j _ hj => r95 hX (by omega) (by omega) hia)
    (by
      have h9 : ¬ ((3 : Nat) : Int) < 3 := by omega
      simp only [fn95L0, R95, Int.cast_ofNat_Int, evs]) (by omega)
  rw [hH, h33] at hit
  have hl3 : lenc (.c (.d (slS (restP ps 3)))) = some (.c (.d (.int .i64 ((restP ps 3).length : Int))), []) := rfl
  have hq : (((restP ps 3).length : Int) == 0) = decide (restP ps 3 = []) := by
    rw [Bool.eq_iff_iff, beq_iff_eq, decide_eq_true_eq]
    constructor
    · intro h; exact List.length_eq_zero_iff.1 (by omega)
    · intro h; rw [h]; rfl
  have h0 : restP ps 0 = ps := rfl
  simp only [R95, i64, bl, wordsC3, wExp, wMap, wAny, h0, Int.natCast_zero] at hit
  refine (rf_fin _ _ _ _ _ _ _ _ _ (by rfl)).trans ?_
  generalize restP ps 3 = q at *
  simp only [wordsD, hg, hit, hl3, hq, List.take, List.map_cons, List.map_nil, ↓sp_len, evs, Nat.reduceAdd, Nat.reduceBEq, Nat.reduceSub]
end Mini
end Go.Proofs.YtgjlofpfbhioaaaGreatDoor
namespace Go.Proofs.YtgjlofpfbhioaaaGreatDoor
namespace Mini
open Go
variable {m : Int} {X : Ctx}
def fn66A : I := .reg false [⟨none, .mov (.r 11)⟩] [(5, 0)] []

def fn66B : I := .block 1 (
  .seq (.reg false [⟨none, .mov (.r 5)⟩,
    ⟨none, .vc 94 [(.l 0)]⟩,
    ⟨none, .mov (.l 0)⟩,
    ⟨none, .ext (.l 0) 0⟩,
    ⟨none, .ext (.l 1) 1⟩,
    ⟨none, .pre⟩,
    ⟨none, .ini 17 (.l 2)⟩,
    ⟨none, .mov (.l 2)⟩] [(6, 1), (7, 0)] []) (
  .seq (.seq (.reg false [⟨none, .mov (.r 7)⟩,
    ⟨none, .bin .neq (.l 0) (.v (.c (.d (.int .i64 0))))⟩] [(12, 0)] []) (
  .cond (.r 12) (
  .seq (.reg false [⟨none, .bld [.str [], .nils, .bool false, .bool false, .bool false] []⟩,
    ⟨none, .st 5 (.r 1) (.l 0)⟩,
    ⟨none, .st 1 (.r 2) (.v (.c (.d (.bool false))))⟩] [] []) (
  .ret)) (
  .skip))) (
  .reg false [⟨none, .fa 1 (.r 4)⟩,
    ⟨none, .ld false 1 (.l 0)⟩,
    ⟨none, .ld true 17 (.r 6)⟩,
    ⟨none, .bsl 1 17 [.int .u8 0, .int .u32 0, .int .u32 0, .int .u32 0, .int .u32 0, .int .u32 0, .int .u32 0, .int .u32 0, .int .u32 0, .int .u32 0, .int .u32 0, .int .u32 0, .int .u32 0, .int .u32 0, .int .u32 0, .int .u32 0, .int .u32 0] [(0, 17, (.l 0))]⟩,
    ⟨none, .app 17 (.l 2) (.l 0)⟩,
    ⟨none, .fa 1 (.r 4)⟩,
    ⟨none, .st 1 (.l 0) (.l 1)⟩] [] [])))

def fn66'' : Fn := ⟨1, 13, [0, 2, 3, 4, 5, 6, 7, 8, 9, 20, 29, 30, 37], [.cell 1 5 true, .cell 2 1 false],
  .seq (.reg false [⟨none, .new [.str [], .nils, .bool false, .bool false, .bool false]⟩,
    ⟨none, .new [.bool false]⟩] [(1, 1), (2, 0)] []) (
  .seq (.reg false [⟨none, .mov (.r 0)⟩,
    ⟨none, .pc 92 [(.l 0), (.v (.c (.d (.str [32]))))]⟩,
    ⟨none, .mov (.l 0)⟩] [(3, 0)] []) (
  .seq (.seq (.reg false [⟨none, .mov (.r 3)⟩,
    ⟨none, .len (.l 0)⟩,
    ⟨none, .bin .lss (.l 0) (.v (.c (.d (.int .i64 3))))⟩,
    ⟨none, .mov (.l 0)⟩,
    ⟨some (0, false), .mov (.r 3)⟩,
    ⟨some (1, false), .ixa 1 (.l 0) (.v (.c (.d (.int .i64 0))))⟩,
    ⟨some (2, false), .ld false 1 (.l 0)⟩,
    ⟨some (3, false), .bin .neq (.l 0) (.v (.c (.d (.str [97, 110, 99, 104, 111, 114]))))⟩,
    ⟨none, .pick (.l 4) (.v (.c (.d (.bool true)))) (.l 0)⟩] [(9, 0)] []) (
  .cond (.r 9) (
  .seq (.reg false [⟨none, .bld [.str [], .nils, .bool false, .bool false, .bool false] []⟩,
    ⟨none, .st 5 (.r 1) (.l 0)⟩,
    ⟨none, .st 1 (.r 2) (.v (.c (.d (.bool false))))⟩] [] []) (
  .ret)) (
  .skip))) (
  .seq (.reg false [⟨none, .mov (.r 3)⟩,
    ⟨none, .ixa 1 (.l 0) (.v (.c (.d (.int .i64 1))))⟩,
    ⟨none, .ld false 1 (.l 0)⟩,
    ⟨none, .bld [.str [], .nils, .bool false, .bool false, .bool false] [(0, 1, (.l 0))]⟩,
    ⟨none, .pre⟩,
    ⟨none, .ini 5 (.l 1)⟩] [(4, 0)] []) (
  .seq (.seq (.reg false [⟨none, .mov (.r 3)⟩,
    ⟨none, .ixa 1 (.l 0) (.v (.c (.d (.int .i64 2))))⟩,
    ⟨none, .ld false 1 (.l 0)⟩,
    ⟨none, .hc (.v (.c (.d (.fn 93 [] [])))) [(.l 0), (.v (.c (.d (.str [44]))))]⟩] [(10, 0)] []) (
  .block 0 (
  .seq (.fresh 4 (some 1) 17) (
  .rf (.r 10) [11] fn66A fn66B)))) (
  .seq (.reg false [⟨none, .mov (.r 3)⟩,
    ⟨none, .slc 1 (.l 0) (some (.v (.c (.d (.int .i64 3))))) none none⟩,
    ⟨none, .mkf 62 [(.r 4)] []⟩,
    ⟨none, .hc (.v (.c (.d (.fn 95 [] [])))) [(.l 1), (.l 0)]⟩,
    ⟨none, .mov (.l 0)⟩] [(8, 0)] []) (
  .seq (.reg false [⟨none, .ld true 5 (.r 4)⟩,
    ⟨none, .mov (.r 8)⟩,
    ⟨none, .st 5 (.r 1) (.l 1)⟩,
    ⟨none, .st 1 (.r 2) (.l 1)⟩] [] []) (
  .ret)))))))⟩
theorem fn66_is2 : fn66 = fn66'' := rfl
/-! ### Parts between a byte, one after the other -/
theorem idx_none {c : Nat} : ∀ {s : List Nat}, idxN c s = none → splitN c s = [s]
  | [], _ => rfl
  | x :: s, h => by
    unfold idxN at h
    split at h
    · cases h
    · rename_i hx
      cases hi : idxN c s with
      | none => rw [splitN, if_neg hx, idx_none hi]
      | some k => rw [hi] at h; cases h
theorem idx_some {c : Nat} : ∀ {s : List Nat} {k : Nat}, idxN c s = some k → k < s.length ∧ splitN c s = s.take k :: splitN c (s.drop (k + 1))
  | [], _, h => by cases h
  | x :: s, k, h => by
    unfold idxN at h
    split at h
    · rename_i hx
      cases h
      exact ⟨by simp, by rw [splitN, if_pos hx]; rfl⟩
    · rename_i hx
      cases hi : idxN c s with
      | none => rw [hi] at h; cases h
      | some i =>
        rw [hi] at h
        obtain ⟨h1, h2⟩ := idx_some hi
        simp only [Option.some.injEq] at h
        subst h
        refine ⟨by simp only [List.length_cons]; omega, ?_⟩
        rw [splitN, if_neg hx, h2]
        rfl
def restN (c : Nat) (s : List Nat) : Nat → List Nat
  | 0 => s
  | j + 1 => match idxN c (restN c s j) with
    | some i => (restN c s j).drop (i + 1)
    | none => []
theorem restN_len (c : Nat) (s : List Nat) : ∀ j, (restN c s j).length ≤ s.length
  | 0 => Nat.le_refl _
  | j + 1 => by
    have := restN_len c s j
    unfold restN
    split
    · rw [List.length_drop]; omega
    · simp
theorem restN_split (c : Nat) (s : List Nat) : ∀ j, j < (splitN c s).length → splitN c (restN c s j) = (splitN c s).drop j
  | 0, _ => by simp [restN]
  | j + 1, h => by
    have ih := restN_split c s j (by omega)
    cases hi : idxN c (restN c s j) with
    | none =>
      rw [idx_none hi] at ih
      have := congrArg List.length ih
      rw [List.length_drop] at this
      simp only [List.length_cons, List.length_nil] at this
      omega
    | some i =>
      obtain ⟨_, h2⟩ := idx_some hi
      rw [restN, hi]
      simp only
      rw [h2] at ih
      rw [show (splitN c s).drop (j + 1) = ((splitN c s).drop j).drop 1 by rw [List.drop_drop], ← ih]
      rfl
/-- A round's part; whether it is the last. -/
theorem restN_round (c : Nat) (s : List Nat) (j : Nat) (h : j + 1 < (splitN c s).length) : ∃ i, idxN c (restN c s j) = some i ∧ i < (restN c s j).length ∧ (restN c s j).take i = (splitN c s).getD j [] ∧ (restN c s j).drop (i + 1) = restN c s (j + 1) := by
  have hs := restN_split c s j (by omega)
  cases hi : idxN c (restN c s j) with
  | none =>
    rw [idx_none hi] at hs
    have := congrArg List.length hs
    rw [List.length_drop] at this
    simp only [List.length_cons, List.length_nil] at this
    omega
  | some i =>
    obtain ⟨h1, h2⟩ := idx_some hi
    refine ⟨i, rfl, h1, ?_, by rw [restN, hi]⟩
    rw [h2] at hs
    have : ((splitN c s).drop j)[0]? = some ((restN c s j).take i) := by rw [← hs]; rfl
    rw [List.getElem?_drop, Nat.add_zero] at this
    rw [List.getD_eq_getElem?_getD, this]; rfl
theorem restN_last (c : Nat) (s : List Nat) : idxN c (restN c s ((splitN c s).length - 1)) = none ∧ restN c s ((splitN c s).length - 1) = (splitN c s).getD ((splitN c s).length - 1) [] := by
  have hp : 0 < (splitN c s).length := by
    rcases Nat.eq_zero_or_pos (splitN c s).length with h | h
    · exact absurd (List.length_eq_zero_iff.1 h) (splitN_neq c s)
    · exact h
  have hs := restN_split c s ((splitN c s).length - 1) (by omega)
  cases hi : idxN c (restN c s ((splitN c s).length - 1)) with
  | none =>
    refine ⟨rfl, ?_⟩
    rw [idx_none hi] at hs
    have : ((splitN c s).drop ((splitN c s).length - 1))[0]? = some (restN c s ((splitN c s).length - 1)) := by rw [← hs]; rfl
    rw [List.getElem?_drop, Nat.add_zero] at this
    rw [List.getD_eq_getElem?_getD, this]; rfl
  | some i =>
    obtain ⟨_, h2⟩ := idx_some hi
    rw [h2] at hs
    have := congrArg List.length hs
    have hq : 0 < (splitN c ((restN c s ((splitN c s).length - 1)).drop (i + 1))).length := by
      rcases Nat.eq_zero_or_pos (splitN c ((restN c s ((splitN c s).length - 1)).drop (i + 1))).length with h | h
      · exact absurd (List.length_eq_zero_iff.1 h) (splitN_neq c _)
      · exact h
    rw [List.length_cons, List.length_drop] at this
    omega
/-! ### The heap of 'read' -/
theorem callN_yld {n id : Nat} {v : V} {H : Heap} {regs regs1 regs2 : List V} {p : Nat} {ps1 ps2 : List Nat} {asg body asg1 body1 asg2 body2 : I} {s1 s2 : St} {e : Ex} (ho : H[id]? = some (.loop true none regs [p] asg body))
    (h1 : exec (zenv X n) n true asg ⟨put regs p v, H⟩ = some (.nrm, s1)) (ho1 : s1.heap[id]? = some (.loop true none regs1 ps1 asg1 body1))
    (h2 : exec (zenv X n) n true body ⟨s1.regs, s1.heap.set id (.loop false none regs1 ps1 asg1 body1)⟩ = some (e, s2)) (ho2 : s2.heap[id]? = some (.loop false none regs2 ps2 asg2 body2)) :
    callN X (n + 1) (.yld id) [v] H = some (.c (.d (.bool (e == .nrm))), s2.heap.set id (.loop (e == .nrm) (if e == .nrm then none else some e) regs2 ps2 asg2 body2)) := by
  have : callN X (n + 1) (.yld id) [v] H = match ob? H id with
      | some (.loop true none regs ps asg body) =>
        if [v].length = ps.length then
          match exec (zenv X n) n true asg ⟨putAll regs ps [v], H⟩ with
          | some (.nrm, s) =>
            match ob? s.heap id with
            | some (.loop true none regs1 ps1 asg1 body1) =>
              match exec (zenv X n) n true body ⟨s.regs, setOb s.heap id (.loop false none regs1 ps1 asg1 body1)⟩ with
              | some (e, s') =>
                match ob? s'.heap id with
                | some (.loop false none regs2 ps2 asg2 body2) =>
                  some (.c (.d (.bool (e == .nrm))), setOb s'.heap id (.loop (e == .nrm) (if e == .nrm then none else some e) regs2 ps2 asg2 body2))
                | _ => none
              | none => none
            | _ => none
          | _ => none
        else none
      | _ => none := rfl
  rw [this, ob_eq, ho]
  simp only [List.length_cons, List.length_nil, if_true, putAll, h1, ob_eq, ho1, setOb_eq, h2, ho2]
/-- The parts that have been read. -/
def osP (ps : List (List Nat)) (j : Nat) : List Oid := (ps.take j).map fun x => (parseO x).1
theorem osP_succ (ps : List (List Nat)) {j : Nat} (h : j < ps.length) : osP ps (j + 1) = osP ps j ++ [(parseO (ps.getD j [])).1] := by
  have hx : ps[j]? = some (ps.getD j []) := by rw [List.getD_eq_getElem?_getD, List.getElem?_eq_getElem h]; rfl
  unfold osP
  rw [List.take_add_one, hx, Option.toList_some, List.map_append]
  rfl
theorem osP_len (ps : List (List Nat)) {j : Nat} (h : j ≤ ps.length) : (osP ps j).length = j := by
  simp [osP]; omega
theorem parseO_wf (s : List Nat) : wfO (parseO s).1 := by
  have h0 : wfO o0 := by unfold wfO o0; decide
  unfold parseO
  split
  · exact h0
  split
  · exact h0
  rename_i h1 h2
  split
  · exact h0
  split
  · exact h0
  · exact ⟨by simp only; omega, arrP_len _ _, arrP_lt _ _⟩
theorem osP_wf (ps : List (List Nat)) (j : Nat) : wfS (osP ps j) := fun o ho => by
  obtain ⟨x, _, rfl⟩ := List.mem_map.1 ho
  exact parseO_wf x
abbrev fnS : C := .fn 148 [] [.ptr 4 0 0, .ptr 3 0 0, .ptr 5 0 0]
abbrev regs66 (s : List Nat) (q : List (List Nat)) : List V := [strV s, .c (.ptr 0 0 0), .c (.ptr 1 0 0), .c (.d (slS q)), .c (.ptr 2 0 0), .any, .any, .any, .any, bl false, .c fnS, .any, .any]
/-- The heap while the parts are read: before the part j. -/
def hp66 (s : List Nat) (q : List (List Nat)) (name : List Nat) (ps : List (List Nat)) (r : List Nat) (j : Nat) (t : Bool) : Heap := [.cells zA 0 false, .cells [.d (.bool false)] 0 false, .cells (anK name (.os 6 j 0 j 17 none) false false false) 0 false, .cells [.d (.str r)] 0 false, .cells [.d (.str [44])] 0 false, .cells [.d (.int .i64 0)] 0 false, .cells (flC (osP ps j)) j false, .loop t none (regs66 s q) [11] fn66A fn66B]
theorem yl66 (hX : XOk m X) {N : Nat} {s : List Nat} {q : List (List Nat)} {name r : List Nat} {ps : List (List Nat)} {j : Nat} (hN : (ps.getD j []).length + 70 ≤ N) (hj : j < ps.length) (hl : (ps.getD j []).length < 1000000) (hj2 : j + 1 < 900000) (hp : (parseO (ps.getD j [])).2 = 0) :
    ∃ t, callN X N (.yld 7) [strV (ps.getD j [])] (hp66 s q name ps r j true) = some (bl true, hp66 s q name ps r (j + 1) true ++ t) := by
  obtain ⟨N, rfl⟩ : ∃ M, N = M + 1 := ⟨N - 1, by omega⟩
  have h94 := hX.vc (k := 94) (F := fn94) rfl (f94 hX (N := N) (s := ps.getD j []) (by omega) (by omega))
  have hwf := parseO_wf (ps.getD j [])
  have hos := osP_succ ps hj
  have hlo := osP_len ps (j := j) (by omega)
  have hfl := flC_len (osP_wf ps j)
  rw [hlo] at hfl
  rw [hp] at h94
  unfold hp66
  rw [hos]
  generalize (parseO (ps.getD j [])).1 = o at *
  generalize osP ps j = l at *
  generalize ps.getD j [] = x at *
  have h6 := oC_len hwf
  have hd : ∀ o : Oid, List.map C.d (oD o) = oC o := fun _ => rfl
  have hap : flC (l ++ [o]) = flC l ++ oC o := by rw [flC_app, flC_one]
  have htk : (flC l).take (j * 17) = flC l := List.take_of_length_le (by omega)
  have hl1 := lay1 hwf
  have k1 : j + 1 ≤ 1073741824 := by omega
  have k2 : j + 1 < genK := by show j + 1 < 1000000; omega
  have hfo := oC_flat o
  rw [hap]
  simp only [strV, i64, Int.natCast_zero] at h94
  refine ⟨[.cells (oC o) 0 false, .cells (oC o) 0 false], ?_⟩
  refine (callN_yld (X := X) (n := N) (id := 7) (p := 11) (regs := regs66 s q) (regs1 := regs66 s q) (regs2 := regs66 s q) (ps1 := [11]) (ps2 := [11]) (asg := fn66A) (body := fn66B) (asg1 := fn66A) (body1 := fn66B) (asg2 := fn66A) (body2 := fn66B) (s1 := ⟨[strV s, .c (.ptr 0 0 0), .c (.ptr 1 0 0), .c (.d (slS q)), .c (.ptr 2 0 0), strV x, .any, .any, .any, bl false, .c fnS, strV x, .any], [.cells zA 0 false, .cells [.d (.bool false)] 0 false, .cells (anK name (.os 6 j 0 j 17 none) false false false) 0 false, .cells [.d (.str r)] 0 false, .cells [.d (.str [44])] 0 false, .cells [.d (.int .i64 0)] 0 false, .cells (flC l) j false, .loop true none (regs66 s q) [11] fn66A fn66B]⟩)
    (s2 := ⟨[strV s, .c (.ptr 0 0 0), .c (.ptr 1 0 0), .c (.d (slS q)), .c (.ptr 2 0 0), strV x, .c (.ptr 8 0 0), i64 0, .any, bl false, .c fnS, strV x, bl false], [.cells zA 0 false, .cells [.d (.bool false)] 0 false, .cells (anK name (.os 6 (j + 1) 0 (j + 1) 17 none) false false false) 0 false, .cells [.d (.str r)] 0 false, .cells [.d (.str [44])] 0 false, .cells [.d (.int .i64 0)] 0 false, .cells (flC l ++ oC o) (j + 1) false, .loop false none (regs66 s q) [11] fn66A fn66B, .cells (oC o) 0 false, .cells (oC o) 0 false]⟩) (e := .nrm) rfl ?_ rfl ?_ rfl).trans rfl
  · simp only [fn66A, evs]
  · simp only [fn66B, ob?, strV, anK, elems, splice, h94, h6, hfl, htk, hl1, k1, k2, List.take, List.drop, List.take_of_length_le (Nat.le_of_eq h6), List.set_cons_zero, List.set_cons_succ, List.map_cons, List.map_nil, freeze_nil, reachV, reachC, ite_self, List.flatMap_cons, List.flatMap_nil, Nat.le_refl, Nat.one_ne_zero, evs, Nat.reduceAdd, Nat.reduceLeDiff]
theorem yl66b (hX : XOk m X) {N : Nat} {s : List Nat} {q : List (List Nat)} {name r : List Nat} {ps : List (List Nat)} {j : Nat} (hN : (ps.getD j []).length + 70 ≤ N) (hl : (ps.getD j []).length < 1000000) (hp : (parseO (ps.getD j [])).2 ≠ 0) :
    ∃ t, callN X N (.yld 7) [strV (ps.getD j [])] (hp66 s q name ps r j true) = some (bl false, (hp66 s q name ps r j true).set 7 (.loop false (some .ret) (regs66 s q) [11] fn66A fn66B) ++ t) := by
  obtain ⟨N, rfl⟩ : ∃ M, N = M + 1 := ⟨N - 1, by omega⟩
  have h94 := hX.vc (k := 94) (F := fn94) rfl (f94 hX (N := N) (s := ps.getD j []) (by omega) (by omega))
  have hwf := parseO_wf (ps.getD j [])
  unfold hp66
  have g1 : ((((parseO (ps.getD j [])).2 : Nat) : Int) != 0) = true := by rw [bne_iff_ne]; omega
  generalize (parseO (ps.getD j [])).1 = o at *
  generalize (parseO (ps.getD j [])).2 = e at *
  generalize osP ps j = l at *
  generalize ps.getD j [] = x at *
  have h6 := oC_len hwf
  simp only [strV, i64] at h94
  have hfo := oC_flat o
  refine ⟨[.cells (oC o) 0 false], ?_⟩
  refine (callN_yld (X := X) (n := N) (id := 7) (p := 11) (regs := regs66 s q) (regs1 := regs66 s q) (regs2 := regs66 s q) (ps1 := [11]) (ps2 := [11]) (asg := fn66A) (body := fn66B) (asg1 := fn66A) (body1 := fn66B) (asg2 := fn66A) (body2 := fn66B) (s1 := ⟨[strV s, .c (.ptr 0 0 0), .c (.ptr 1 0 0), .c (.d (slS q)), .c (.ptr 2 0 0), strV x, .any, .any, .any, bl false, .c fnS, strV x, .any], [.cells zA 0 false, .cells [.d (.bool false)] 0 false, .cells (anK name (.os 6 j 0 j 17 none) false false false) 0 false, .cells [.d (.str r)] 0 false, .cells [.d (.str [44])] 0 false, .cells [.d (.int .i64 0)] 0 false, .cells (flC l) j false, .loop true none (regs66 s q) [11] fn66A fn66B]⟩)
    (s2 := ⟨[strV s, .c (.ptr 0 0 0), .c (.ptr 1 0 0), .c (.d (slS q)), .c (.ptr 2 0 0), strV x, .c (.ptr 8 0 0), i64 (e : Int), .any, bl false, .c fnS, strV x, bl true], [.cells zA 0 false, .cells [.d (.bool false)] 0 false, .cells (anK name (.os 6 j 0 j 17 none) false false false) 0 false, .cells [.d (.str r)] 0 false, .cells [.d (.str [44])] 0 false, .cells [.d (.int .i64 0)] 0 false, .cells (flC l) j false, .loop false none (regs66 s q) [11] fn66A fn66B, .cells (oC o) 0 false]⟩) (e := .ret) rfl ?_ rfl ?_ rfl).trans rfl
  · simp only [fn66A, evs]
  · simp only [fn66B, ob?, strV, lay, splice, h94, h6, g1, List.take, List.drop, List.set_cons_zero, List.set_cons_succ, List.map_cons, List.map_nil, freeze_nil, reachV, reachC, ite_self, List.flatMap_cons, List.flatMap_nil, evs, Nat.reduceAdd, Nat.reduceLeDiff]
theorem flC_d (l : List Oid) : (flC l).all C.isD = true := by
  rw [List.all_eq_true]
  intro c hc
  obtain ⟨d, _, rfl⟩ := List.mem_map.1 hc
  rfl
abbrev R148 : List V := [.c (.yld 7), .c (.ptr 4 0 0), .c (.ptr 3 0 0), .c (.ptr 5 0 0), .any, .any, .any, .any, .any, .any, .any, .any]
theorem p147 (hX : XOk m X) {N : Nat} {s : List Nat} {c : Nat} : (zenv X N).prim 147 [.c (.d (.str s)), .c (.d (.str [c]))] = some (.c (.d (.int .i64 (oInt (idxN c s))))) := by
  rw [zenv_pr]
  exact hX.prim _ _ _ rfl
theorem r148 (hX : XOk m X) {N : Nat} {s t : List Nat} {q : List (List Nat)} {name : List Nat} {j : Nat} (hN : t.length + 70 ≤ N) (ht : t.length < 800000) (hj : j + 1 < (splitN 44 t).length) (hp : (parseO ((splitN 44 t).getD j [])).2 = 0) :
    ∃ s', exec (zenv X N) N false fn148L0 ⟨R148, hp66 s q name (splitN 44 t) (restN 44 t j) j true⟩ = some (.nrm, s') ∧ tidy 8 (some [0, 1, 2, 3]) s' = ⟨R148, hp66 s q name (splitN 44 t) (restN 44 t (j + 1)) (j + 1) true⟩ := by
  obtain ⟨i, h1, h2, h3, h4⟩ := restN_round 44 t j hj
  obtain ⟨hl1, hl2⟩ := splitN_len 44 t
  have hx : ((splitN 44 t).getD j []).length ≤ t.length := hl2 _ (by
    rw [List.getD_eq_getElem?_getD, List.getElem?_eq_getElem (by omega)]
    exact List.getElem_mem _)
  obtain ⟨u, hy⟩ := yl66 hX (N := N) (s := s) (q := q) (name := name) (r := restN 44 t j) (ps := splitN 44 t) (j := j) (by omega) (by omega) (by omega) (by omega) hp
  have hrl := restN_len 44 t j
  have hpc := p147 hX (N := N) (s := restN 44 t j) (c := 44)
  rw [h1] at hpc
  have w1 : IntKind.i64.wrap ((i : Int) + 0) = (i : Int) := by rw [Int.add_zero]; exact wrap_nat (by omega)
  have w2 := wrap_succ (k := i) (by omega)
  rw [← h4]
  have htk : (restN 44 t j).take (restN 44 t j).length = restN 44 t j := List.take_length
  have k1 : i ≤ (restN 44 t j).length := by omega
  have k2 : i + 1 ≤ (restN 44 t j).length := by omega
  have k3 : ¬ (i : Int) < 0 := by omega
  have hos : oInt (some i) = (i : Int) := rfl
  have hosu : (flC (osP (splitN 44 t) (j + 1))).all C.isD = true := flC_d _
  unfold hp66 at hy ⊢
  rw [← h3] at hy
  generalize restN 44 t j = r at *
  generalize osP (splitN 44 t) j = l at *
  generalize osP (splitN 44 t) (j + 1) = l' at *
  refine ⟨⟨[.c (.yld 7), .c (.ptr 4 0 0), .c (.ptr 3 0 0), .c (.ptr 5 0 0), .any, i64 (i : Int), strV (r.take i), .any, .any, .any, bl false, bl false], [.cells zA 0 false, .cells [.d (.bool false)] 0 false, .cells (anK name (.os 6 (j + 1) 0 (j + 1) 17 none) false false false) 0 false, .cells [.d (.str (r.drop (i + 1)))] 0 false, .cells [.d (.str [44])] 0 false, .cells [.d (.int .i64 0)] 0 false, .cells (flC l') (j + 1) false, .loop true none (regs66 s q) [11] fn66A fn66B] ++ u⟩, ?_, ?_⟩
  · simp only [strV, bl] at hy
    simp only [fn148L0, R148, ob?, strV, optNat, splice, hpc, hos, hy, w1, w2, htk, k1, k2, k3, Int.natCast_one, Option.map_none, Bool.not_true, Nat.zero_le, Nat.le_refl, List.take, List.drop, List.set_cons_zero, List.set_cons_succ, List.map_cons, List.map_nil, freeze_nil, reachV, reachC, ite_self, List.flatMap_cons, List.flatMap_nil, evs]
  · refine gc_yes rfl ?_
    simp only [anK, List.cons_append, List.nil_append, List.take_succ_cons, List.take_zero, List.all_cons, List.all_nil, Ob.under, undersC_d 8 _ hosu, Bool.and_true, Bool.and_self]
    rfl
end Mini
end Go.Proofs.YtgjlofpfbhioaaaGreatDoor
namespace Go.Proofs.YtgjlofpfbhioaaaGreatDoor
namespace Mini
open Go
variable {m : Int} {X : Ctx}
theorem seqLen (c : Nat) (s : List Nat) : 0 < (splitN c s).length := by
  rcases Nat.eq_zero_or_pos (splitN c s).length with h | h
  · exact absurd (List.length_eq_zero_iff.1 h) (splitN_neq c s)
  · exact h
/-- The loop's object when the range is over, and what the calls have laid. -/
theorem c148 (hX : XOk m X) {N : Nat} {s t : List Nat} {q : List (List Nat)} {name : List Nat} (hN : t.length + 80 ≤ N) (ht : t.length < 800000) :
    ((∀ j, j < (splitN 44 t).length → (parseO ((splitN 44 t).getD j [])).2 = 0) ∧ ∃ u, callN X N fnS [.c (.yld 7)] (hp66 s q name (splitN 44 t) t 0 true) = some (.tup [], hp66 s q name (splitN 44 t) (restN 44 t ((splitN 44 t).length - 1)) (splitN 44 t).length true ++ u)) ∨
    ((∃ j, j < (splitN 44 t).length ∧ (parseO ((splitN 44 t).getD j [])).2 ≠ 0) ∧ ∃ r j u, callN X N fnS [.c (.yld 7)] (hp66 s q name (splitN 44 t) t 0 true) = some (.tup [], (hp66 s q name (splitN 44 t) r j true).set 7 (.loop false (some .ret) (regs66 s q) [11] fn66A fn66B) ++ u)) := by
  obtain ⟨N, rfl⟩ : ∃ M, N = M + 1 := ⟨N - 1, by omega⟩
  have hn := seqLen 44 t
  obtain ⟨hl1, hl2⟩ := splitN_len 44 t
  have hx : ∀ j, j < (splitN 44 t).length → ((splitN 44 t).getD j []).length ≤ t.length := fun j hj => hl2 _ (by
    rw [List.getD_eq_getElem?_getD, List.getElem?_eq_getElem hj]
    exact List.getElem_mem _)
  have hF : fnsA 148 = some fn148' := rfl
  have hcall : ∀ H, callN X (N + 1) fnS [.c (.yld 7)] H = runFn (zenv X N) N fn148' [.c (.yld 7), .c (.ptr 4 0 0), .c (.ptr 3 0 0), .c (.ptr 5 0 0)] H := fun H => callN_fnc (hX.fns 148 _ hF)
  rw [hcall]
  have hr0 : restN 44 t 0 = t := rfl
  have hsep : ∀ r j b, (hp66 s q name (splitN 44 t) r j b)[4]? = some (.cells [.d (.str [44])] 0 false) := fun _ _ _ => rfl
  have hstr : ∀ r j b, (hp66 s q name (splitN 44 t) r j b)[3]? = some (.cells [.d (.str r)] 0 false) := fun _ _ _ => rfl
  have hlen : ∀ r j b, (hp66 s q name (splitN 44 t) r j b).length = 8 := fun _ _ _ => rfl
  have hsc := iter_find (js := some [0, 1, 2, 3]) (hl := 8) (body := exec (zenv X N) N false fn148L0) (fun j => (parseO ((splitN 44 t).getD j [])).2 ≠ 0) ((splitN 44 t).length - 1) (fun j => ⟨R148, hp66 s q name (splitN 44 t) (restN 44 t j) j true⟩) (b := 2) (s1 := ⟨[.c (.yld 7), .c (.ptr 4 0 0), .c (.ptr 3 0 0), .c (.ptr 5 0 0), .any, i64 (-1), .any, .any, .any, .any, bl true, .any], hp66 s q name (splitN 44 t) (restN 44 t ((splitN 44 t).length - 1)) ((splitN 44 t).length - 1) true⟩) (Q := fun k s' => ∃ u, s'.heap = (hp66 s q name (splitN 44 t) (restN 44 t k) k true).set 7 (.loop false (some .ret) (regs66 s q) [11] fn66A fn66B) ++ u) (fuel := N) (by omega)
    (fun j hj hp => r148 hX (by omega) ht (by omega) (Decidable.not_not.1 hp))
    (by
      have h1 := (restN_last 44 t).1
      have hpc := p147 hX (N := N) (s := restN 44 t ((splitN 44 t).length - 1)) (c := 44)
      rw [h1] at hpc
      have ho : oInt none = -1 := rfl
      rw [ho] at hpc
      have k1 : (-1 : Int) < 0 := by omega
      have hs := hstr (restN 44 t ((splitN 44 t).length - 1)) ((splitN 44 t).length - 1) true
      have hs2 := hsep (restN 44 t ((splitN 44 t).length - 1)) ((splitN 44 t).length - 1) true
      generalize hp66 s q name (splitN 44 t) (restN 44 t ((splitN 44 t).length - 1)) ((splitN 44 t).length - 1) true = HH at *
      simp only [fn148L0, R148, hpc, hs, hs2, k1, List.drop_zero, List.take, freeze_nil, reachV, reachC, ite_self, List.flatMap_cons, List.flatMap_nil, evs, Nat.reduceEqDiff])
    (by
      intro j hj hp
      obtain ⟨i, h1, h2, h3, h4⟩ := restN_round 44 t j (by omega)
      have hxj := hx j (by omega)
      obtain ⟨u, hy⟩ := yl66b hX (N := N) (s := s) (q := q) (name := name) (r := restN 44 t j) (ps := splitN 44 t) (j := j) (by omega) (by omega) hp
      have hrl := restN_len 44 t j
      have hpc := p147 hX (N := N) (s := restN 44 t j) (c := 44)
      rw [h1] at hpc
      have w1 : IntKind.i64.wrap ((i : Int) + 0) = (i : Int) := by rw [Int.add_zero]; exact wrap_nat (by omega)
      have k1 : i ≤ (restN 44 t j).length := by omega
      have k3 : ¬ (i : Int) < 0 := by omega
      have hos : oInt (some i) = (i : Int) := rfl
      have hs := hstr (restN 44 t j) j true
      have hs2 := hsep (restN 44 t j) j true
      have hs3 : (hp66 s q name (splitN 44 t) (restN 44 t j) j true)[5]? = some (.cells [.d (.int .i64 0)] 0 false) := rfl
      rw [← h3] at hy
      generalize hH2 : (hp66 s q name (splitN 44 t) (restN 44 t j) j true).set 7 (.loop false (some .ret) (regs66 s q) [11] fn66A fn66B) ++ u = H2 at hy
      refine ⟨⟨[.c (.yld 7), .c (.ptr 4 0 0), .c (.ptr 3 0 0), .c (.ptr 5 0 0), .any, i64 (i : Int), strV ((restN 44 t j).take i), .any, .any, .any, bl false, bl true], H2⟩, ?_, u, ?_⟩
      · generalize hp66 s q name (splitN 44 t) (restN 44 t j) j true = HH at *
        generalize restN 44 t j = r at *
        simp only [strV, bl] at hy
        simp only [fn148L0, R148, strV, optNat, hpc, hos, hy, hs, hs2, hs3, w1, k1, k3, Option.map_none, Bool.not_false, Nat.zero_le, List.take, List.drop, List.map_cons, List.map_nil, freeze_nil, reachV, reachC, ite_self, List.flatMap_cons, List.flatMap_nil, evs]
      · exact hH2.symm)
  simp only [R148, i64, bl, hr0] at hsc
  have hb0 : ∀ r j, (hp66 s q name (splitN 44 t) r j true)[4]? = some (.cells [.d (.str [44])] 0 false) := fun _ _ => rfl
  have g1 : ((1 : Int) == 0) = false := rfl
  have hstart := hsep t 0 true
  have hlen0 := hlen t 0 true
  rcases hsc with ⟨hno, hit⟩ | ⟨k, s', hk, hp, hno, ⟨u, hq⟩, hit⟩
  · obtain ⟨h1, h2⟩ := restN_last 44 t
    have hs := hstr (restN 44 t ((splitN 44 t).length - 1)) ((splitN 44 t).length - 1) true
    by_cases hlast : (parseO ((splitN 44 t).getD ((splitN 44 t).length - 1) [])).2 = 0
    · left
      refine ⟨fun j hj => ?_, ?_⟩
      · by_cases hj2 : j = (splitN 44 t).length - 1
        · rw [hj2]; exact hlast
        · exact Decidable.not_not.1 (hno j (by omega))
      · obtain ⟨u, hy⟩ := yl66 hX (N := N) (s := s) (q := q) (name := name) (r := restN 44 t ((splitN 44 t).length - 1)) (ps := splitN 44 t) (j := (splitN 44 t).length - 1) (by have := hx _ (show (splitN 44 t).length - 1 < _ by omega); omega) (by omega) (by have := hx _ (show (splitN 44 t).length - 1 < _ by omega); omega) (by omega) hlast
        rw [show (splitN 44 t).length - 1 + 1 = (splitN 44 t).length by omega, ← h2] at hy
        refine ⟨u, (rf_fin _ _ _ _ _ _ _ _ _ (by rfl)).trans ?_⟩
        generalize hp66 s q name (splitN 44 t) (restN 44 t ((splitN 44 t).length - 1)) (splitN 44 t).length true ++ u = H2 at *
        generalize hp66 s q name (splitN 44 t) (restN 44 t ((splitN 44 t).length - 1)) ((splitN 44 t).length - 1) true = H1 at *
        generalize hp66 s q name (splitN 44 t) t 0 true = H0 at *
        simp only [strV] at hy
        simp only [hstart, hlen0, hit, hs, hy, g1, Int.natCast_one, List.drop_zero, List.take, List.map_cons, List.map_nil, evs, Nat.reduceAdd, Nat.reduceBEq, Nat.reduceSub]
    · right
      refine ⟨⟨_, by omega, hlast⟩, ?_⟩
      obtain ⟨u, hy⟩ := yl66b hX (N := N) (s := s) (q := q) (name := name) (r := restN 44 t ((splitN 44 t).length - 1)) (ps := splitN 44 t) (j := (splitN 44 t).length - 1) (by have := hx _ (show (splitN 44 t).length - 1 < _ by omega); omega) (by have := hx _ (show (splitN 44 t).length - 1 < _ by omega); omega) hlast
      rw [← h2] at hy
      refine ⟨restN 44 t ((splitN 44 t).length - 1), (splitN 44 t).length - 1, u, (rf_fin _ _ _ _ _ _ _ _ _ (by rfl)).trans ?_⟩
      generalize (hp66 s q name (splitN 44 t) (restN 44 t ((splitN 44 t).length - 1)) ((splitN 44 t).length - 1) true).set 7 (.loop false (some .ret) (regs66 s q) [11] fn66A fn66B) ++ u = H2 at *
      generalize hp66 s q name (splitN 44 t) (restN 44 t ((splitN 44 t).length - 1)) ((splitN 44 t).length - 1) true = H1 at *
      generalize hp66 s q name (splitN 44 t) t 0 true = H0 at *
      simp only [strV] at hy
      simp only [hstart, hlen0, hit, hs, hy, g1, Int.natCast_one, List.drop_zero, List.take, List.map_cons, List.map_nil, evs, Nat.reduceAdd, Nat.reduceBEq, Nat.reduceSub]
  · right
    refine ⟨⟨k, by omega, hp⟩, restN 44 t k, k, u, (rf_fin _ _ _ _ _ _ _ _ _ (by rfl)).trans ?_⟩
    obtain ⟨r, H⟩ := s'
    simp only at hq
    subst hq
    generalize (hp66 s q name (splitN 44 t) (restN 44 t k) k true).set 7 (.loop false (some .ret) (regs66 s q) [11] fn66A fn66B) ++ u = H2 at *
    generalize hp66 s q name (splitN 44 t) t 0 true = H0 at *
    simp only [hstart, hlen0, hit, g1, Int.natCast_one, List.drop_zero, List.take, evs, Nat.reduceAdd, Nat.reduceBEq, Nat.reduceSub]
theorem f93 (hX : XOk m X) {N : Nat} (hN : 2 ≤ N) {s c : List Nat} {H : Heap} : callN X N (.d (.fn 93 [] [])) [strV s, strV c] H = some (.c (.fn 148 [] [.ptr (H.length + 1) 0 0, .ptr H.length 0 0, .ptr (H.length + 2) 0 0]), H ++ [.cells [.d (.str s)] 0 false, .cells [.d (.str c)] 0 false, .cells [.d (.int .i64 0)] 0 false]) := by
  obtain ⟨N, rfl⟩ : ∃ M, N = M + 2 := ⟨N - 2, by omega⟩
  have h115 : callN X (N + 1) (.d (.fn 115 [] [])) [strV s, strV c, i64 0] H = some (.c (.fn 148 [] [.ptr (H.length + 1) 0 0, .ptr H.length 0 0, .ptr (H.length + 2) 0 0]), H ++ [.cells [.d (.str s)] 0 false, .cells [.d (.str c)] 0 false, .cells [.d (.int .i64 0)] 0 false]) := by
    rw [hX.fn (F := fn115) rfl]
    refine (rf_fin _ _ _ _ _ _ _ _ _ (by rfl)).trans ?_
    simp only [strV, V.one, List.length_append, List.append_assoc, evs, Nat.reduceAdd, Nat.reduceSub]
  rw [hX.fn (F := fn93) rfl]
  refine (rf_fin _ _ _ _ _ _ _ _ _ (by rfl)).trans ?_
  simp only [strV, i64] at h115
  simp only [strV, h115, List.map_cons, List.map_nil, evs, Nat.reduceAdd, Nat.reduceSub]
end Mini
end Go.Proofs.YtgjlofpfbhioaaaGreatDoor
namespace Go.Proofs.YtgjlofpfbhioaaaGreatDoor
namespace Mini
open Go
variable {m : Int} {X : Ctx}
def wAnc : List Nat := [97, 110, 99, 104, 111, 114]
def itemsOk (ps : List (List Nat)) : Prop := ∀ j, j < ps.length → (parseO (ps.getD j [])).2 = 0
instance (ps : List (List Nat)) : Decidable (itemsOk ps) := by unfold itemsOk; infer_instance
def anR (q : List (List Nat)) : An := ⟨q.getD 1 [], slO (osP (splitN 44 (q.getD 2 [])) (splitN 44 (q.getD 2 [])).length), osP (splitN 44 (q.getD 2 [])) (splitN 44 (q.getD 2 [])).length, flgP (q.drop 3) 0, flgP (q.drop 3) 1, flgP (q.drop 3) 2⟩
def readA (s : List Nat) : An × Bool :=
  if (splitN 32 s).length < 3 ∨ (splitN 32 s).getD 0 [] ≠ wAnc then (a0, false)
  else if ¬ itemsOk (splitN 44 ((splitN 32 s).getD 2 [])) then (a0, false)
  else (anR (splitN 32 s), decide (restP ((splitN 32 s).drop 3) 3 = []))
theorem ex_rf {E : Env} {N : Nat} {f : A} {ps : List Nat} {asg body : I} {regs : List V} {H H2 : Heap} {x : C} {r : V} {regs2 : List V} {ps2 : List Nat} {asg2 body2 : I} (hx : look E regs [] f = .c x) (hf : x.isFn = true) (hc : E.call x [.c (.yld H.length)] (H ++ [.loop true none regs ps asg body]) = some (r, H2)) (ho : H2[H.length]? = some (.loop true none regs2 ps2 asg2 body2)) :
    exec E N false (.rf f ps asg body) ⟨regs, H⟩ = some (.nrm, ⟨regs, H2.set H.length .dead⟩) := by
  simp only [exec, hx, hf, hc, ob_eq, ho, setOb_eq]
  simp
theorem ex_rf_out {E : Env} {N : Nat} {f : A} {ps : List Nat} {asg body : I} {regs : List V} {H H2 : Heap} {x : C} {r : V} {e : Ex} {regs2 : List V} {ps2 : List Nat} {asg2 body2 : I} (hx : look E regs [] f = .c x) (hf : x.isFn = true) (hc : E.call x [.c (.yld H.length)] (H ++ [.loop true none regs ps asg body]) = some (r, H2)) (ho : H2[H.length]? = some (.loop false (some e) regs2 ps2 asg2 body2)) :
    exec E N false (.rf f ps asg body) ⟨regs, H⟩ = some (e, ⟨regs, H2.set H.length .dead⟩) := by
  simp only [exec, hx, hf, hc, ob_eq, ho, setOb_eq]
  simp
theorem slS_drop3 (q : List (List Nat)) (_h : 3 ≤ q.length) : ((q.map D.str).drop 3).take (q.length - 3) = (q.drop 3).map D.str := by
  rw [← List.map_drop, List.take_of_length_le (by simp)]
set_option maxHeartbeats 1000000 in
theorem f66 (hX : XOk m X) {N : Nat} {s : List Nat} (hN : s.length + 100 ≤ N) (hs : s.length < 800000) : vcallN X N 66 [strV s] = some (.tup [.agg (acC (readA s).1), bl (readA s).2]) := by
  obtain ⟨N, rfl⟩ : ∃ M, N = M + 1 := ⟨N - 1, by omega⟩
  have hF : fnsA 66 = some fn66'' := rfl
  obtain ⟨hl1, hl2⟩ := splitN_len 32 s
  have hpc : (zenv X N).prim 92 [.c (.d (.str s)), .c (.d (.str [32]))] = some (.c (.d (slS (splitN 32 s)))) := by
    rw [zenv_pr]
    refine hX.prim _ _ _ ?_
    have e : ∀ x : List Nat, prim0 92 [.c (.d (.str x)), .c (.d (.str [32]))] = if x.length < 4294967281 then some (.c (.d (.sl ((splitN 32 x).map .str) (splitN 32 x).length))) else none := fun _ => rfl
    rw [e, if_pos (by omega)]
    rfl
  unfold readA
  generalize hq : splitN 32 s = q at *
  have hlw := slS_len q
  have hza : acC a0 = zA := rfl
  by_cases c1 : q.length < 3
  · have c1' : (q.length : Int) < 3 := by omega
    rw [if_pos (.inl c1), hza]
    refine vcall_of (r := .tup [.agg zA, bl false]) (H := [.cells zA 0 false, .cells [.d (.bool false)] 0 false]) ?_ rfl
    rw [hX.fn hF]
    refine (rf_fin _ _ _ _ _ _ _ _ _ (by rfl)).trans ?_
    simp only [ob?, strV, hpc, hlw, c1', lay, splice, List.take, List.drop, List.map_cons, List.map_nil, List.set_cons_zero, List.set_cons_succ, freeze_nil, reachV, reachC, ite_self, List.flatMap_cons, List.flatMap_nil, ↓sp_len, evs, Nat.reduceAdd, Nat.reduceLeDiff, Nat.reduceSub]
  have c1' : ¬ (q.length : Int) < 3 := by omega
  have h0 := slS_at q (i := 0) (by omega)
  have h1 := slS_at q (i := 1) (by omega)
  have h2 := slS_at q (i := 2) (by omega)
  have hmem : ∀ j, j < q.length → (q.getD j []).length ≤ s.length := fun j hj => hl2 _ (by
    rw [List.getD_eq_getElem?_getD, List.getElem?_eq_getElem hj]
    exact List.getElem_mem _)
  have hm2 := hmem 2 (by omega)
  by_cases c2 : q.getD 0 [] = wAnc
  case neg =>
    rw [if_pos (.inr c2), hza]
    have g1 : (!(q.getD 0 [] == [97, 110, 99, 104, 111, 114])) = true := by rw [beqS]; simpa [wAnc] using c2
    refine vcall_of (r := .tup [.agg zA, bl false]) (H := [.cells zA 0 false, .cells [.d (.bool false)] 0 false]) ?_ rfl
    rw [hX.fn hF]
    refine (rf_fin _ _ _ _ _ _ _ _ _ (by rfl)).trans ?_
    simp only [ob?, strV, binStr, hpc, hlw, h0, c1', g1, lay, splice, List.take, List.drop, List.map_cons, List.map_nil, List.set_cons_zero, List.set_cons_succ, freeze_nil, reachV, reachC, ite_self, List.flatMap_cons, List.flatMap_nil, ↓sp_len, ↓sp_ixa, evs, Nat.reduceAdd, Nat.reduceLeDiff, Nat.reduceSub]
  have g1 : (!(q.getD 0 [] == [97, 110, 99, 104, 111, 114])) = false := by rw [beqS, c2]; rfl
  rw [if_neg (by rintro (h | h); exact c1 h; exact h c2)]
  have h93 := f93 hX (N := N) (by omega) (s := q.getD 2 []) (c := [44]) (H := [.cells zA 0 false, .cells [.d (.bool false)] 0 false, .cells (anK (q.getD 1 []) (.d .nils) false false false) 0 false])
  have hfr : exec (zenv X N) N false (.fresh 4 (some 1) 17) ⟨[strV s, .c (.ptr 0 0 0), .c (.ptr 1 0 0), .c (.d (slS q)), .c (.ptr 2 0 0), .any, .any, .any, .any, bl false, .c fnS, .any, .any], [.cells zA 0 false, .cells [.d (.bool false)] 0 false, .cells (anK (q.getD 1 []) (.d .nils) false false false) 0 false, .cells [.d (.str (q.getD 2 []))] 0 false, .cells [.d (.str [44])] 0 false, .cells [.d (.int .i64 0)] 0 false]⟩ = some (.nrm, ⟨regs66 s q, [.cells zA 0 false, .cells [.d (.bool false)] 0 false, .cells (anK (q.getD 1 []) (.os 6 0 0 0 17 none) false false false) 0 false, .cells [.d (.str (q.getD 2 []))] 0 false, .cells [.d (.str [44])] 0 false, .cells [.d (.int .i64 0)] 0 false, .cells [] 0 false]⟩) := rfl
  rcases c148 hX (N := N) (s := s) (t := q.getD 2 []) (q := q) (name := q.getD 1 []) (by omega) (by omega) with ⟨hok, u, hc⟩ | ⟨⟨j, hj, hbad⟩, r, k, u, hc⟩
  · have hio : itemsOk (splitN 44 (q.getD 2 [])) := hok
    rw [if_neg (by simpa using hio)]
    have hrf := ex_rf (E := zenv X N) (N := N) (f := .r 10) (ps := [11]) (asg := fn66A) (body := fn66B) (regs := regs66 s q) (H := [.cells zA 0 false, .cells [.d (.bool false)] 0 false, .cells (anK (q.getD 1 []) (.os 6 0 0 0 17 none) false false false) 0 false, .cells [.d (.str (q.getD 2 []))] 0 false, .cells [.d (.str [44])] 0 false, .cells [.d (.int .i64 0)] 0 false, .cells [] 0 false]) (x := fnS) rfl rfl hc rfl
    have hn := seqLen 44 (q.getD 2 [])
    have hwf := osP_wf (splitN 44 (q.getD 2 [])) (splitN 44 (q.getD 2 [])).length
    have hol := osP_len (splitN 44 (q.getD 2 [])) (Nat.le_refl _)
    have hfl := flC_len hwf
    rw [hol] at hfl
    unfold anR
    unfold hp66 at hrf
    generalize restN 44 (q.getD 2 []) ((splitN 44 (q.getD 2 [])).length - 1) = rr at *
    generalize hos : osP (splitN 44 (q.getD 2 [])) (splitN 44 (q.getD 2 [])).length = os at *
    generalize (splitN 44 (q.getD 2 [])).length = n at *
    generalize hname : q.getD 1 [] = name at *
    generalize htt : q.getD 2 [] = tt at *
    obtain ⟨y0, y1, y2, y3, rfl⟩ : ∃ y0 y1 y2 y3, q = y0 :: y1 :: y2 :: y3 := by
      match q, c1 with
      | y0 :: y1 :: y2 :: y3, _ => exact ⟨y0, y1, y2, y3, rfl⟩
      | [], h => exact absurd (by simp) h
      | [_], h => exact absurd (by simp) h
      | [_, _], h => exact absurd (by simp) h
    have hy0 : (y0 :: y1 :: y2 :: y3).getD 0 [] = y0 := rfl
    have hy1 : (y0 :: y1 :: y2 :: y3).getD 1 [] = y1 := rfl
    have hy2 : (y0 :: y1 :: y2 :: y3).getD 2 [] = y2 := rfl
    have hd3 : (y0 :: y1 :: y2 :: y3).drop 3 = y3 := rfl
    rw [hd3]
    rw [hy1] at hname
    rw [hy2] at htt
    subst hname
    subst htt
    rw [hy0] at g1
    have h95 := f95 hX (N := N) (by omega) (ps := y3) (ia := 2) (s := y1) (c := .os 6 n 0 n 17 none) (H := [.cells zA 0 false, .cells [.d (.bool false)] 0 false, .cells (anK y1 (.os 6 n 0 n 17 none) false false false) 0 false, .cells [.d (.str rr)] 0 false, .cells [.d (.str [44])] 0 false, .cells [.d (.int .i64 0)] 0 false, .cells (flC os) n false, .dead] ++ u) rfl
    have k3 : 3 ≤ y3.length + 1 + 1 + 1 := by omega
    have k0 : 0 < y3.length + 1 + 1 + 1 := by omega
    have k1 : 1 < y3.length + 1 + 1 + 1 := by omega
    have k2 : 2 < y3.length + 1 + 1 + 1 := by omega
    have k4 : y3.length + 1 + 1 + 1 - 3 = y3.length := by omega
    have an3 : asNat (.c (.d (.int .i64 3))) = some 3 := rfl
    have k6 : ¬ ((y3.length + 1 + 1 + 1 : Nat) : Int) < 3 := by omega
    have k5 : (y3.map D.str).take y3.length = y3.map D.str := List.take_of_length_le (by simp)
    have hsd : D.sl (y3.map D.str) y3.length = slS y3 := rfl
    have hsl : slS (y0 :: y1 :: y2 :: y3) = .sl (.str y0 :: .str y1 :: .str y2 :: y3.map D.str) (y3.length + 1 + 1 + 1) := rfl
    have hdp : ∀ x0 x1 x2 x3 x4 x5 : Ob, ∀ t, deepC (x0 :: x1 :: x2 :: x3 :: x4 :: x5 :: .cells (flC os) n false :: t) deepMax (.os 6 n 0 n 17 none) = some (slO os) := by
      intro x0 x1 x2 x3 x4 x5 t
      have p2 : ((flC os).drop 0).take (n * 17) = (os.flatMap oD).map .d := by
        rw [List.drop_zero, List.take_of_length_le (by omega)]; rfl
      have p1 : 0 + n * 17 ≤ (flC os).length := by omega
      simp only [deepMax, deepC, ob?, if_true, if_pos p1, p2, mapO_d, Option.map_some]
      rw [slO, hol]
    refine vcall_of (r := .tup [.agg (anK y1 (.os 6 n 0 n 17 none) (flgP (y3) 0) (flgP (y3) 1) (flgP (y3) 2)), bl (decide (restP (y3) 3 = []))]) (H := [.cells (anK y1 (.os 6 n 0 n 17 none) (flgP (y3) 0) (flgP (y3) 1) (flgP (y3) 2)) 0 false, .cells [.d (.bool (decide (restP (y3) 3 = [])))] 0 false, .cells (anK y1 (.os 6 n 0 n 17 none) (flgP (y3) 0) (flgP (y3) 1) (flgP (y3) 2)) 0 false, .cells [.d (.str rr)] 0 false, .cells [.d (.str [44])] 0 false, .cells [.d (.int .i64 0)] 0 false, .cells (flC os) n false, .dead] ++ u) ?_ ?_
    · rw [hX.fn hF]
      refine (rf_fin _ _ _ _ _ _ _ _ _ (by rfl)).trans ?_
      generalize decide (restP (y3) 3 = []) = rok at *
      generalize flgP (y3) 0 = fl0 at *
      generalize flgP (y3) 1 = fl1 at *
      generalize flgP (y3) 2 = fl2 at *
      simp only [strV, bl, fnS, regs66, anK, List.length_cons, List.length_nil, Nat.reduceAdd, List.cons_append, List.nil_append, List.set_cons_zero, List.set_cons_succ] at hrf hfr h93 h95
      simp only [hsl] at hpc hlw hfr hrf
      simp only [ob?, strV, binStr, anK, V.one, optNat, hpc, hlw, hsd, k0, k1, k2, k3, k4, k5, k6, an3, List.length_map, Nat.le_refl, g1, h93, hfr, hrf, h95, lay, splice, Option.map_none, Nat.mul_one, List.take, List.drop, List.map_cons, List.map_nil, List.set_cons_zero, List.set_cons_succ, freeze_nil, reachV, reachC, ite_self, List.flatMap_cons, List.flatMap_nil, ↓sp_len, ↓sp_ixa, evs, Nat.reduceAdd, Nat.reduceLeDiff, Nat.reduceSub]
    · simp only [anK, acC, deepV, mapO, deepV1, List.cons_append, List.nil_append, hdp, bl]
      rfl
  · have hio : ¬ itemsOk (splitN 44 (q.getD 2 [])) := fun h => hbad (h j hj)
    rw [if_pos (by simpa using hio), hza]
    have hrf := ex_rf_out (E := zenv X N) (N := N) (f := .r 10) (ps := [11]) (asg := fn66A) (body := fn66B) (regs := regs66 s q) (H := [.cells zA 0 false, .cells [.d (.bool false)] 0 false, .cells (anK (q.getD 1 []) (.os 6 0 0 0 17 none) false false false) 0 false, .cells [.d (.str (q.getD 2 []))] 0 false, .cells [.d (.str [44])] 0 false, .cells [.d (.int .i64 0)] 0 false, .cells [] 0 false]) (x := fnS) (e := .ret) rfl rfl hc rfl
    have h0z : (((hp66 s q (q.getD 1 []) (splitN 44 (q.getD 2 [])) r k true).set 7 (.loop false (some .ret) (regs66 s q) [11] fn66A fn66B) ++ u).set 7 .dead)[0]? = some (.cells zA 0 false) := rfl
    have h1z : (((hp66 s q (q.getD 1 []) (splitN 44 (q.getD 2 [])) r k true).set 7 (.loop false (some .ret) (regs66 s q) [11] fn66A fn66B) ++ u).set 7 .dead)[1]? = some (.cells [.d (.bool false)] 0 false) := rfl
    simp only [List.length_cons, List.length_nil, Nat.reduceAdd] at hrf
    generalize ((hp66 s q (q.getD 1 []) (splitN 44 (q.getD 2 [])) r k true).set 7 (.loop false (some .ret) (regs66 s q) [11] fn66A fn66B) ++ u).set 7 .dead = HH at *
    refine vcall_of (r := .tup [.agg zA, bl false]) (H := HH) ?_ rfl
    rw [hX.fn hF]
    refine (rf_fin _ _ _ _ _ _ _ _ _ (by rfl)).trans ?_
    simp only [strV, bl, fnS, regs66, anK, List.length_cons, List.length_nil, Nat.reduceAdd, List.cons_append, List.nil_append] at hrf hfr h93
    simp only [strV, binStr, hpc, hlw, h0, h1, h2, c1', g1, h93, hfr, hrf, h0z, h1z, lay, splice, List.take, List.drop, List.map_cons, List.map_nil, freeze_nil, reachV, reachC, ite_self, List.flatMap_cons, List.flatMap_nil, ↓sp_len, ↓sp_ixa, evs, Nat.reduceAdd, Nat.reduceLeDiff, Nat.reduceSub]
end Mini
end Go.Proofs.YtgjlofpfbhioaaaGreatDoor
namespace Go.Proofs.YtgjlofpfbhioaaaGreatDoor
namespace Mini
open Go
variable {m : Int} {X : Ctx}
theorem f33g (hX : XOk m X) {N : Nat} {s : List Nat} {w : D} {u : List Oid} {b1 b2 b3 : Bool} (hN : s.length + 400 ≤ N) (hs : s.length < 1000000) (hu : isSet w u) (hul : wfS u) (hlen : u.length < 1000000) : vcallN X N 33 [.agg (anC s w b1 b2 b3)] = some (i64 (chkA s u)) := by
  obtain ⟨N, rfl⟩ : ∃ M, N = M + 1 := ⟨N - 1, by omega⟩
  have h1 := hX.vc (k := 70) (F := fn70) rfl (f70 hX (N := N) (s := s) (by omega) (by omega))
  have h2 := hX.vc (k := 19) (F := fn19) rfl (f19 hX (N := N) (by omega) hu hul hlen)
  have h3 := hu.len
  simp only [i64, bl] at h1 h2
  refine vcall_of (r := i64 (chkA s u)) (H := [.cells (anC s w b1 b2 b3) 0 false]) ?_ rfl
  rw [hX.fn (F := fn33) rfl]
  refine (rf_fin _ _ _ _ _ _ _ _ _ (by rfl)).trans ?_
  unfold chkA
  cases hn : nameB s
  · rw [hn] at h1
    simp only [anC, ob?, h1, Bool.not_false, List.take, List.drop, Int.cast_ofNat_Int, evs, Nat.reduceSub]
  · rw [hn] at h1
    by_cases c1 : chkS u = 0
    · rw [c1] at h2 ⊢
      by_cases c2 : u.length = 0
      · simp only [anC, ob?, h1, h2, h3, c2, Bool.not_true, ne_eq, not_true_eq_false, List.take, List.drop, Int.cast_ofNat_Int, ↓sp_len, evs, Nat.reduceSub, reduceCtorEq]
      · have g2 : ((u.length : Int) == 0) = false := by rw [beq_eq_false_iff_ne]; omega
        simp only [anC, ob?, h1, h2, h3, g2, c2, Bool.not_true, ne_eq, not_true_eq_false, List.take, List.drop, Int.natCast_zero, ↓sp_len, evs, Nat.reduceSub, reduceCtorEq]
    · have g1 : ((chkS u : Int) != 0) = true := by rw [bne_iff_ne]; omega
      simp only [anC, ob?, h1, h2, g1, c1, Bool.not_true, ne_eq, not_false_eq_true, List.take, List.drop, evs, Nat.reduceSub, reduceCtorEq]
def aC (l : List An) : List C := (l.flatMap An.ds).map .d
theorem aC_len (l : List An) : (aC l).length = l.length * 5 := by rw [aC, List.length_map]; exact flD_len (fun _ _ => rfl)
theorem aC_snoc (l : List An) (a : An) : aC (l ++ [a]) = aC l ++ acC a := by simp [aC, An.ds, acC]
abbrev R28 (s : List Nat) (id j : Nat) : List V := [strV s, .c (.os id j 0 j 5 none), i64 (j : Int), .any, .any, .any, .any, .any, .any, .any, .any, .any, .any, .any, .any, .any]
theorem cut_len {c : Nat} : ∀ {s a b : List Nat}, cutN c s = some (a, b) → a.length + b.length + 1 = s.length
  | [], _, _, h => by cases h
  | x :: s, a, b, h => by
    unfold cutN at h
    split at h
    · cases h; simp
    · cases hc : cutN c s with
      | none => rw [hc] at h; cases h
      | some p =>
        obtain ⟨a', b'⟩ := p
        rw [hc] at h
        simp only [Option.some.injEq, Prod.mk.injEq] at h
        obtain ⟨rfl, rfl⟩ := h
        have := cut_len hc
        simp only [List.length_cons]
        omega
theorem p65 (hX : XOk m X) {N : Nat} {s : List Nat} (hs : s.length < 4294967281) : (zenv X N).prim 65 [.c (.d (.str s)), .c (.d (.str [10]))] = some (match cutN 10 s with
      | some (a, b) => .tup [Str a, Str b, Bl true]
      | none => .tup [Str s, Str [], Bl false]) := by
  rw [zenv_pr]
  refine hX.prim _ _ _ ?_
  have e : ∀ x : List Nat, prim0 65 [.c (.d (.str x)), .c (.d (.str [10]))] = if x.length < 4294967281 then some (match cutN 10 x with
      | some (a, b) => .tup [Str a, Str b, Bl true]
      | none => .tup [Str x, Str [], Bl false]) else none := fun _ => rfl
  rw [e, if_pos hs]
section
variable {N j : Nat} {s a b : List Nat} {H : Heap} {l : List An}
theorem r28_end (_hX : XOk m X) (id : Nat) : exec (zenv X N) N false fn28L0 ⟨R28 [] id j, H⟩ = some (.exit 0, ⟨[strV [], .c (.os id j 0 j 5 none), i64 (j : Int), .any, .any, .any, .any, .any, .any, .any, .any, bl false, .any, .any, .any, .any], H⟩) := by
  have h : ¬ ((0 : Nat) : Int) > 0 := by omega
  simp only [fn28L0, R28, strV, Int.natCast_zero, evs]
theorem r28_lim (_hX : XOk m X) (id : Nat) (hs : s ≠ []) (hj : 256 < j + 1) (hj2 : j < 1000000) : ∃ s', exec (zenv X N) N false fn28L0 ⟨R28 s id j, H⟩ = some (.ret, s') ∧ nth s'.regs 1 = .c (.d .nils) ∧ nth s'.regs 2 = i64 ((j + 1 : Nat) : Int) ∧ nth s'.regs 3 = i64 3 ∧ s'.heap = H := by
  have h1 : (s.length : Int) > 0 := by
    cases s with
    | nil => exact absurd rfl hs
    | cons _ _ => simp only [List.length_cons]; omega
  have h2 := wrap_succ (k := j) (by omega)
  have h3 : ((j + 1 : Nat) : Int) > 256 := by omega
  refine ⟨⟨[strV s, .c (.d .nils), i64 ((j + 1 : Nat) : Int), i64 3, .any, .any, .any, .any, .any, .any, .any, bl true, bl true, .any, .any, .any], H⟩, ?_, rfl, rfl, rfl, rfl⟩
  simp only [fn28L0, R28, strV, h1, h2, h3, evs]
theorem r28_cut (hX : XOk m X) (hs : s ≠ []) (hsl : s.length < 4294967281) (hj : j + 1 ≤ 256) (hc : cutN 10 s = none) (o : Ob) {an : An} {ok : Bool} (h66 : (zenv X N).vcall 66 [strV s] = some (.tup [.agg (acC an), bl ok])) : ∃ s', exec (zenv X N) N false fn28L0 ⟨R28 s H.length j, H ++ [o]⟩ = some (.ret, s') ∧ nth s'.regs 1 = .c (.d .nils) ∧ nth s'.regs 2 = i64 ((j + 1 : Nat) : Int) ∧ nth s'.regs 3 = i64 6 ∧ ∃ t, s'.heap = H ++ t := by
  have h1 : (s.length : Int) > 0 := by
    cases s with
    | nil => exact absurd rfl hs
    | cons _ _ => simp only [List.length_cons]; omega
  have h2 := wrap_succ (k := j) (by omega)
  have h3 : ¬ ((j + 1 : Nat) : Int) > 256 := by omega
  have hpc := p65 hX (N := N) hsl
  have e1 : ∀ o o2 : Ob, (H ++ o :: [o2])[H.length + 1]? = some o2 := fun o o2 => by rw [List.getElem?_append_right (by omega)]; simp
  have e0 : ∀ o o2 : Ob, (H ++ o :: [o2])[H.length]? = some o := fun o o2 => by simp
  rw [hc] at hpc
  refine ⟨⟨[strV s, .c (.d .nils), i64 ((j + 1 : Nat) : Int), i64 6, strV s, strV [], bl false, .c (.ptr (H.length + 1) 0 0), bl ok, .any, .any, bl true, bl false, bl true, .any, .any], H ++ [o, .cells (acC an) 0 false]⟩, ?_, rfl, rfl, rfl, _, rfl⟩
  simp only [strV, acC, bl] at h66
  have hlen : (H ++ [o]).length = H.length + 1 := by simp
  simp only [fn28L0, R28, acC, strV, h1, h2, h3, hpc, h66, hlen, Bool.not_false, List.append_assoc, freeze_nil, reachV, reachC, ite_self, List.flatMap_cons, List.flatMap_nil, evs, Nat.reduceAdd]
theorem r28_form (hX : XOk m X) (hs : s ≠ []) (hsl : s.length < 4294967281) (hj : j + 1 ≤ 256) (hc : cutN 10 s = some (a, b)) (o : Ob) {an : An} {ok : Bool} (h66 : (zenv X N).vcall 66 [strV a] = some (.tup [.agg (acC an), bl ok])) (hok : ok = false) : ∃ s', exec (zenv X N) N false fn28L0 ⟨R28 s H.length j, H ++ [o]⟩ = some (.ret, s') ∧ nth s'.regs 1 = .c (.d .nils) ∧ nth s'.regs 2 = i64 ((j + 1 : Nat) : Int) ∧ nth s'.regs 3 = i64 (6) ∧ ∃ t, s'.heap = H ++ t := by
  have h1 : (s.length : Int) > 0 := by
    cases s with
    | nil => exact absurd rfl hs
    | cons _ _ => simp only [List.length_cons]; omega
  have h2 := wrap_succ (k := j) (by omega)
  have h3 : ¬ ((j + 1 : Nat) : Int) > 256 := by omega
  have hpc := p65 hX (N := N) hsl
  have e1 : ∀ o o2 : Ob, (H ++ o :: [o2])[H.length + 1]? = some o2 := fun o o2 => by rw [List.getElem?_append_right (by omega)]; simp
  have e0 : ∀ o o2 : Ob, (H ++ o :: [o2])[H.length]? = some o := fun o o2 => by simp
  rw [hc] at hpc
  subst hok
  refine ⟨⟨[strV s, .c (.d .nils), i64 ((j + 1 : Nat) : Int), i64 6, strV a, strV b, bl true, .c (.ptr (H.length + 1) 0 0), bl false, .any, .any, bl true, bl false, bl true, .any, .any], H ++ [o, .cells (acC an) 0 false]⟩, ?_, rfl, rfl, rfl, _, rfl⟩
  simp only [strV, acC, bl] at h66
  have hlen : (H ++ [o]).length = H.length + 1 := by simp
  simp only [fn28L0, R28, acC, strV, h1, h2, h3, hpc, h66, hlen, Bool.not_true, Bool.not_false, List.append_assoc, freeze_nil, reachV, reachC, ite_self, List.flatMap_cons, List.flatMap_nil, evs, Nat.reduceAdd]
theorem r28_chk (hX : XOk m X) (hs : s ≠ []) (hsl : s.length < 4294967281) (hj : j + 1 ≤ 256) (hc : cutN 10 s = some (a, b)) (o : Ob) {an : An} {ok : Bool} (h66 : (zenv X N).vcall 66 [strV a] = some (.tup [.agg (acC an), bl ok])) (hok : ok = true) (h33 : (zenv X N).vcall 33 [.agg (acC an)] = some (i64 (chkA an.s an.l))) (hne : chkA an.s an.l ≠ 0) : ∃ s', exec (zenv X N) N false fn28L0 ⟨R28 s H.length j, H ++ [o]⟩ = some (.ret, s') ∧ nth s'.regs 1 = .c (.d .nils) ∧ nth s'.regs 2 = i64 ((j + 1 : Nat) : Int) ∧ nth s'.regs 3 = i64 (chkA an.s an.l) ∧ ∃ t, s'.heap = H ++ t := by
  have h1 : (s.length : Int) > 0 := by
    cases s with
    | nil => exact absurd rfl hs
    | cons _ _ => simp only [List.length_cons]; omega
  have h2 := wrap_succ (k := j) (by omega)
  have h3 : ¬ ((j + 1 : Nat) : Int) > 256 := by omega
  have hpc := p65 hX (N := N) hsl
  have e1 : ∀ o o2 : Ob, (H ++ o :: [o2])[H.length + 1]? = some o2 := fun o o2 => by rw [List.getElem?_append_right (by omega)]; simp
  have e0 : ∀ o o2 : Ob, (H ++ o :: [o2])[H.length]? = some o := fun o o2 => by simp
  rw [hc] at hpc
  subst hok
  have g1 : ((chkA an.s an.l : Int) != 0) = true := by rw [bne_iff_ne]; omega
  refine ⟨⟨[strV s, .c (.d .nils), i64 ((j + 1 : Nat) : Int), i64 (chkA an.s an.l), strV a, strV b, bl true, .c (.ptr (H.length + 1) 0 0), bl true, i64 (chkA an.s an.l), .any, bl true, bl false, bl false, bl true, .any], H ++ [o, .cells (acC an) 0 false]⟩, ?_, rfl, rfl, rfl, _, rfl⟩
  simp only [strV, acC, bl, i64] at h66 h33
  have hlen : (H ++ [o]).length = H.length + 1 := by simp
  simp only [fn28L0, R28, acC, strV, h1, h2, h3, hpc, h66, hlen, h33, g1, e1, Bool.not_true, List.append_assoc, List.take, List.drop, List.map_cons, List.map_nil, freeze_nil, reachV, reachC, ite_self, List.flatMap_cons, List.flatMap_nil, evs, Nat.reduceAdd]
theorem r28_ord (hX : XOk m X) (hs : s ≠ []) (hsl : s.length < 4294967281) (hj : j + 1 ≤ 256) (hc : cutN 10 s = some (a, b)) (_o : Ob) {an : An} {ok : Bool} (h66 : (zenv X N).vcall 66 [strV a] = some (.tup [.agg (acC an), bl ok])) (hok : ok = true) (h33 : (zenv X N).vcall 33 [.agg (acC an)] = some (i64 (chkA an.s an.l))) (hz : chkA an.s an.l = 0) (hl : l.length = j) (hj0 : 0 < j) (hlt : strLess (l.getD (l.length - 1) a0).s an.s = false) : ∃ s', exec (zenv X N) N false fn28L0 ⟨R28 s H.length j, H ++ [.cells (aC l) j false]⟩ = some (.ret, s') ∧ nth s'.regs 1 = .c (.d .nils) ∧ nth s'.regs 2 = i64 ((j + 1 : Nat) : Int) ∧ nth s'.regs 3 = i64 (13) ∧ ∃ t, s'.heap = H ++ t := by
  have h1 : (s.length : Int) > 0 := by
    cases s with
    | nil => exact absurd rfl hs
    | cons _ _ => simp only [List.length_cons]; omega
  have h2 := wrap_succ (k := j) (by omega)
  have h3 : ¬ ((j + 1 : Nat) : Int) > 256 := by omega
  have hpc := p65 hX (N := N) hsl
  have e1 : ∀ o o2 : Ob, (H ++ o :: [o2])[H.length + 1]? = some o2 := fun o o2 => by rw [List.getElem?_append_right (by omega)]; simp
  have e0 : ∀ o o2 : Ob, (H ++ o :: [o2])[H.length]? = some o := fun o o2 => by simp
  have hget : ∀ (g : Nat) (f : Bool) (o2 : Ob), (H ++ Ob.cells (aC l) g f :: [o2])[H.length]? = some (.cells (aC l) g f) := fun g f o2 => by simp
  have hlast : 0 < l.length → ((aC l).drop ((l.length - 1) * 5)).take 1 = [.d (.str (l.getD (l.length - 1) a0).s)] := fun hp => by
    have h5 := dropA (l := l) (i := l.length - 1) (by omega)
    rw [aC, ← List.map_drop, flD_drop (f := An.ds) (k := 5) (fun _ _ => rfl), h5, List.flatMap_cons]
    rfl
  rw [hc] at hpc
  subst hok
  rw [hz] at h33
  have hlast := hlast (by omega)
  have w2 : IntKind.i64.wrap (((j + 1 : Nat) : Int) - 2) = ((j - 1 : Nat) : Int) := by rw [← wrap_nat (k := j - 1) (by omega)]; congr 1; omega
  have g2 : ((j + 1 : Nat) : Int) > 1 := by omega
  have g3 : j - 1 < j := by omega
  rw [hl] at hlast hlt
  refine ⟨⟨[strV s, .c (.d .nils), i64 ((j + 1 : Nat) : Int), i64 13, strV a, strV b, bl true, .c (.ptr (H.length + 1) 0 0), bl true, i64 0, .any, bl true, bl false, bl false, bl false, bl true], H ++ [.cells (aC l) j false, .cells (acC an) 0 false]⟩, ?_, rfl, rfl, rfl, _, rfl⟩
  simp only [strV, acC, bl, i64, Int.natCast_zero] at h66 h33
  have hlen : (H ++ [Ob.cells (aC l) j false]).length = H.length + 1 := by simp
  simp only [fn28L0, R28, acC, strV, h1, h2, h3, hpc, h66, hlen, binStr, h33, e0, e1, w2, g2, g3, hlast, hlt, Bool.not_true, Bool.not_false, List.append_assoc, List.take, List.drop, List.map_cons, List.map_nil, freeze_nil, reachV, reachC, ite_self, List.flatMap_cons, List.flatMap_nil, ↓sp_ixa, evs, Nat.reduceAdd]
theorem r28_ok (hX : XOk m X) (hN : 10 ≤ N) (hs : s ≠ []) (hsl : s.length < 4294967281) (hj : j + 1 ≤ 256) (hc : cutN 10 s = some (a, b)) {an : An} {ok : Bool} (h66 : (zenv X N).vcall 66 [strV a] = some (.tup [.agg (acC an), bl ok])) (hok : ok = true) (h33 : (zenv X N).vcall 33 [.agg (acC an)] = some (i64 (chkA an.s an.l))) (hz : chkA an.s an.l = 0) (hl : l.length = j) (hlt : 0 < j → strLess (l.getD (l.length - 1) a0).s an.s = true) (hset : isSet an.w an.l) (hwf : wfS an.l) (hw : an.w = slO an.l) (hH : Hp H.length H) : ∃ s', exec (zenv X N) N false fn28L0 ⟨R28 s H.length j, H ++ [.cells (aC l) j false]⟩ = some (.nrm, s') ∧ tidy (H.length + 1) (some [0, 1, 2]) s' = ⟨R28 b H.length (j + 1), H ++ [.cells (aC (l ++ [an])) (j + 1) false]⟩ := by
  have h1 : (s.length : Int) > 0 := by
    cases s with
    | nil => exact absurd rfl hs
    | cons _ _ => simp only [List.length_cons]; omega
  have h2 := wrap_succ (k := j) (by omega)
  have h3 : ¬ ((j + 1 : Nat) : Int) > 256 := by omega
  have hpc := p65 hX (N := N) hsl
  have e1 : ∀ o o2 : Ob, (H ++ o :: [o2])[H.length + 1]? = some o2 := fun o o2 => by rw [List.getElem?_append_right (by omega)]; simp
  have e0 : ∀ o o2 : Ob, (H ++ o :: [o2])[H.length]? = some o := fun o o2 => by simp
  have hget : ∀ (g : Nat) (f : Bool) (o2 : Ob), (H ++ Ob.cells (aC l) g f :: [o2])[H.length]? = some (.cells (aC l) g f) := fun g f o2 => by simp
  have hlast : 0 < l.length → ((aC l).drop ((l.length - 1) * 5)).take 1 = [.d (.str (l.getD (l.length - 1) a0).s)] := fun hp => by
    have h5 := dropA (l := l) (i := l.length - 1) (by omega)
    rw [aC, ← List.map_drop, flD_drop (f := An.ds) (k := 5) (fun _ _ => rfl), h5, List.flatMap_cons]
    rfl
  rw [hc] at hpc
  subst hok
  rw [hz] at h33
  have hne := chkA_ne hz
  obtain ⟨w', h67, hw'⟩ := f67v hX (N := N) (by omega) hset hwf (by have := chkS_len (chkA_zero hz); omega)
  have hww : w' = an.w := by
    rw [hw]
    rcases hw' with ⟨_, h⟩ | h
    · exact absurd h hne
    · exact h
  rw [hww] at h67
  have k1 : j + 1 ≤ 1073741824 := by omega
  have k2 : j + 1 < genK := by show j + 1 < 1000000; omega
  have hal := aC_len l
  rw [hl] at hal
  have htk : (aC l).take (j * 5) = aC l := List.take_of_length_le (by omega)
  have hap := aC_snoc l an
  have q1 : ∀ o2 o3 : Ob, (H ++ [Ob.cells (aC l) j false, o2, o3])[H.length + 1]? = some o2 := fun o2 o3 => by rw [List.getElem?_append_right (by omega)]; simp
  have q0 : ∀ o2 o3 : Ob, (H ++ [Ob.cells (aC l) j false, o2, o3])[H.length]? = some (.cells (aC l) j false) := fun o2 o3 => by simp
  have q2 : ∀ o2 o3 : Ob, (H ++ [Ob.cells (aC l) j false, o2, o3])[H.length + 2]? = some o3 := fun o2 o3 => by rw [List.getElem?_append_right (by omega)]; simp
  have s1 : ∀ o2 x : Ob, (H ++ [Ob.cells (aC l) j false, o2]).set (H.length + 1) x = H ++ [Ob.cells (aC l) j false, x] := fun o2 x => by rw [List.set_append_right _ _ (by omega)]; simp
  have s0 : ∀ o2 o3 x : Ob, (H ++ [Ob.cells (aC l) j false, o2, o3]).set H.length x = H ++ [x, o2, o3] := fun o2 o3 x => by simp
  have hlen : (H ++ [Ob.cells (aC l) j false]).length = H.length + 1 := by simp
  have hlen2 : ∀ x : Ob, (H ++ [Ob.cells (aC l) j false, x]).length = H.length + 2 := fun x => by simp
  refine ⟨⟨[strV b, .c (.os H.length (j + 1) 0 (j + 1) 5 none), i64 ((j + 1 : Nat) : Int), .any, strV a, strV b, bl true, .c (.ptr (H.length + 1) 0 0), bl true, i64 0, .any, bl true, bl false, bl false, bl false, bl false], H ++ [.cells (aC l ++ acC an) (j + 1) false] ++ [.cells (acC an) 0 false, .cells (acC an) 0 false]⟩, ?_, ?_⟩
  · simp only [strV, acC, bl, i64, Int.natCast_zero] at h66 h33
    by_cases hj0 : 0 < j
    · have hlast := hlast (by omega)
      have hlt := hlt hj0
      have w2 : IntKind.i64.wrap (((j + 1 : Nat) : Int) - 2) = ((j - 1 : Nat) : Int) := by rw [← wrap_nat (k := j - 1) (by omega)]; congr 1; omega
      have g2 : ((j + 1 : Nat) : Int) > 1 := by omega
      have g3 : j - 1 < j := by omega
      rw [hl] at hlast hlt
      simp only [fn28L0, R28, acC, strV, binStr, elems, splice, lay, rep, h1, h2, h3, hpc, h66, h33, h67, hlen, hlen2, e0, e1, w2, g2, g3, hlast, hlt, q0, q2, s0, s1, k1, k2, htk, hal, Nat.one_ne_zero, Nat.le_refl, Bool.not_true, List.append_assoc, List.take, List.drop, List.map_cons, List.map_nil, freeze_nil, reachV, reachC, ite_self, List.flatMap_cons, List.flatMap_nil, ↓sp_ixa, evs, Nat.reduceAdd, Nat.reduceLeDiff]
    · have g2 : ¬ ((j + 1 : Nat) : Int) > 1 := by omega
      simp only [fn28L0, R28, acC, strV, elems, splice, lay, rep, h1, h2, h3, hpc, h66, h33, h67, hlen, hlen2, e1, g2, q0, q2, s0, s1, k1, k2, htk, hal, Nat.one_ne_zero, Nat.le_refl, Bool.not_true, List.append_assoc, List.take, List.drop, List.map_cons, List.map_nil, freeze_nil, reachV, reachC, ite_self, List.flatMap_cons, List.flatMap_nil, evs, Nat.reduceAdd, Nat.reduceLeDiff]
  · rw [hap]
    refine tidy_back (by simp) rfl ?_ ?_
    · simp [V.under, C.under, strV, i64]
    · refine Hp.app (hH.mono (by simp)) (Hp.cons ?_ Hp.nil)
      simp only [uO, List.all_append, Bool.and_eq_true]
      refine ⟨?_, rfl⟩
      rw [List.all_eq_true]
      intro c hc
      obtain ⟨d, _, rfl⟩ := List.mem_map.1 hc
      rfl
end
end Mini
end Go.Proofs.YtgjlofpfbhioaaaGreatDoor
namespace Go.Proofs.YtgjlofpfbhioaaaGreatDoor
namespace Mini
open Go
variable {m : Int} {X : Ctx}
/-- The list of a text, the line, the error. -/
def parseN : Nat → List An → List Nat → List An × Nat × Nat
  | 0, l, _ => (l, 0, 0)
  | f + 1, l, s =>
    if s = [] then (l, 0, 0)
    else if 256 < l.length + 1 then ([], l.length + 1, 3)
    else match cutN 10 s with
      | none => ([], l.length + 1, 6)
      | some (a, b) =>
        if (readA a).2 = false then ([], l.length + 1, 6)
        else if chkA (readA a).1.s (readA a).1.l ≠ 0 then ([], l.length + 1, chkA (readA a).1.s (readA a).1.l)
        else if 0 < l.length ∧ strLess (l.getD (l.length - 1) a0).s (readA a).1.s = false then ([], l.length + 1, 13)
        else parseN f (l ++ [(readA a).1]) b
theorem getD_len (q : List (List Nat)) (b j : Nat) (h : ∀ x ∈ q, x.length ≤ b) : (q.getD j []).length ≤ b := by
  rw [List.getD_eq_getElem?_getD]
  cases hx : q[j]? with
  | none => simp
  | some x => exact h x (List.mem_of_getElem? hx)
theorem readA_wf (s : List Nat) : isSet (readA s).1.w (readA s).1.l ∧ wfS (readA s).1.l ∧ (readA s).1.s.length ≤ s.length ∧ (readA s).1.l.length ≤ s.length + 1 ∧ ((readA s).2 = true → (readA s).1.w = slO (readA s).1.l) := by
  have h0 : isSet a0.w a0.l ∧ wfS a0.l ∧ a0.s.length ≤ s.length ∧ a0.l.length ≤ s.length + 1 ∧ (false = true → a0.w = slO a0.l) := ⟨.inl ⟨rfl, rfl⟩, (fun _ h => by cases h), Nat.zero_le _, Nat.zero_le _, fun h => by cases h⟩
  obtain ⟨h1, h2⟩ := splitN_len 32 s
  obtain ⟨h3, _⟩ := splitN_len 44 ((splitN 32 s).getD 2 [])
  have h4 := getD_len _ _ 2 h2
  have h5 := getD_len _ _ 1 h2
  unfold readA
  split
  · exact h0
  split
  · exact h0
  · refine ⟨.inr rfl, osP_wf _ _, h5, ?_, fun _ => rfl⟩
    simp only [anR]
    rw [osP_len _ (Nat.le_refl _)]
    omega
abbrev E28 (id n : Nat) : List V := [strV [], .c (.os id n 0 n 5 none), i64 (n : Int), .any, .any, .any, .any, .any, .any, .any, .any, bl false, .any, .any, .any, .any]
theorem it28 (hX : XOk m X) {N : Nat} {H : Heap} (hH : Hp H.length H) : ∀ (f fuel : Nat) (l : List An) (s : List Nat), s.length < f → f ≤ fuel → s.length + 600 ≤ N → s.length < 800000 → l.length ≤ 256 →
    ∃ e s', iter (some [0, 1, 2]) (H.length + 1) (exec (zenv X N) N false fn28L0) fuel ⟨R28 s H.length l.length, H ++ [.cells (aC l) l.length false]⟩ = some (e, s') ∧
      (if (parseN f l s).2.2 = 0 then e = .exit 0 ∧ (parseN f l s).2.1 = 0 ∧ s' = ⟨E28 H.length (parseN f l s).1.length, H ++ [.cells (aC (parseN f l s).1) (parseN f l s).1.length false]⟩
       else e = .ret ∧ nth s'.regs 1 = .c (.d .nils) ∧ nth s'.regs 2 = i64 ((parseN f l s).2.1 : Nat) ∧ nth s'.regs 3 = i64 ((parseN f l s).2.2 : Nat) ∧ ∃ t, s'.heap = H ++ t) := by
  intro f
  induction f with
  | zero => intro fuel l s h; exact absurd h (Nat.not_lt_zero _)
  | succ f ih =>
    intro fuel l s hf hfu hN hs hl
    obtain ⟨fuel, rfl⟩ : ∃ k, fuel = k + 1 := ⟨fuel - 1, by omega⟩
    unfold parseN
    have out : ∀ {e : Ex} {s' : St} {st : St}, exec (zenv X N) N false fn28L0 st = some (e, s') → e ≠ .nrm → iter (some [0, 1, 2]) (H.length + 1) (exec (zenv X N) N false fn28L0) (fuel + 1) st = some (e, s') := by
      intro e s' st h he
      simp only [iter, h]
      cases e with
      | nrm => exact absurd rfl he
      | _ => rfl
    by_cases hs0 : s = []
    · subst hs0
      rw [if_pos rfl]
      exact ⟨_, _, out (r28_end hX H.length) (by simp), by rw [if_pos rfl]; exact ⟨rfl, rfl, rfl⟩⟩
    rw [if_neg hs0]
    by_cases h256 : 256 < l.length + 1
    · rw [if_pos h256]
      obtain ⟨s', h1, h2, h3, h4, h5⟩ := r28_lim hX (N := N) (H := H ++ [.cells (aC l) l.length false]) H.length hs0 h256 (by omega)
      exact ⟨_, _, out h1 (by simp), by rw [if_neg (by simp)]; exact ⟨rfl, h2, h3, h4, _, h5⟩⟩
    rw [if_neg h256]
    cases hc : cutN 10 s with
    | none =>
      have h66 := hX.vc (k := 66) (F := fn66) rfl (f66 hX (N := N) (s := s) (by omega) (by omega))
      obtain ⟨s', h1, h2, h3, h4, t, h5⟩ := r28_cut hX (N := N) (H := H) (j := l.length) hs0 (by omega) (by omega) hc (.cells (aC l) l.length false) h66
      exact ⟨_, _, out h1 (by simp), by simp only; rw [if_neg (by simp)]; exact ⟨trivial, h2, h3, h4, t, h5⟩⟩
    | some p =>
      obtain ⟨a, b⟩ := p
      simp only
      have hcl := cut_len hc
      have h66 := hX.vc (k := 66) (F := fn66) rfl (f66 hX (N := N) (s := a) (by omega) (by omega))
      obtain ⟨w1, w2, w3, w4, w5⟩ := readA_wf a
      have h33 : (zenv X N).vcall 33 [.agg (acC (readA a).1)] = some (i64 (chkA (readA a).1.s (readA a).1.l)) := hX.vc (k := 33) (F := fn33) rfl (f33g hX (by omega) (by omega) w1 w2 (by omega))
      cases hok : (readA a).2 with
      | false =>
        rw [if_pos rfl]
        rw [hok] at h66
        obtain ⟨s', h1, h2, h3, h4, t, h5⟩ := r28_form hX (N := N) (H := H) (j := l.length) hs0 (by omega) (by omega) hc (.cells (aC l) l.length false) h66 rfl
        exact ⟨_, _, out h1 (by simp), by rw [if_neg (by simp)]; exact ⟨rfl, h2, h3, h4, t, h5⟩⟩
      | true =>
        rw [if_neg (by simp)]
        rw [hok] at h66
        by_cases hz : chkA (readA a).1.s (readA a).1.l = 0
        case neg =>
          rw [if_pos hz]
          obtain ⟨s', h1, h2, h3, h4, t, h5⟩ := r28_chk hX (N := N) (H := H) (j := l.length) hs0 (by omega) (by omega) hc (.cells (aC l) l.length false) h66 rfl h33 hz
          exact ⟨_, _, out h1 (by simp), by rw [if_neg hz]; exact ⟨rfl, h2, h3, h4, t, h5⟩⟩
        rw [if_neg (by rw [hz]; simp)]
        by_cases ho : 0 < l.length ∧ strLess (l.getD (l.length - 1) a0).s (readA a).1.s = false
        · rw [if_pos ho]
          obtain ⟨s', h1, h2, h3, h4, t, h5⟩ := r28_ord hX (N := N) (H := H) (j := l.length) (l := l) hs0 (by omega) (by omega) hc (.cells (aC l) l.length false) h66 rfl h33 hz rfl ho.1 ho.2
          exact ⟨_, _, out h1 (by simp), by rw [if_neg (by simp)]; exact ⟨rfl, h2, h3, h4, t, h5⟩⟩
        · rw [if_neg ho]
          obtain ⟨s', h1, h2⟩ := r28_ok hX (N := N) (H := H) (j := l.length) (l := l) (by omega) hs0 (by omega) (by omega) hc h66 rfl h33 hz rfl (fun hp => by
            cases hq : strLess (l.getD (l.length - 1) a0).s (readA a).1.s
            · exact absurd ⟨hp, hq⟩ ho
            · rfl) w1 w2 (w5 hok) hH
          have hlen : (l ++ [(readA a).1]).length = l.length + 1 := by simp
          have := ih fuel (l ++ [(readA a).1]) b (by omega) (by omega) (by omega) (by omega) (by omega)
          rw [hlen] at this
          obtain ⟨e, s2, h3, h4⟩ := this
          refine ⟨e, s2, ?_, h4⟩
          rw [iter_step h1, h2]
          exact h3
theorem f28 (hX : XOk m X) {N : Nat} {s : List Nat} {H : Heap} (hN : s.length + 700 ≤ N) (hs : s.length < 800000) (hH : Hp H.length H) : ∃ r t, callN X N (.d (.fn 28 [] [])) [strV s] H = some (.tup [r, i64 ((parseN (s.length + 1) [] s).2.1 : Nat), i64 ((parseN (s.length + 1) [] s).2.2 : Nat)], H ++ t) ∧
      (if (parseN (s.length + 1) [] s).2.2 = 0 then (parseN (s.length + 1) [] s).2.1 = 0 ∧ r = .c (.os H.length (parseN (s.length + 1) [] s).1.length 0 (parseN (s.length + 1) [] s).1.length 5 (some (parseN (s.length + 1) [] s).1.length)) ∧ t = [.cells (aC (parseN (s.length + 1) [] s).1) (parseN (s.length + 1) [] s).1.length false] else r = .c (.d .nils)) := by
  obtain ⟨N, rfl⟩ : ∃ M, N = M + 1 := ⟨N - 1, by omega⟩
  have hF : fnsA 28 = some fn28' := rfl
  obtain ⟨e, s', hit, hres⟩ := it28 hX (N := N) hH (s.length + 1) N [] s (by omega) (by omega) (by omega) hs (by simp)
  have hc : ¬ (s.length : Int) > 1048576 := by omega
  have ha0 : aC [] = [] := rfl
  have hlen1 : ∀ o : Ob, (H ++ [o]).length = H.length + 1 := fun o => by simp
  rw [hX.fn hF]
  generalize parseN (s.length + 1) [] s = P at *
  simp only [R28, strV, i64, ha0, List.length_nil, Int.natCast_zero] at hit
  by_cases hz : P.2.2 = 0
  · rw [if_pos hz] at hres
    simp only [if_pos hz]
    obtain ⟨rfl, hline, rfl⟩ := hres
    obtain ⟨N, rfl⟩ : ∃ M, N = M + 1 := ⟨N - 1, by omega⟩
    have h68 : callN X (N + 1) (.d (.fn 68 [] [])) [.c (.os H.length P.1.length 0 P.1.length 5 none)] (H ++ [.cells (aC P.1) P.1.length false]) = some (.c (.os H.length P.1.length 0 P.1.length 5 (some P.1.length)), H ++ [.cells (aC P.1) P.1.length false]) := by
      rw [hX.fn (F := fn68) rfl]
      refine (rf_fin _ _ _ _ _ _ _ _ _ (by rfl)).trans ?_
      simp only [optNat, Option.map_none, Option.getD_none, Nat.zero_le, Nat.le_refl, Nat.sub_zero, ↓sp_len, evs, Nat.reduceMul, Nat.reduceSub]
    refine ⟨_, _, (rf_fin _ _ _ _ _ _ _ _ _ (by rfl)).trans ?_, hline, rfl, rfl⟩
    rw [hline, hz]
    simp only [E28, strV, i64, bl] at hit
    simp only [strV, hc, ex_fresh, frn_nil, hlen1, hit, h68, Int.natCast_zero, List.map_cons, List.map_nil, evs, Nat.reduceAdd, Nat.reduceBEq, Nat.reduceSub]
  · rw [if_neg hz] at hres
    simp only [if_neg hz]
    obtain ⟨rfl, h1, h2, h3, t, h4⟩ := hres
    obtain ⟨r, HH⟩ := s'
    simp only at h1 h2 h3 h4
    subst h4
    refine ⟨_, t, (rf_fin _ _ _ _ _ _ _ _ _ (by rfl)).trans ?_, rfl⟩
    simp only [i64] at h2 h3
    simp only [strV, hc, ex_fresh, frn_nil, hlen1, hit, h1, h2, h3, evs, Nat.reduceAdd, Nat.reduceBEq, Nat.reduceSub]
end Mini
end Go.Proofs.YtgjlofpfbhioaaaGreatDoor
namespace Go.Proofs.YtgjlofpfbhioaaaGreatDoor
namespace Mini
open Go
/-! ### Numbers in decimal -/
theorem isDig_of {n : Nat} (h : n < 10) : isDig (48 + n) = true := by
  simp only [isDig, Bool.and_eq_true, Nat.ble_eq]; omega
theorem decF_dig : ∀ f n, ∀ b ∈ decF f n, isDig b = true
  | 0, n, b, h => by
    simp only [decF, List.mem_singleton] at h
    subst h; exact isDig_of (by omega)
  | f + 1, n, b, h => by
    unfold decF at h
    split at h
    · rename_i hn
      rw [List.mem_singleton] at h
      subst h; exact isDig_of hn
    · rw [List.mem_append, List.mem_singleton] at h
      rcases h with h | h
      · exact decF_dig f _ b h
      · subst h; exact isDig_of (by omega)
theorem numN_decF : ∀ f n, n < 10 ^ (f + 1) → numN 0 (decF f n) = n
  | 0, n, h => by
    have : n < 10 := by simpa using h
    simp only [decF, numN, List.foldl_cons, List.foldl_nil]
    omega
  | f + 1, n, h => by
    unfold decF
    split
    · rename_i hn
      simp only [numN, List.foldl_cons, List.foldl_nil]
      omega
    · rw [numN_snoc, numN_decF f (n / 10) (by rw [Nat.pow_succ] at h; omega)]
      omega
theorem decF_head : ∀ f n, 0 < n → n < 10 ^ (f + 1) → (decF f n).getD 0 0 ≠ 48
  | 0, n, h0, h => by
    have : n < 10 := by simpa using h
    simp only [decF, List.getD_cons_zero]
    omega
  | f + 1, n, h0, h => by
    unfold decF
    split
    · simp only [List.getD_cons_zero]; omega
    · have ih := decF_head f (n / 10) (by omega) (by rw [Nat.pow_succ] at h; omega)
      have hne := (decF_len f (n / 10)).2
      cases hd : decF f (n / 10) with
      | nil => rw [hd] at hne; exact absurd hne (by simp)
      | cons x t =>
        rw [hd] at ih
        simpa using ih
theorem decN_num {n : Nat} (h : n < 4294967296) : numN 0 (decN n) = n := numN_decF 20 n (Nat.lt_of_lt_of_le h (by decide))
theorem decN_dec {n : Nat} (h : n < 4294967296) : decB (decN n) = true := by
  have hd : (decN n).all isDig = true := List.all_eq_true.2 (decF_dig 20 n)
  rcases Nat.eq_zero_or_pos n with rfl | hp
  · decide
  · have h1 := decF_head 20 n hp (Nat.lt_of_lt_of_le h (by decide))
    have h2 : decN n ≠ [] := fun he => by
      have := (decF_len 20 n).2
      change 0 < (decN n).length at this
      rw [he] at this; exact absurd this (by simp)
    unfold decB
    rw [decide_eq_true h2, decide_eq_true (show (decN n).getD 0 0 ≠ 48 from h1), hd]
    simp
/-! ### Words between a byte -/
theorem splitN_word {c : Nat} : ∀ {x : List Nat}, c ∉ x → splitN c x = [x]
  | [], _ => rfl
  | y :: x, h => by
    rw [List.mem_cons, not_or] at h
    rw [splitN, if_neg (fun he => h.1 he.symm), splitN_word h.2]
theorem splitN_cons {c : Nat} (rest : List Nat) : ∀ {x : List Nat}, c ∉ x → splitN c (x ++ c :: rest) = x :: splitN c rest
  | [], _ => by rw [List.nil_append, splitN, if_pos rfl]
  | y :: x, h => by
    rw [List.mem_cons, not_or] at h
    rw [List.cons_append, splitN, if_neg (fun he => h.1 he.symm), splitN_cons rest h.2]
theorem splitN_join {c : Nat} : ∀ {l : List (List Nat)}, l ≠ [] → (∀ x ∈ l, c ∉ x) → splitN c (joinN [c] l) = l
  | [], h, _ => absurd rfl h
  | [x], _, h => by rw [joinN]; exact splitN_word (h x (by simp))
  | x :: y :: l, _, h => by
    rw [joinN, List.append_assoc, List.singleton_append, splitN_cons _ (h x (by simp)), splitN_join (by simp) (fun z hz => h z (List.mem_cons_of_mem _ hz))]
theorem cutN_word {c : Nat} (rest : List Nat) : ∀ {x : List Nat}, c ∉ x → cutN c (x ++ c :: rest) = some (x, rest)
  | [], _ => by rw [List.nil_append, cutN, if_pos rfl]
  | y :: x, h => by
    rw [List.mem_cons, not_or] at h
    rw [List.cons_append, cutN, if_neg (fun he => h.1 he.symm), cutN_word rest h.2]
/-! ### OIDs -/
theorem textO_char (o : Oid) : ∀ c ∈ textO o, isDig c = true ∨ c = 46 := fun c hc => by
  rcases joinN_mem [46] hc with h | ⟨x, h1, h2⟩
  · rw [List.mem_singleton] at h; exact .inr h
  · obtain ⟨n, _, rfl⟩ := List.mem_map.1 h1
    exact .inl (decF_dig 20 n c h2)
theorem isDig_rng {c : Nat} (h : isDig c = true) : 48 ≤ c ∧ c ≤ 57 := by
  simpa [isDig, Nat.ble_eq] using h
theorem arrP_eq (ps : List (List Nat)) : ∀ j, j ≤ 16 → j ≤ ps.length → arrP ps j = (ps.take j).map valP ++ List.replicate (16 - j) 0
  | 0, _, _ => by simp [arrP]
  | j + 1, h1, h2 => by
    have ih := arrP_eq ps j (by omega) (by omega)
    have hx : ps[j]? = some (ps.getD j []) := by rw [List.getD_eq_getElem?_getD, List.getElem?_eq_getElem (by omega)]; rfl
    have hl : ((ps.take j).map valP).length = j := by simp; omega
    rw [arrP, if_pos (by omega), ih, List.take_add_one, hx, Option.toList_some, List.map_append, List.set_append_right _ _ (by omega), hl, Nat.sub_self, show 16 - j = (16 - (j + 1)) + 1 by omega, List.replicate_succ, List.set_cons_zero]
    simp
theorem largeP_no (ps : List (List Nat)) (h : ∀ x ∈ ps, numN 0 x ≤ 4294967295) : ∀ j, largeP ps j = false
  | 0 => rfl
  | j + 1 => by
    rw [largeP, largeP_no ps h j, Bool.false_or, decide_eq_false_iff_not]
    rw [List.getD_eq_getElem?_getD]
    cases hx : ps[j]? with
    | none => simp [numN]
    | some x =>
      have := h x (List.mem_of_getElem? hx)
      simp only [Option.getD_some]
      omega
theorem chkO_tail {o : Oid} (h : chkO o = 0) : (o.2.drop o.1).all (· == 0) = true := by
  unfold chkO at h
  split at h
  · cases h
  split at h
  · cases h
  split at h
  · assumption
  · cases h
theorem parse_text {o : Oid} (hw : wfO o) (hc : chkO o = 0) : parseO (textO o) = (o, 0) := by
  have hn := chkO_n hc
  have hal := arcsO_len hw
  rw [Nat.min_eq_left hn.2] at hal
  have hlt : ∀ x ∈ arcsO o, x < 4294967296 := fun x hx => hw.2.2 x (List.mem_of_mem_take hx)
  have hsp : splitN 46 (textO o) = (arcsO o).map decN := by
    refine splitN_join (fun he => ?_) (fun x hx => ?_)
    · have := congrArg List.length he
      rw [List.length_map, hal] at this
      simp only [List.length_nil] at this
      omega
    · obtain ⟨n, _, rfl⟩ := List.mem_map.1 hx
      intro h
      have := isDig_rng (decF_dig 20 n 46 h)
      omega
  have hpl : ((arcsO o).map decN).length = o.1 := by rw [List.length_map, hal]
  have h1 : ((arcsO o).map decN).all decB = true := List.all_eq_true.2 fun x hx => by
    obtain ⟨n, hn, rfl⟩ := List.mem_map.1 hx
    exact decN_dec (hlt n hn)
  have h2 : ∀ x ∈ (arcsO o).map decN, numN 0 x ≤ 4294967295 := fun x hx => by
    obtain ⟨n, hn, rfl⟩ := List.mem_map.1 hx
    rw [decN_num (hlt n hn)]
    have := hlt n hn
    omega
  have h3 : arrP ((arcsO o).map decN) o.1 = o.2 := by
    rw [arrP_eq _ _ hn.2 (by omega), List.take_of_length_le (by omega), List.map_map]
    have e1 : (arcsO o).map (valP ∘ decN) = arcsO o := by
      conv => rhs; rw [← List.map_id (arcsO o)]
      refine List.map_congr_left fun x hx => ?_
      simp only [Function.comp, valP, decN_num (hlt x hx), id]
      have := hlt x hx
      rw [if_pos (by omega)]
    have e2 : List.replicate (16 - o.1) 0 = o.2.drop o.1 := by
      have ht := chkO_tail hc
      rw [List.all_eq_true] at ht
      symm
      rw [List.eq_replicate_iff]
      refine ⟨by rw [List.length_drop, hw.2.1], fun x hx => by simpa using ht x hx⟩
    rw [e1, e2, arcsO, List.take_append_drop]
  unfold parseO
  rw [hsp, hpl, h3, if_neg (by rw [h1]; simp), if_neg (by omega), if_neg (by rw [largeP_no _ h2]; simp), if_neg (by rw [hc]; simp)]
/-! ### Lines -/
def fwA (a : An) : List (List Nat) := (if a.e then [wExp] else []) ++ (if a.nm then [wMap] else []) ++ (if a.na then [wAny] else [])
def lineA (a : An) : List Nat := joinN [32] ([wAnc, a.s, setT a.l] ++ fwA a)
theorem textA_line (a : An) : textA a = lineA a ++ [10] := by
  unfold textA lineA fwA fl0 fl1 fl2
  cases a.e <;> cases a.nm <;> cases a.na <;> simp [joinN, ancT, wAnc]
def nrm (a : An) : An := { a with w := slO a.l }
theorem okB_rng {c : Nat} (h : okB c = true) : 45 ≤ c := by
  simp only [okB, letB, digB, Bool.or_eq_true, Bool.and_eq_true, decide_eq_true_eq] at h
  omega
theorem setT_char (l : List Oid) : ∀ c ∈ setT l, 44 ≤ c := fun c hc => by
  rcases joinN_mem [44] hc with h | ⟨x, h1, h2⟩
  · rw [List.mem_singleton] at h; omega
  · obtain ⟨o, _, rfl⟩ := List.mem_map.1 h1
    rcases textO_char o c h2 with h | h
    · have := isDig_rng h; omega
    · omega
theorem fwA_rest (a : An) : restP (fwA a) 3 = [] ∧ flgP (fwA a) 0 = a.e ∧ flgP (fwA a) 1 = a.nm ∧ flgP (fwA a) 2 = a.na := by
  unfold fwA
  cases a.e <;> cases a.nm <;> cases a.na <;> decide
theorem fwA_char (a : An) : ∀ x ∈ fwA a, ∀ c ∈ x, 44 ≤ c := by
  have h1 : ∀ c ∈ wExp, 44 ≤ c := by decide
  have h2 : ∀ c ∈ wMap, 44 ≤ c := by decide
  have h3 : ∀ c ∈ wAny, 44 ≤ c := by decide
  intro x hx
  simp only [fwA, List.mem_append] at hx
  rcases hx with (h | h) | h <;> split at h <;> simp at h <;> subst h <;> assumption
theorem words_char {a : An} (hc : chkA a.s a.l = 0) : ∀ x ∈ [wAnc, a.s, setT a.l] ++ fwA a, ∀ c ∈ x, 44 ≤ c := by
  have h1 := nameB_ok (chkA_name hc)
  have h2 : ∀ c ∈ wAnc, 44 ≤ c := by decide
  intro x hx
  simp only [List.mem_append, List.mem_cons, List.not_mem_nil, or_false] at hx
  rcases hx with (rfl | rfl | rfl) | h
  · exact h2
  · exact fun c hc => by have := okB_rng (h1.2.2 c hc); omega
  · exact setT_char _
  · exact fwA_char a x h
theorem split_line {a : An} (hc : chkA a.s a.l = 0) : splitN 32 (lineA a) = [wAnc, a.s, setT a.l] ++ fwA a := by
  refine splitN_join (by simp) (fun x hx h => ?_)
  have := words_char hc x hx 32 h
  omega
theorem split_set {l : List Oid} (h : l ≠ []) : splitN 44 (setT l) = l.map textO := by
  refine splitN_join (by simpa using h) (fun x hx => ?_)
  obtain ⟨o, _, rfl⟩ := List.mem_map.1 hx
  intro h
  rcases textO_char o 44 h with h | h
  · have := isDig_rng h; omega
  · omega
theorem read_line {a : An} (hw : wfS a.l) (hc : chkA a.s a.l = 0) : readA (lineA a) = (nrm a, true) := by
  have hs := split_line hc
  have hne := chkA_ne hc
  have hck := chkS_ok (chkA_zero hc)
  have hp : ∀ j, j < (a.l.map textO).length → parseO ((a.l.map textO).getD j []) = (a.l.getD j o0, 0) := fun j hj => by
    rw [List.length_map] at hj
    have hm := getD_mem hj
    rw [List.getD_eq_getElem?_getD, List.getElem?_map, List.getElem?_eq_getElem hj]
    simp only [Option.map_some, Option.getD_some]
    have : a.l.getD j o0 = a.l[j] := by rw [List.getD_eq_getElem?_getD, List.getElem?_eq_getElem hj]; rfl
    rw [this] at hm ⊢
    exact parse_text (hw _ hm) (hck _ hm)
  have h0 : ([wAnc, a.s, setT a.l] ++ fwA a).getD 0 [] = wAnc := rfl
  have h1 : ([wAnc, a.s, setT a.l] ++ fwA a).getD 1 [] = a.s := rfl
  have h2 : ([wAnc, a.s, setT a.l] ++ fwA a).getD 2 [] = setT a.l := rfl
  have h3 : ([wAnc, a.s, setT a.l] ++ fwA a).drop 3 = fwA a := rfl
  have hok : itemsOk (a.l.map textO) := fun j hj => by rw [hp j hj]
  have hos : osP (a.l.map textO) (a.l.map textO).length = a.l := by
    unfold osP
    rw [List.take_length, List.map_map]
    conv => rhs; rw [← List.map_id a.l]
    refine List.map_congr_left fun o ho => ?_
    simp only [Function.comp, parse_text (hw o ho) (hck o ho), id]
  obtain ⟨r1, r2, r3, r4⟩ := fwA_rest a
  unfold readA
  rw [hs, h2, split_set hne, h0]
  rw [if_neg (fun h => h.elim (fun h => by simp only [List.length_append, List.length_cons, List.length_nil] at h; omega) (fun h => h rfl)), if_neg (by simpa using hok)]
  unfold anR
  rw [h1, h2, h3, split_set hne, hos, r1, r2, r3, r4]
  rfl
theorem cut_line {a : An} (hc : chkA a.s a.l = 0) (rest : List Nat) : cutN 10 (textA a ++ rest) = some (lineA a, rest) := by
  rw [textA_line, List.append_assoc, List.singleton_append]
  refine cutN_word rest (fun h => ?_)
  rcases joinN_mem [32] h with h | ⟨x, h1, h2⟩
  · rw [List.mem_singleton] at h; omega
  · have := words_char hc x h1 10 h2
    omega
/-- Names ascend. -/
def Asc (l : List An) : Prop := ∀ i, 0 < i → i < l.length → strLess (l.getD (i - 1) a0).s (l.getD i a0).s = true
theorem parse_one {f : Nat} {l : List An} {a : An} {rest : List Nat} (hw : wfS a.l) (hc : chkA a.s a.l = 0) (hl : l.length < 256) (ho : 0 < l.length → strLess (l.getD (l.length - 1) a0).s a.s = true) : parseN (f + 1) l (textA a ++ rest) = parseN f (l ++ [nrm a]) rest := by
  have hne : textA a ++ rest ≠ [] := by rw [textA_line]; simp
  rw [parseN, if_neg hne, if_neg (by omega), cut_line hc]
  simp only [read_line hw hc]
  rw [if_neg (by simp), if_neg (by simp [nrm, hc]), if_neg (by rintro ⟨h1, h2⟩; rw [nrm, ho h1] at h2; cases h2)]
theorem getD_left {l : List An} {u : List An} {i : Nat} (h : i < l.length) : (l ++ u).getD i a0 = l.getD i a0 := by
  rw [List.getD_eq_getElem?_getD, List.getD_eq_getElem?_getD, List.getElem?_append_left h]
theorem parse_many : ∀ (us : List An) {f : Nat} {l : List An} {rest : List Nat}, (∀ a ∈ us, wfS a.l) → (∀ a ∈ us, chkA a.s a.l = 0) → l.length + us.length ≤ 256 → Asc (l ++ us) → parseN (f + us.length) l (textL us ++ rest) = parseN f (l ++ us.map nrm) rest
  | [], f, l, rest, _, _, _, _ => by simp [textL]
  | a :: us, f, l, rest, h1, h2, h3, h4 => by
    have hl : l.length < 256 := by simp only [List.length_cons] at h3; omega
    have hg : (l ++ a :: us).getD l.length a0 = a := by
      rw [List.getD_eq_getElem?_getD, List.getElem?_append_right (Nat.le_refl _), Nat.sub_self]; rfl
    have hstep := parse_one (f := f + us.length) (l := l) (a := a) (rest := textL us ++ rest) (h1 a List.mem_cons_self) (h2 a List.mem_cons_self) hl (fun hp => by
      have := h4 l.length hp (by simp)
      rw [hg, getD_left (by omega)] at this
      exact this)
    have ht : textL (a :: us) ++ rest = textA a ++ (textL us ++ rest) := by simp [textL]
    rw [ht, List.length_cons, ← Nat.add_assoc, hstep]
    have ih := parse_many us (f := f) (l := l ++ [nrm a]) (rest := rest) (fun x hx => h1 x (List.mem_cons_of_mem _ hx)) (fun x hx => h2 x (List.mem_cons_of_mem _ hx)) (by simp only [List.length_append, List.length_cons, List.length_nil] at h3 ⊢; omega) (by
      intro i hi hi2
      have hlen : (l ++ [nrm a] ++ us).length = (l ++ a :: us).length := by simp
      have hs : ∀ k, ((l ++ [nrm a] ++ us).getD k a0).s = ((l ++ a :: us).getD k a0).s := by
        intro k
        rw [List.append_assoc, List.singleton_append]
        rcases Nat.lt_trichotomy k l.length with h | h | h
        · rw [getD_left h, getD_left h]
        · subst h
          rw [hg, List.getD_eq_getElem?_getD, List.getElem?_append_right (Nat.le_refl _), Nat.sub_self]
          rfl
        · rw [List.getD_eq_getElem?_getD, List.getD_eq_getElem?_getD, List.getElem?_append_right (by omega), List.getElem?_append_right (by omega)]
          obtain ⟨d, hd⟩ : ∃ d, k - l.length = d + 1 := ⟨k - l.length - 1, by omega⟩
          rw [hd]
          rfl
      rw [hs, hs]
      exact h4 i hi (by omega))
    rw [ih, List.map_cons, List.append_assoc, List.singleton_append]
theorem aC_u (n : Nat) (l : List An) : (aC l).all (uC n) = true := by
  rw [List.all_eq_true]
  intro c hc
  obtain ⟨d, _, rfl⟩ := List.mem_map.1 hc
  rfl
theorem textL_ge {l : List An} (h : ∀ a ∈ l, chkA a.s a.l = 0) : l.length ≤ (textL l).length := by
  induction l with
  | nil => simp
  | cons a l ih =>
    have := ih (fun x hx => h x (List.mem_cons_of_mem _ hx))
    have h2 := (textA_len (h a List.mem_cons_self)).1
    simp only [textL, List.flatMap_cons, List.length_append, List.length_cons] at this ⊢
    omega
theorem deep_an {H : Heap} {id g n : Nat} {l : List An} {f : Bool} {c : Option Nat} (hH : H[id]? = some (.cells (aC l) g f)) (hn : l.length = n) : deepC H deepMax (.os id g 0 n 5 c) = some (.sl (l.flatMap An.ds) n) := by
  have hal := aC_len l
  have p2 : ((aC l).drop 0).take (n * 5) = (l.flatMap An.ds).map .d := by
    rw [List.drop_zero, List.take_of_length_le (by omega)]; rfl
  have p1 : 0 + n * 5 ≤ (aC l).length := by omega
  simp only [deepMax, deepC, ob_eq, hH, if_true, if_pos p1, p2, mapO_d, Option.map_some]
theorem alike_self (l : List An) : alikeL l l := ⟨rfl, fun _ _ => eqA_refl _⟩
theorem reach_d (H : Heap) (k : Nat) : ∀ {cs : List C}, cs.all C.isD = true → cs.flatMap (reachC H k) = []
  | [], _ => rfl
  | c :: cs, h => by
    rw [List.all_cons, Bool.and_eq_true] at h
    rw [List.flatMap_cons, reach_d H k h.2, List.append_nil]
    cases c with
    | d x => simp [reachC]
    | _ => cases h.1
theorem oC_d (o : Oid) : (oC o).all C.isD = true := by
  rw [List.all_eq_true]
  intro c hc
  obtain ⟨d, _, rfl⟩ := List.mem_map.1 hc
  rfl
end Mini
end Go.Proofs.YtgjlofpfbhioaaaGreatDoor
namespace Go.Proofs.YtgjlofpfbhioaaaGreatDoor
namespace Mini
open Go
variable {m : Int} {X : Ctx}
def strC (l : List (List Nat)) : List C := l.map fun s => C.d (.str s)
theorem strC_len (l : List (List Nat)) : (strC l).length = l.length := by simp [strC]
theorem strC_last (l : List (List Nat)) (hl : l ≠ []) : ((strC l).drop (l.length - 1)).take 1 = [.d (.str (l.getLast?.getD []))] := by
  obtain ⟨p, x, rfl⟩ : ∃ p x, l = p ++ [x] := ⟨l.dropLast, l.getLast hl, (List.dropLast_concat_getLast hl).symm⟩
  simp [strC]
theorem strC_set (l : List (List Nat)) (x : Nat) (hl : l ≠ []) : splice (strC l) (l.length - 1) [.d (.str (l.getLast?.getD [] ++ [x]))] = strC (addLast l x) := by
  obtain ⟨p, y, rfl⟩ : ∃ p y, l = p ++ [y] := ⟨l.dropLast, l.getLast hl, (List.dropLast_concat_getLast hl).symm⟩
  simp [strC, splice, addLast]
theorem addLast_len (l : List (List Nat)) (x : Nat) (hl : l ≠ []) : (addLast l x).length = l.length := by
  have : 0 < l.length := by
    cases l with
    | nil => exact absurd rfl hl
    | cons _ _ => simp
  simp [addLast]; omega
theorem last_le (l : List (List Nat)) (b : Nat) (h : ∀ x ∈ l, x.length ≤ b) : (l.getLast?.getD []).length ≤ b := by
  cases hl : l.getLast? with
  | none => simp
  | some x => exact h x (List.mem_of_getLast? hl)
abbrev R30 (s : List Nat) (c id g n : Nat) (cap : Option Nat) (j : Nat) : List V := [strV s, .c (.d (.int .u8 (c : Int))), .any, .c (.os id g 0 n 1 cap), i64 (j : Int), .any, .any]
/-- The state ahead of a byte. -/
def P30 (s : List Nat) (c j : Nat) (st : St) : Prop := ∃ id g cap H, st = ⟨R30 s c id g (splitN c (s.take j)).length cap j, H⟩ ∧ H[id]? = some (.cells (strC (splitN c (s.take j))) g false) ∧ (cap = none ∨ cap = some 1 ∧ (splitN c (s.take j)).length = 1) ∧ g ≤ j
theorem tidy30 {s : List Nat} {c j id g n : Nat} {cap : Option Nat} {H : Heap} {cs : List C} {r5 r6 : V} (h : H[id]? = some (.cells cs g false)) : ∃ H', tidy 1 (some [0, 1, 3, 4]) ⟨[strV s, .c (.d (.int .u8 (c : Int))), .any, .c (.os id g 0 n 1 cap), i64 (j : Int), r5, r6], H⟩ = ⟨R30 s c id g n cap j, H'⟩ ∧ H'[id]? = some (.cells cs g false) := by
  obtain ⟨H', t1, t2, t3⟩ := tidy_keep (hl := 1) (js := [0, 1, 3, 4]) (r := [strV s, .c (.d (.int .u8 (c : Int))), .any, .c (.os id g 0 n 1 cap), i64 (j : Int), r5, r6]) (H := H)
  refine ⟨H', t1, ?_⟩
  rcases t3 with rfl | ⟨_, _, hu⟩
  · exact h
  · have : id < 1 := by
      have hk : keepOnly [0, 1, 3, 4] 0 [strV s, .c (.d (.int .u8 (c : Int))), .any, .c (.os id g 0 n 1 cap), i64 (j : Int), r5, r6] = R30 s c id g n cap j := rfl
      rw [hk] at hu
      simp only [R30, List.all_cons, Bool.and_eq_true] at hu
      have h3 := hu.2.2.2.1
      rw [show V.under 1 (.c (.os id g 0 n 1 cap)) = decide (id < 1) from by simp [V.under, C.under]] at h3
      exact of_decide_eq_true h3
    rw [t2 _ this, h]
theorem r30 (_hX : XOk m X) {N : Nat} {s : List Nat} {c j : Nat} (hs : s.length < 900000) (hby : ∀ b ∈ s, b < 256) (hj : j < s.length) : ∀ st, P30 s c j st → ∃ s', exec (zenv X N) N false fn30L0 st = some (.nrm, s') ∧ P30 s c (j + 1) (tidy 1 (some [0, 1, 3, 4]) s') := by
  rintro st ⟨id, g, cap, H, rfl, ho, hcap, hg⟩
  have hx : s[j]? = some (s.getD j 0) := by rw [List.getD_eq_getElem?_getD, List.getElem?_eq_getElem hj]; rfl
  have hb : s.getD j 0 < 256 := hby _ (by rw [List.getD_eq_getElem?_getD, List.getElem?_eq_getElem hj]; exact List.getElem_mem _)
  have hsn : splitN c (s.take (j + 1)) = if s.getD j 0 = c then splitN c (s.take j) ++ [[]] else addLast (splitN c (s.take j)) (s.getD j 0) := by
    rw [List.take_add_one, hx, Option.toList_some, splitN_snoc]
  have hne := splitN_neq c (s.take j)
  obtain ⟨hl1, hl2⟩ := splitN_len c (s.take j)
  rw [List.length_take] at hl1 hl2
  have hlast := last_le _ _ hl2
  have h4 : (j : Int) < (s.length : Int) := by omega
  have h6 := wrap_succ (k := j) (by omega)
  have hlt := some_lt ho
  have hpos : 0 < (splitN c (s.take j)).length := seqLen c _
  unfold P30
  rw [hsn]
  generalize s.getD j 0 = b at *
  generalize splitN c (s.take j) = l at *
  have hcl := strC_len l
  by_cases hbc : b = c
  · have q1 : ((b : Int) == (c : Int)) = true := by rw [beq_iff_eq]; omega
    rw [if_pos hbc]
    have e1 : ∀ o : Ob, (H ++ [o])[H.length]? = some o := fun o => by simp
    have e2 : ∀ o : Ob, (H ++ [o])[id]? = some (.cells (strC l) g false) := fun o => by rw [List.getElem?_append_left hlt, ho]
    have htk : (strC l).take l.length = strC l := List.take_of_length_le (by omega)
    have hap : strC (l ++ [[]]) = strC l ++ [.d (.str [])] := by simp [strC]
    have k1 : l.length + 1 ≤ 1073741824 := by omega
    have k2 : l.length ≤ (strC l).length := by omega
    rcases hcap with rfl | ⟨rfl, hn⟩
    · have k3 : g + 1 < genK := by show g + 1 < 1000000; omega
      have hres : ((H ++ [Ob.cells [C.d (.str [])] 0 false]).set id (.cells (strC l ++ [.d (.str [])]) (g + 1) false))[id]? = some (.cells (strC (l ++ [[]])) (g + 1) false) := by
        rw [List.getElem?_set_self (by simp; omega), hap]
      obtain ⟨H', t1, t2⟩ := tidy30 (s := s) (c := c) (j := j + 1) (n := l.length + 1) (cap := none) (r5 := bl true) (r6 := bl true) hres
      refine ⟨_, ?_, id, g + 1, none, H', by rw [t1, List.length_append]; rfl, t2, .inl rfl, by omega⟩
      simp only [fn30L0, R30, strV, elems, lay, rep, splice, hx, h4, h6, q1, e1, e2, htk, k1, k2, k3, Nat.one_ne_zero, Nat.le_refl, List.take, List.drop, List.map_cons, List.map_nil, evs]
    · have k3 : ¬ l.length + 1 ≤ 1 := by omega
      have hres : (H ++ [Ob.cells [C.d (.str [])] 0 false] ++ [Ob.cells (strC l ++ [.d (.str [])]) 0 false])[H.length + 1]? = some (.cells (strC (l ++ [[]])) 0 false) := by
        rw [hap, List.getElem?_append_right (by simp)]; simp
      obtain ⟨H', t1, t2⟩ := tidy30 (s := s) (c := c) (j := j + 1) (n := l.length + 1) (cap := none) (r5 := bl true) (r6 := bl true) hres
      have hlen : (H ++ [Ob.cells [C.d (.str [])] 0 false]).length = H.length + 1 := by simp
      refine ⟨_, ?_, H.length + 1, 0, none, H', by rw [t1, List.length_append]; rfl, t2, .inl rfl, by omega⟩
      simp only [fn30L0, R30, strV, elems, lay, rep, splice, hx, h4, h6, q1, e1, e2, htk, k1, k2, k3, hlen, Nat.one_ne_zero, Nat.le_refl, List.take, List.drop, List.map_cons, List.map_nil, evs]
  · have q1 : ((b : Int) == (c : Int)) = false := by rw [beq_eq_false_iff_ne]; omega
    rw [if_neg hbc]
    have w1 : IntKind.i64.wrap ((l.length : Int) - 1) = ((l.length - 1 : Nat) : Int) := by rw [← wrap_nat (k := l.length - 1) (by omega)]; congr 1; omega
    have hl3 := strC_last l hne
    have hl4 := strC_set l b hne
    have hal := addLast_len l b hne
    have e1 : ∀ o : Ob, (H ++ [o])[H.length]? = some o := fun o => by simp
    have e2 : ∀ o : Ob, (H ++ [o])[id]? = some (.cells (strC l) g false) := fun o => by rw [List.getElem?_append_left hlt, ho]
    have k1 : l.length - 1 < l.length := by omega
    have k2 : l.length - 1 + 1 ≤ l.length := by omega
    have k3 : (l.getLast?.getD []).length + 1 ≤ 1073741824 := by omega
    have hs1 : splice [C.d (.int .u8 0)] 0 [C.d (.int .u8 (b : Int))] = [C.d (.int .u8 (b : Int))] := rfl
    have hbo : bytesOf [C.d (.int .u8 (b : Int))] = some [b] := bytesOf_of (s := [b]) (fun x hx => by rw [List.mem_singleton] at hx; omega)
    have hres : ((H ++ [Ob.cells [C.d (.int .u8 (b : Int))] 0 false]).set id (.cells (strC (addLast l b)) g false))[id]? = some (.cells (strC (addLast l b)) g false) := by
      rw [List.getElem?_set_self (by simp; omega)]
    obtain ⟨H', t1, t2⟩ := tidy30 (s := s) (c := c) (j := j + 1) (n := l.length) (cap := cap) (r5 := bl true) (r6 := bl false) hres
    refine ⟨_, ?_, id, g, cap, H', by rw [t1, hal], t2, by rw [hal]; exact hcap, by omega⟩
    generalize l.getLast?.getD [] = la at *
    simp only [fn30L0, R30, strV, binStr, elems, lay, rep, hx, h4, h6, q1, w1, hl3, hl4, e1, e2, ho, hcl, k1, k2, k3, hbo, hs1, Nat.le_refl, List.take, List.drop, List.map_cons, List.map_nil, ↓sp_len, ↓sp_ixa, evs]
theorem f30 (hX : XOk m X) {N : Nat} {s : List Nat} {c : Nat} (hN : s.length + 10 ≤ N) (hs : s.length < 900000) (hby : ∀ b ∈ s, b < 256) : vcallN X N 30 [strV s, .c (.d (.int .u8 (c : Int)))] = some (.c (.d (slS (splitN c s)))) := by
  obtain ⟨N, rfl⟩ : ∃ M, N = M + 1 := ⟨N - 1, by omega⟩
  have hF : fnsA 30 = some fn30' := rfl
  obtain ⟨s', hit, id, g, cap, H, hs', ho⟩ := iter_inv (js := some [0, 1, 3, 4]) (hl := 1) (body := exec (zenv X N) N false fn30L0) (P30 s c) (e := .exit 0) (by simp) (fun s' => ∃ id g cap H, s' = ⟨[strV s, .c (.d (.int .u8 (c : Int))), .any, .c (.os id g 0 (splitN c s).length 1 cap), i64 (s.length : Int), bl false, .any], H⟩ ∧ H[id]? = some (.cells (strC (splitN c s)) g false)) s.length 0 N ⟨R30 s c 0 0 1 (some 1) 0, [.cells [.d (.str [])] 0 false]⟩ ⟨0, 0, some 1, _, rfl, rfl, .inr ⟨rfl, rfl⟩, Nat.le_refl _⟩
    (fun j _ hj => r30 hX hs hby (by omega))
    (by
      rw [Nat.zero_add]
      rintro st ⟨id, g, cap, H, rfl, ho, _, _⟩
      rw [List.take_length] at ho
      refine ⟨_, ?_, id, g, cap, H, rfl, ho⟩
      rw [List.take_length]
      simp only [fn30L0, R30, strV, evs]) (by omega)
  subst hs'
  have hcl := strC_len (splitN c s)
  simp only [R30, strV, i64, bl, Int.natCast_zero] at hit
  refine vcall_of (r := .c (.os id g 0 (splitN c s).length 1 cap)) (H := H) ?_ ?_
  · rw [hX.fn hF]
    refine (rf_fin _ _ _ _ _ _ _ _ _ (by rfl)).trans ?_
    have hfr : ∀ (regs : List V) (H : Heap), frn (.c (.os 0 0 0 1 1 (some 1))) 3 1 regs H = ⟨regs, H⟩ := fun _ _ => rfl
    simp only [strV, lay, rep, splice, ex_fresh, hfr, hit, List.take, List.drop, List.map_cons, List.map_nil, evs, Nat.reduceAdd, Nat.reduceLeDiff, Nat.reduceBEq, Nat.reduceSub]
  · have p2 : ((strC (splitN c s)).drop 0).take ((splitN c s).length * 1) = ((splitN c s).map D.str).map .d := by
      rw [List.drop_zero, List.take_of_length_le (by omega), List.map_map]; rfl
    have p1 : 0 + (splitN c s).length * 1 ≤ (strC (splitN c s)).length := by omega
    simp only [deepV, deepV1, deepMax, deepC, ob_eq, ho, if_true, if_pos p1, p2, mapO_d, Option.map_some]
    rfl
end Mini
end Go.Proofs.YtgjlofpfbhioaaaGreatDoor
namespace Go.Proofs.YtgjlofpfbhioaaaGreatDoor
namespace Mini
open Go
variable {m : Int} {X : Ctx}
def arcOk (x : List Nat) : Bool := !(decide (arcOff x)) && x.all isDig && decide (numN 0 x < 4294967296)
theorem arc_yes {x : List Nat} (h : arcOk x = true) : arcV x = .tup [.c (.d (u32D (valP x))), bl true] := by
  simp only [arcOk, Bool.and_eq_true, Bool.not_eq_true', decide_eq_false_iff_not, decide_eq_true_eq] at h
  unfold arcV valP
  rw [if_neg (by rintro (h1 | h1); exact h.1.1 h1; exact h1 h.1.2), decide_eq_true h.2, if_pos (by omega), Nat.mod_eq_of_lt h.2]
theorem arc_no {x : List Nat} (h : arcOk x = false) : ∃ v, arcV x = .tup [.c (.d (u32D v)), bl false] := by
  unfold arcV
  split
  · exact ⟨0, rfl⟩
  · rename_i h1
    rw [not_or] at h1
    have h2 : x.all isDig = true := Decidable.not_not.1 h1.2
    have h3 : ¬ numN 0 x < 4294967296 := by
      intro h3
      have : arcOk x = true := by
        simp only [arcOk, Bool.and_eq_true, Bool.not_eq_true', decide_eq_false_iff_not, decide_eq_true_eq]
        exact ⟨⟨h1.1, h2⟩, h3⟩
      rw [h] at this; cases this
    rw [decide_eq_false h3]
    exact ⟨_, rfl⟩
theorem numN_acc : ∀ (s : List Nat) (acc : Nat), acc * 10 ^ s.length ≤ numN acc s
  | [], acc => by simp [numN]
  | b :: s, acc => by
    have ih := numN_acc s (10 * acc + (b - 48))
    have h2 : (10 * acc) * 10 ^ s.length ≤ (10 * acc + (b - 48)) * 10 ^ s.length := Nat.mul_le_mul_right _ (by omega)
    rw [List.length_cons, Nat.pow_succ, Nat.mul_comm (10 ^ s.length) 10, ← Nat.mul_assoc, Nat.mul_comm acc 10]
    exact Nat.le_trans h2 ih
theorem numN_geh {b : Nat} {s : List Nat} (hb : 49 ≤ b) : 10 ^ s.length ≤ numN 0 (b :: s) := by
  have h := numN_acc s (10 * 0 + (b - 48))
  refine Nat.le_trans ?_ h
  calc 10 ^ s.length = 1 * 10 ^ s.length := (Nat.one_mul _).symm
    _ ≤ _ := Nat.mul_le_mul_right _ (by omega)
theorem arc_dec (x : List Nat) : arcOk x = true ↔ decB x = true ∧ numN 0 x ≤ 4294967295 := by
  simp only [arcOk, decB, Bool.and_eq_true, Bool.or_eq_true, Bool.not_eq_true', decide_eq_false_iff_not, decide_eq_true_eq]
  constructor
  · rintro ⟨⟨h1, h2⟩, h3⟩
    refine ⟨?_, by omega⟩
    unfold arcOff at h1
    rw [not_or, not_or] at h1
    match x, h1, h2 with
    | [], h1, _ => exact absurd rfl h1.1
    | [b], h1, h2 =>
      by_cases hb : b = 48
      · left; rw [hb]
      · right; exact ⟨⟨by simp, by simpa using hb⟩, h2⟩
    | b :: c :: s, h1, h2 =>
      right
      exact ⟨⟨by simp, fun h => h1.2.2 ⟨by simp, h⟩⟩, h2⟩
  · rintro ⟨h1, h3⟩
    rcases h1 with rfl | ⟨⟨h1, h2⟩, h4⟩
    · refine ⟨⟨by unfold arcOff; simp, by decide⟩, by omega⟩
    · refine ⟨⟨?_, h4⟩, by omega⟩
      match x, h1, h2, h4 with
      | b :: s, _, h2, h4 =>
        have hb : 48 ≤ b ∧ b ≤ 57 := by
          rw [List.all_cons, Bool.and_eq_true] at h4
          exact isDig_rng h4.1
        have hb2 : b ≠ 48 := by simpa using h2
        have hge := numN_geh (b := b) (s := s) (by omega)
        unfold arcOff
        rintro (h | h | h)
        · simp at h
        · simp only [List.length_cons] at h
          have : 10 ^ 10 ≤ 10 ^ s.length := Nat.pow_le_pow_right (by omega) (by omega)
          have e : (10 : Nat) ^ 10 = 10000000000 := by decide
          omega
        · exact h2 h.2
theorem largeP_iff (ps : List (List Nat)) : ∀ j, largeP ps j = false ↔ ∀ i, i < j → numN 0 (ps.getD i []) ≤ 4294967295
  | 0 => ⟨fun _ i h => absurd h (Nat.not_lt_zero _), fun _ => rfl⟩
  | j + 1 => by
    rw [largeP, Bool.or_eq_false_iff, largeP_iff ps j, decide_eq_false_iff_not]
    constructor
    · rintro ⟨h1, h2⟩ i hi
      rcases Nat.lt_or_eq_of_le (Nat.le_of_lt_succ hi) with h | rfl
      · exact h1 i h
      · omega
    · intro h
      exact ⟨fun i hi => h i (by omega), by have := h j (by omega); omega⟩
theorem all_at {ps : List (List Nat)} {f : List Nat → Bool} : ps.all f = true ↔ ∀ i, i < ps.length → f (ps.getD i []) = true := by
  rw [List.all_eq_true]
  constructor
  · intro h i hi
    refine h _ ?_
    rw [List.getD_eq_getElem?_getD, List.getElem?_eq_getElem hi]
    exact List.getElem_mem _
  · intro h x hx
    obtain ⟨i, hi, rfl⟩ := List.getElem_of_mem hx
    have := h i hi
    rw [List.getD_eq_getElem?_getD, List.getElem?_eq_getElem hi] at this
    exact this
/-- When a dotted form is a policy's. -/
theorem parseO_iff (s : List Nat) : ((parseO s).2 = 0 ↔ (splitN 46 s).length ≤ 16 ∧ (∀ i, i < (splitN 46 s).length → arcOk ((splitN 46 s).getD i []) = true) ∧ chkO ((splitN 46 s).length, arrP (splitN 46 s) (splitN 46 s).length) = 0) ∧ ((parseO s).2 = 0 → (parseO s).1 = ((splitN 46 s).length, arrP (splitN 46 s) (splitN 46 s).length)) := by
  unfold parseO
  generalize splitN 46 s = ps
  by_cases h1 : ps.all decB = true
  · rw [if_neg (by simp [h1])]
    by_cases h2 : 16 < ps.length
    · rw [if_pos h2]
      exact ⟨⟨fun h => (by cases h), fun h => (by omega)⟩, fun h => (by cases h)⟩
    · rw [if_neg h2]
      by_cases h3 : largeP ps ps.length = true
      · rw [if_pos h3]
        refine ⟨⟨fun h => (by cases h), fun h => ?_⟩, fun h => (by cases h)⟩
        exfalso
        have : largeP ps ps.length = false := (largeP_iff ps _).2 fun i hi => ((arc_dec _).1 (h.2.1 i hi)).2
        rw [h3] at this; cases this
      · rw [if_neg h3]
        have h3 : largeP ps ps.length = false := by simpa using h3
        have h4 := (largeP_iff ps _).1 h3
        have h5 : ∀ i, i < ps.length → arcOk (ps.getD i []) = true := fun i hi => (arc_dec _).2 ⟨all_at.1 h1 i hi, h4 i hi⟩
        by_cases h6 : chkO (ps.length, arrP ps ps.length) = 0
        · rw [if_neg (by simp [h6])]
          exact ⟨⟨fun _ => ⟨by omega, h5, h6⟩, fun _ => rfl⟩, fun _ => rfl⟩
        · rw [if_pos h6]
          exact ⟨⟨fun h => absurd h h6, fun h => absurd h.2.2 h6⟩, fun h => absurd h h6⟩
  · rw [if_pos (by simpa using h1)]
    refine ⟨⟨fun h => (by cases h), fun h => ?_⟩, fun h => (by cases h)⟩
    exact absurd (all_at.2 fun i hi => ((arc_dec _).1 (h.2.1 i hi)).1) h1
abbrev R69 (ps : List (List Nat)) (j : Nat) : List V := [.any, .c (.ptr 0 0 0), .any, .c (.d (slS ps)), .c (.ptr 1 0 0), i64 (j : Int), .any, .any, .any, .any, .any]
set_option maxHeartbeats 1000000 in
theorem f69 (hX : XOk m X) {N : Nat} {s : List Nat} (hN : s.length + 60 ≤ N) (hs : s.length < 900000) (hby : ∀ b ∈ s, b < 256) : ∃ o, vcallN X N 69 [strV s] = some (.tup [.agg (oC o), bl (decide ((parseO s).2 = 0))]) ∧ wfO o ∧ ((parseO s).2 = 0 → o = (parseO s).1) := by
  obtain ⟨N, rfl⟩ : ∃ M, N = M + 1 := ⟨N - 1, by omega⟩
  have hF : fnsA 69 = some fn69' := rfl
  have h30 := hX.vc (k := 30) (F := fn30) rfl (f30 hX (N := N) (c := 46) (by omega) hs hby)
  obtain ⟨hl1, hl2⟩ := splitN_len 46 s
  have hbyp : ∀ x ∈ splitN 46 s, ∀ b ∈ x, b < 256 := by
    have : ∀ s : List Nat, (∀ b ∈ s, b < 256) → ∀ x ∈ splitN 46 s, ∀ b ∈ x, b < 256 := by
      intro s
      induction s with
      | nil => intro _ x hx b hb; simp only [splitN, List.mem_singleton] at hx; subst hx; cases hb
      | cons y s ih =>
        intro h x hx b hb
        have ih := ih (fun b hb => h b (List.mem_cons_of_mem _ hb))
        rw [splitN] at hx
        split at hx
        · rcases List.mem_cons.1 hx with rfl | hx
          · cases hb
          · exact ih x hx b hb
        · cases hsp : splitN 46 s with
          | nil => exact absurd hsp (splitN_neq 46 s)
          | cons a l =>
            rw [hsp] at hx ih
            rcases List.mem_cons.1 hx with rfl | hx
            · rcases List.mem_cons.1 hb with rfl | hb
              · exact h _ List.mem_cons_self
              · exact ih a List.mem_cons_self b hb
            · exact ih x (List.mem_cons_of_mem _ hx) b hb
    exact this s hby
  obtain ⟨hi1, hi2⟩ := parseO_iff s
  have hz0 : oC o0 = zC := rfl
  have hzw : wfO o0 := by unfold wfO o0; decide
  have hlw := slS_len (splitN 46 s)
  have hwrap : ∀ {o : Oid} {b : Bool} {H : Heap}, callN X (N + 1) (.d (.fn 69 [] [])) [strV s] [] = some (.tup [.agg (oC o), bl b], H) → vcallN X (N + 1) 69 [strV s] = some (.tup [.agg (oC o), bl b]) := fun {o b H} h => by
    refine vcall_of h ?_
    simp only [deepV, mapO, deepV1, bl]
    rw [show mapO (deepC H deepMax) (oC o) = some (oD o) from mapO_d H _ _]
    rfl
  generalize splitN 46 s = ps at *
  by_cases c16 : 16 < ps.length
  · have hf : decide ((parseO s).2 = 0) = false := decide_eq_false fun h => by have := (hi1.1 h).1; omega
    have c16' : (ps.length : Int) > 16 := by omega
    rw [hf]
    refine ⟨o0, hwrap (H := [.cells zC 0 false]) ?_, hzw, fun h => by have := (hi1.1 h).1; omega⟩
    rw [hX.fn hF]
    refine (rf_fin _ _ _ _ _ _ _ _ _ (by rfl)).trans ?_
    simp only [strV, Int.cast_ofNat_Int] at h30
    simp only [ob?, strV, h30, hlw, c16', hz0, lay, splice, List.take, List.drop, List.map_cons, List.map_nil, List.set_cons_zero, freeze_nil, reachV, reachC, ite_self, List.flatMap_cons, List.flatMap_nil, ↓sp_len, evs, Nat.reduceAdd, Nat.reduceLeDiff, Nat.reduceSub]
  have c16' : ¬ (ps.length : Int) > 16 := by omega
  have hwu : IntKind.u8.wrap (ps.length : Int) = (ps.length : Int) := wrap_u8 (by omega)
  have hmem : ∀ j, j < ps.length → ps.getD j [] ∈ ps := fun j hj => by
    rw [List.getD_eq_getElem?_getD, List.getElem?_eq_getElem hj]
    exact List.getElem_mem hj
  have hlay : lay [.d (.int .u8 0), .d (.int .u32 0), .d (.int .u32 0), .d (.int .u32 0), .d (.int .u32 0), .d (.int .u32 0), .d (.int .u32 0), .d (.int .u32 0), .d (.int .u32 0), .d (.int .u32 0), .d (.int .u32 0), .d (.int .u32 0), .d (.int .u32 0), .d (.int .u32 0), .d (.int .u32 0), .d (.int .u32 0), .d (.int .u32 0)] [(0, 1, .c (.d (.int .u8 (ps.length : Int))))] = some (oC (ps.length, arrP ps 0)) := rfl
  have hlo0 : (oC (ps.length, arrP ps 0)).length = 17 := rfl
  have hlz : lay [.d (.int .u8 0), .d (.int .u32 0), .d (.int .u32 0), .d (.int .u32 0), .d (.int .u32 0), .d (.int .u32 0), .d (.int .u32 0), .d (.int .u32 0), .d (.int .u32 0), .d (.int .u32 0), .d (.int .u32 0), .d (.int .u32 0), .d (.int .u32 0), .d (.int .u32 0), .d (.int .u32 0), .d (.int .u32 0), .d (.int .u32 0)] [] = some zC := rfl
  have hsc := iter_find (js := some [1, 3, 4, 5]) (hl := 2) (body := exec (zenv X N) N false fn69L0) (fun j => arcOk (ps.getD j []) = false) ps.length (fun i => ⟨R69 ps i, [.cells zC 0 false, .cells (oC (ps.length, arrP ps i)) 0 false]⟩) (b := 0) (s1 := ⟨[.any, .c (.ptr 0 0 0), .any, .c (.d (slS ps)), .c (.ptr 1 0 0), i64 (ps.length : Int), .any, .any, .any, bl false, .any], [.cells zC 0 false, .cells (oC (ps.length, arrP ps ps.length)) 0 false]⟩) (Q := fun k s => ∃ o, nth s.regs 1 = .c (.ptr 0 0 0) ∧ nth s.regs 2 = bl false ∧ s.heap = [.cells zC 0 false, o]) (fuel := N) (by omega)
    (by
      intro j hj hp
      have hp : arcOk (ps.getD j []) = true := by simpa using hp
      have h1 := slS_at ps hj
      have hxl := hl2 _ (hmem j hj)
      have h96 := hX.vc (k := 96) (F := fn96) rfl (f96 hX (N := N) (s := ps.getD j []) (by omega) (by omega) (hbyp _ (hmem j hj)))
      rw [arc_yes hp] at h96
      have h4 : (j : Int) < (ps.length : Int) := by omega
      have h6 := wrap_succ (k := j) (by omega)
      have h16 : j < 16 := by omega
      have hlA := arrP_len ps j
      have hA : arrP ps (j + 1) = (arrP ps j).set j (valP (ps.getD j [])) := by rw [arrP, if_pos h16]
      have hset := oC_set ps.length (arrP ps j) (j := j) (v := valP (ps.getD j [])) (by rw [hlA]; exact h16)
      have hlo : (oC (ps.length, arrP ps j)).length = 17 := by simp [oC, oD, hlA]
      have h17 : 1 + j + 1 ≤ 17 := by omega
      rw [hA]
      generalize valP (ps.getD j []) = v at *
      simp only [strV, u32D, bl] at h96
      refine ⟨⟨[.any, .c (.ptr 0 0 0), .any, .c (.d (slS ps)), .c (.ptr 1 0 0), i64 ((j + 1 : Nat) : Int), .c (.d (.int .u32 (v : Int))), bl true, .any, bl true, bl false], [.cells zC 0 false, .cells (oC (ps.length, (arrP ps j).set j v)) 0 false]⟩, ?_, gc_le (Nat.le_refl 2)⟩
      simp only [fn69L0, R69, ob?, hlw, h1, h4, h6, h96, h16, hset, hlo, h17, Bool.not_true, List.take, List.map_cons, List.map_nil, List.set_cons_zero, List.set_cons_succ, freeze_nil, reachV, reachC, ite_self, List.flatMap_cons, List.flatMap_nil, ↓sp_len, ↓sp_ixa, evs])
    (by simp only [fn69L0, R69, hlw, ↓sp_len, evs])
    (by
      intro j hj hp
      have h1 := slS_at ps hj
      have hxl := hl2 _ (hmem j hj)
      have h96 := hX.vc (k := 96) (F := fn96) rfl (f96 hX (N := N) (s := ps.getD j []) (by omega) (by omega) (hbyp _ (hmem j hj)))
      obtain ⟨v, hv⟩ := arc_no hp
      rw [hv] at h96
      have h4 : (j : Int) < (ps.length : Int) := by omega
      simp only [strV, u32D, bl] at h96
      refine ⟨⟨[.any, .c (.ptr 0 0 0), bl false, .c (.d (slS ps)), .c (.ptr 1 0 0), i64 (j : Int), .c (.d (.int .u32 (v : Int))), bl false, .any, bl true, bl true], [.cells zC 0 false, .cells (oC (ps.length, arrP ps j)) 0 false]⟩, ?_, _, rfl, rfl, rfl⟩
      simp only [fn69L0, R69, ob?, hlw, h1, h4, h96, lay, splice, Bool.not_false, List.take, List.drop, List.map_cons, List.map_nil, List.set_cons_zero, freeze_nil, reachV, reachC, ite_self, List.flatMap_cons, List.flatMap_nil, ↓sp_len, ↓sp_ixa, evs, Nat.reduceAdd, Nat.reduceLeDiff])
  simp only [R69, i64, bl, strV, Int.cast_ofNat_Int] at hsc h30
  rcases hsc with ⟨hno, hit⟩ | ⟨k, s', hk, hp, hno, ⟨o, hq1, hq2, hqh⟩, hit⟩
  · have hall : ∀ i, i < ps.length → arcOk (ps.getD i []) = true := fun i hi => by simpa using hno i hi
    have hwf : wfO (ps.length, arrP ps ps.length) := ⟨by simp only; omega, arrP_len ps _, arrP_lt ps _⟩
    have h97 := hX.vc (k := 97) (F := fn97) rfl (f97 hX (N := N) (by omega) hwf)
    have hdec : decide (chkO (ps.length, arrP ps ps.length) = 0) = decide ((parseO s).2 = 0) := by
      rw [decide_eq_decide]
      exact ⟨fun h => hi1.2 ⟨by omega, hall, h⟩, fun h => (hi1.1 h).2.2⟩
    rw [hdec] at h97
    have hlo := oC_len hwf
    have hdD : mapO (deepC [Ob.cells zC 0 false, .cells (oC (ps.length, arrP ps ps.length)) 0 false] deepMax) (oC (ps.length, arrP ps ps.length)) = some (oD (ps.length, arrP ps ps.length)) := mapO_d _ _ _
    have hd : List.map C.d (oD (ps.length, arrP ps ps.length)) = oC (ps.length, arrP ps ps.length) := rfl
    have hsp : splice zC 0 (oC (ps.length, arrP ps ps.length)) = oC (ps.length, arrP ps ps.length) := by
      unfold splice
      rw [List.take_zero, List.nil_append, Nat.zero_add, hlo, List.drop_of_length_le (Nat.le_refl 17), List.append_nil]
    generalize decide ((parseO s).2 = 0) = ok at *
    generalize hoo : (ps.length, arrP ps ps.length) = oo at *
    simp only [bl] at h97
    refine ⟨oo, hwrap (H := [.cells (oC oo) 0 false, .cells (oC oo) 0 false]) ?_, hwf, fun h => (hi2 h).symm⟩
    rw [hX.fn hF]
    refine (rf_fin _ _ _ _ _ _ _ _ _ (by rfl)).trans ?_
    simp only [ob?, strV, h30, hlw, c16', hwu, hlay, hlo0, hit, h97, hlo, hd, hdD, hsp, List.drop_zero, List.take_of_length_le (Nat.le_of_eq hlo), List.map_cons, List.map_nil, List.set_cons_zero, freeze_nil, reachV, reachC, ite_self, List.flatMap_cons, List.flatMap_nil, ↓sp_len, evs, Nat.reduceAdd, Nat.reduceLeDiff, Nat.reduceBEq, Nat.reduceSub]
  · have hf : decide ((parseO s).2 = 0) = false := decide_eq_false fun h => by
      have := (hi1.1 h).2.1 k hk
      rw [hp] at this; cases this
    rw [hf]
    obtain ⟨r, H⟩ := s'
    simp only at hq1 hq2 hqh
    subst hqh
    refine ⟨o0, hwrap (H := [.cells zC 0 false, o]) ?_, hzw, fun h => by
      have := (hi1.1 h).2.1 k hk
      rw [hp] at this; cases this⟩
    rw [hX.fn hF]
    refine (rf_fin _ _ _ _ _ _ _ _ _ (by rfl)).trans ?_
    simp only [ob?, strV, h30, hlw, c16', hwu, hlay, hlo0, hit, hq1, hq2, hz0, List.drop_zero, List.take, List.map_cons, List.map_nil, freeze_nil, reachV, reachC, ite_self, List.flatMap_cons, List.flatMap_nil, ↓sp_len, evs, Nat.reduceAdd, Nat.reduceBEq, Nat.reduceSub]
end Mini
end Go.Proofs.YtgjlofpfbhioaaaGreatDoor
namespace Go.Proofs.YtgjlofpfbhioaaaGreatDoor
namespace Mini
open Go
variable {m : Int} {X : Ctx}
def fn31S0 : I := .seq (.reg false [⟨none, .mov (.r 9)⟩, ⟨none, .mov (.r 3)⟩, ⟨none, .len (.l 0)⟩, ⟨none, .bin .lss (.l 2) (.l 0)⟩, ⟨none, .mov (.l 0)⟩, ⟨some (0, true), .mov (.r 3)⟩, ⟨some (1, true), .mov (.r 9)⟩, ⟨some (2, true), .ixa 1 (.l 1) (.l 0)⟩, ⟨some (3, true), .ld false 1 (.l 0)⟩, ⟨some (4, true), .bin .eql (.l 0) (.v (.c (.d (.str [101, 120, 112, 108, 105, 99, 105, 116]))))⟩, ⟨none, .pick (.l 5) (.l 0) (.v (.c (.d (.bool false))))⟩] [(13, 0)] []) ( .cond (.r 13) ( .seq (.reg false [⟨none, .fa 2 (.r 4)⟩, ⟨none, .st 1 (.l 0) (.v (.c (.d (.bool true))))⟩] [] []) ( .reg false [⟨none, .mov (.r 9)⟩, ⟨none, .bin .add (.l 0) (.v (.c (.d (.int .i64 1))))⟩, ⟨none, .mov (.l 0)⟩] [(9, 0)] [])) ( .skip))

def fn31S1 : I := .seq (.reg false [⟨none, .mov (.r 9)⟩, ⟨none, .mov (.r 3)⟩, ⟨none, .len (.l 0)⟩, ⟨none, .bin .lss (.l 2) (.l 0)⟩, ⟨none, .mov (.l 0)⟩, ⟨some (0, true), .mov (.r 3)⟩, ⟨some (1, true), .mov (.r 9)⟩, ⟨some (2, true), .ixa 1 (.l 1) (.l 0)⟩, ⟨some (3, true), .ld false 1 (.l 0)⟩, ⟨some (4, true), .bin .eql (.l 0) (.v (.c (.d (.str [110, 111, 109, 97, 112, 112, 105, 110, 103]))))⟩, ⟨none, .pick (.l 5) (.l 0) (.v (.c (.d (.bool false))))⟩] [(14, 0)] []) ( .cond (.r 14) ( .seq (.reg false [⟨none, .fa 3 (.r 4)⟩, ⟨none, .st 1 (.l 0) (.v (.c (.d (.bool true))))⟩] [] []) ( .reg false [⟨none, .mov (.r 9)⟩, ⟨none, .bin .add (.l 0) (.v (.c (.d (.int .i64 1))))⟩, ⟨none, .mov (.l 0)⟩] [(9, 0)] [])) ( .skip))

def fn31S2 : I := .seq (.reg false [⟨none, .mov (.r 9)⟩, ⟨none, .mov (.r 3)⟩, ⟨none, .len (.l 0)⟩, ⟨none, .bin .lss (.l 2) (.l 0)⟩, ⟨none, .mov (.l 0)⟩, ⟨some (0, true), .mov (.r 3)⟩, ⟨some (1, true), .mov (.r 9)⟩, ⟨some (2, true), .ixa 1 (.l 1) (.l 0)⟩, ⟨some (3, true), .ld false 1 (.l 0)⟩, ⟨some (4, true), .bin .eql (.l 0) (.v (.c (.d (.str [110, 111, 97, 110, 121]))))⟩, ⟨none, .pick (.l 5) (.l 0) (.v (.c (.d (.bool false))))⟩] [(15, 0)] []) ( .cond (.r 15) ( .seq (.reg false [⟨none, .fa 4 (.r 4)⟩, ⟨none, .st 1 (.l 0) (.v (.c (.d (.bool true))))⟩] [] []) ( .reg false [⟨none, .mov (.r 9)⟩, ⟨none, .bin .add (.l 0) (.v (.c (.d (.int .i64 1))))⟩, ⟨none, .mov (.l 0)⟩] [(9, 0)] [])) ( .skip))

def fn31'' : Fn := ⟨1, 16, [0, 2, 3, 4, 5, 6, 7, 8, 9, 10, 21, 34, 46, 64, 78, 92], [.cell 1 5 true, .r 2], .seq (.reg false [⟨none, .new [.str [], .nils, .bool false, .bool false, .bool false]⟩, ⟨none, .mov (.v (.c (.d (.bool false))))⟩] [(1, 1), (2, 0)] []) ( .seq (.reg false [⟨none, .mov (.r 0)⟩, ⟨none, .vc 30 [(.l 0), (.v (.c (.d (.int .u8 32))))]⟩, ⟨none, .mov (.l 0)⟩] [(3, 0)] []) ( .seq (.seq (.reg false [⟨none, .mov (.r 3)⟩, ⟨none, .len (.l 0)⟩, ⟨none, .bin .lss (.l 0) (.v (.c (.d (.int .i64 3))))⟩, ⟨none, .mov (.l 0)⟩, ⟨some (0, false), .mov (.r 3)⟩, ⟨some (1, false), .ixa 1 (.l 0) (.v (.c (.d (.int .i64 0))))⟩, ⟨some (2, false), .ld false 1 (.l 0)⟩, ⟨some (3, false), .bin .neq (.l 0) (.v (.c (.d (.str [97, 110, 99, 104, 111, 114]))))⟩, ⟨none, .pick (.l 4) (.v (.c (.d (.bool true)))) (.l 0)⟩] [(10, 0)] []) ( .cond (.r 10) ( .seq (.reg false [⟨none, .bld [.str [], .nils, .bool false, .bool false, .bool false] []⟩, ⟨none, .st 5 (.r 1) (.l 0)⟩, ⟨none, .mov (.v (.c (.d (.bool false))))⟩] [(2, 0)] []) ( .ret)) ( .skip))) ( .seq (.reg false [⟨none, .mov (.r 3)⟩, ⟨none, .ixa 1 (.l 0) (.v (.c (.d (.int .i64 1))))⟩, ⟨none, .ld false 1 (.l 0)⟩, ⟨none, .bld [.str [], .nils, .bool false, .bool false, .bool false] [(0, 1, (.l 0))]⟩, ⟨none, .pre⟩, ⟨none, .ini 5 (.l 1)⟩] [(4, 0)] []) ( .seq (.reg false [⟨none, .mov (.r 3)⟩, ⟨none, .ixa 1 (.l 0) (.v (.c (.d (.int .i64 2))))⟩, ⟨none, .ld false 1 (.l 0)⟩, ⟨none, .vc 30 [(.l 0), (.v (.c (.d (.int .u8 44))))]⟩, ⟨none, .mov (.l 0)⟩] [(5, 0)] []) ( .seq (.seq (.reg false [⟨none, .mov (.v (.c (.d (.int .i64 0))))⟩] [(6, 0)] []) ( .block 0 ( .seq (.fresh 4 (some 1) 17) ( .loop (some [1, 3, 4, 5, 6]) fn31L0)))) ( .seq (.reg false [⟨none, .mov (.v (.c (.d (.int .i64 3))))⟩] [(9, 0)] []) ( .seq fn31S0 ( .seq fn31S1 ( .seq fn31S2 ( .seq (.reg false [⟨none, .ld true 5 (.r 4)⟩, ⟨none, .mov (.r 9)⟩, ⟨none, .mov (.r 3)⟩, ⟨none, .len (.l 0)⟩, ⟨none, .bin .eql (.l 2) (.l 0)⟩, ⟨none, .st 5 (.r 1) (.l 4)⟩, ⟨none, .mov (.l 1)⟩] [(2, 0)] []) ( .ret)))))))))))⟩
theorem fn31_is2 : fn31 = fn31'' := rfl

theorem restP_drop (q : List (List Nat)) : ∀ k, (q.drop 3).drop ((q.drop 3).length - (restP (q.drop 3) k).length) = restP (q.drop 3) k
  | 0 => by simp [restP]
  | k + 1 => by
    have ih := restP_drop q k
    have hl := restP_len (q.drop 3) k
    unfold restP
    generalize restP (q.drop 3) k = p at *
    generalize q.drop 3 = t at *
    cases p with
    | nil => exact ih
    | cons x p' =>
      simp only [opt1]
      split
      · simp only
        simp only [List.length_cons] at hl ih
        rw [show t.length - p'.length = (t.length - (p'.length + 1)) + 1 by omega, ← List.drop_drop, ih]
        rfl
      · exact ih
/-- Where the words behind the flags begin. -/
def atP (q : List (List Nat)) (k : Nat) : Nat := q.length - (restP (q.drop 3) k).length
theorem atP_drop (q : List (List Nat)) (k : Nat) (h : 3 ≤ q.length) : q.drop (atP q k) = restP (q.drop 3) k := by
  have h1 := restP_drop q k
  have h2 := restP_len (q.drop 3) k
  rw [List.length_drop] at h2
  rw [← h1, List.drop_drop, List.length_drop]
  unfold atP
  congr 1
  omega
theorem atP_head {q : List (List Nat)} {k : Nat} (h : 3 ≤ q.length) {x : List Nat} {p : List (List Nat)} (hp : restP (q.drop 3) k = x :: p) : atP q k < q.length ∧ q.getD (atP q k) [] = x := by
  have h1 := atP_drop q k h
  rw [hp] at h1
  have h2 : (q.drop (atP q k))[0]? = some x := by rw [h1]; rfl
  rw [List.getElem?_drop, Nat.add_zero] at h2
  exact ⟨(List.getElem?_eq_some_iff.1 h2).1, by rw [List.getD_eq_getElem?_getD, h2]; rfl⟩
section
variable {E : Env} {N : Nat} {q : List (List Nat)} {s : List Nat} {c : C} {v2 v5 v6 v10 v11 v13 v14 : V} {o2 : Ob}
theorem st310 (h3 : 3 ≤ q.length) (hlen : q.length < 1000000) : exec E N false fn31S0 ⟨[.any, .c (.ptr 0 0 0), v2, .c (.d (slS q)), .c (.ptr 1 0 0), v5, v6, .any, .any, i64 (atP q 0 : Nat), v10, v11, .any, .any, .any, .any], [.cells zA 0 false, .cells (anP s c (q.drop 3) 0) 0 false, o2]⟩ = some (.nrm, ⟨[.any, .c (.ptr 0 0 0), v2, .c (.d (slS q)), .c (.ptr 1 0 0), v5, v6, .any, .any, i64 (atP q (0 + 1) : Nat), v10, v11, .any, bl (flgP (q.drop 3) 0), .any, .any], [.cells zA 0 false, .cells (anP s c (q.drop 3) (0 + 1)) 0 false, o2]⟩) := by
  have hs := fun hf => anP_set (s := s) (c := c) (ps := q.drop 3) (k := 0) (by omega) hf
  have hn := fun hf => anP_no (s := s) (c := c) (ps := q.drop 3) (k := 0) (by omega) hf
  have hlp := anP_len s c (q.drop 3) 0
  have hR : restP (q.drop 3) (0 + 1) = (opt1 0 (restP (q.drop 3) 0)).2 := rfl
  have hF : flgP (q.drop 3) 0 = (opt1 0 (restP (q.drop 3) 0)).1 := rfl
  have hA : atP q (0 + 1) = q.length - (restP (q.drop 3) (0 + 1)).length := rfl
  have hA0 : atP q 0 = q.length - (restP (q.drop 3) 0).length := rfl
  have hlw := slS_len q
  have hh := fun x p => atP_head (q := q) (k := 0) h3 (x := x) (p := p)
  have hrl := restP_len (q.drop 3) 0
  rw [List.length_drop] at hrl
  cases hp : restP (q.drop 3) 0 with
  | nil =>
    rw [hp] at hR hF hA0
    simp only [opt1] at hR hF
    rw [hR] at hA
    have g1 : ¬ ((atP q 0 : Nat) : Int) < (q.length : Int) := by rw [hA0]; simp
    have he : atP q (0 + 1) = atP q 0 := by rw [hA, hA0]
    rw [he, hF, ← hn hF]
    simp only [fn31S0, hlw, g1, ↓sp_len, evs]
  | cons x p =>
    obtain ⟨hx1, hx2⟩ := hh x p hp
    have hat := slS_at q hx1
    rw [hx2] at hat
    have g1 : ((atP q 0 : Nat) : Int) < (q.length : Int) := by omega
    by_cases hw : x = wordK 0
    · have hO : opt1 0 (x :: p) = (true, p) := by simp only [opt1, if_pos hw]
      rw [hp, hO] at hR hF
      rw [hR] at hA
      rw [hp, List.length_cons] at hA0 hrl
      have hsp := hs hF
      have he : atP q (0 + 1) = atP q 0 + 1 := by rw [hA, hA0]; simp only; omega
      have h6 := wrap_succ (k := atP q 0) (by omega)
      have hq : (x == wExp) = true := by rw [beqS]; exact decide_eq_true hw
      rw [he, hF]
      simp only [wExp] at hq
      generalize atP q 0 = at' at *
      generalize anP s c (q.drop 3) (0 + 1) = an' at *
      simp only [Nat.reduceAdd] at hsp
      simp only [fn31S0, ob?, binStr, hlw, g1, h6, hat, hq, hlp, hsp, List.take, List.map_cons, List.map_nil, List.set_cons_zero, List.set_cons_succ, ↓sp_len, ↓sp_ixa, evs, Nat.reduceAdd, Nat.reduceLeDiff]
    · have hO : opt1 0 (x :: p) = (false, x :: p) := by simp only [opt1, if_neg hw]
      rw [hp, hO] at hR hF
      rw [hR] at hA
      rw [hp] at hA0
      have he : atP q (0 + 1) = atP q 0 := by rw [hA, hA0]
      have hq : (x == wExp) = false := by rw [beqS]; exact decide_eq_false hw
      rw [he, hF, ← hn hF]
      simp only [wExp] at hq
      simp only [fn31S0, binStr, hlw, g1, hat, hq, List.take, List.map_cons, List.map_nil, ↓sp_len, ↓sp_ixa, evs]
theorem st311 (h3 : 3 ≤ q.length) (hlen : q.length < 1000000) : exec E N false fn31S1 ⟨[.any, .c (.ptr 0 0 0), v2, .c (.d (slS q)), .c (.ptr 1 0 0), v5, v6, .any, .any, i64 (atP q 1 : Nat), v10, v11, .any, v13, .any, .any], [.cells zA 0 false, .cells (anP s c (q.drop 3) 1) 0 false, o2]⟩ = some (.nrm, ⟨[.any, .c (.ptr 0 0 0), v2, .c (.d (slS q)), .c (.ptr 1 0 0), v5, v6, .any, .any, i64 (atP q (1 + 1) : Nat), v10, v11, .any, v13, bl (flgP (q.drop 3) 1), .any], [.cells zA 0 false, .cells (anP s c (q.drop 3) (1 + 1)) 0 false, o2]⟩) := by
  have hs := fun hf => anP_set (s := s) (c := c) (ps := q.drop 3) (k := 1) (by omega) hf
  have hn := fun hf => anP_no (s := s) (c := c) (ps := q.drop 3) (k := 1) (by omega) hf
  have hlp := anP_len s c (q.drop 3) 1
  have hR : restP (q.drop 3) (1 + 1) = (opt1 1 (restP (q.drop 3) 1)).2 := rfl
  have hF : flgP (q.drop 3) 1 = (opt1 1 (restP (q.drop 3) 1)).1 := rfl
  have hA : atP q (1 + 1) = q.length - (restP (q.drop 3) (1 + 1)).length := rfl
  have hA0 : atP q 1 = q.length - (restP (q.drop 3) 1).length := rfl
  have hlw := slS_len q
  have hh := fun x p => atP_head (q := q) (k := 1) h3 (x := x) (p := p)
  have hrl := restP_len (q.drop 3) 1
  rw [List.length_drop] at hrl
  cases hp : restP (q.drop 3) 1 with
  | nil =>
    rw [hp] at hR hF hA0
    simp only [opt1] at hR hF
    rw [hR] at hA
    have g1 : ¬ ((atP q 1 : Nat) : Int) < (q.length : Int) := by rw [hA0]; simp
    have he : atP q (1 + 1) = atP q 1 := by rw [hA, hA0]
    rw [he, hF, ← hn hF]
    simp only [fn31S1, hlw, g1, ↓sp_len, evs]
  | cons x p =>
    obtain ⟨hx1, hx2⟩ := hh x p hp
    have hat := slS_at q hx1
    rw [hx2] at hat
    have g1 : ((atP q 1 : Nat) : Int) < (q.length : Int) := by omega
    by_cases hw : x = wordK 1
    · have hO : opt1 1 (x :: p) = (true, p) := by simp only [opt1, if_pos hw]
      rw [hp, hO] at hR hF
      rw [hR] at hA
      rw [hp, List.length_cons] at hA0 hrl
      have hsp := hs hF
      have he : atP q (1 + 1) = atP q 1 + 1 := by rw [hA, hA0]; simp only; omega
      have h6 := wrap_succ (k := atP q 1) (by omega)
      have hq : (x == wMap) = true := by rw [beqS]; exact decide_eq_true hw
      rw [he, hF]
      simp only [wMap] at hq
      generalize atP q 1 = at' at *
      generalize anP s c (q.drop 3) (1 + 1) = an' at *
      simp only [Nat.reduceAdd] at hsp
      simp only [fn31S1, ob?, binStr, hlw, g1, h6, hat, hq, hlp, hsp, List.take, List.map_cons, List.map_nil, List.set_cons_zero, List.set_cons_succ, ↓sp_len, ↓sp_ixa, evs, Nat.reduceAdd, Nat.reduceLeDiff]
    · have hO : opt1 1 (x :: p) = (false, x :: p) := by simp only [opt1, if_neg hw]
      rw [hp, hO] at hR hF
      rw [hR] at hA
      rw [hp] at hA0
      have he : atP q (1 + 1) = atP q 1 := by rw [hA, hA0]
      have hq : (x == wMap) = false := by rw [beqS]; exact decide_eq_false hw
      rw [he, hF, ← hn hF]
      simp only [wMap] at hq
      simp only [fn31S1, binStr, hlw, g1, hat, hq, List.take, List.map_cons, List.map_nil, ↓sp_len, ↓sp_ixa, evs]
theorem st312 (h3 : 3 ≤ q.length) (hlen : q.length < 1000000) : exec E N false fn31S2 ⟨[.any, .c (.ptr 0 0 0), v2, .c (.d (slS q)), .c (.ptr 1 0 0), v5, v6, .any, .any, i64 (atP q 2 : Nat), v10, v11, .any, v13, v14, .any], [.cells zA 0 false, .cells (anP s c (q.drop 3) 2) 0 false, o2]⟩ = some (.nrm, ⟨[.any, .c (.ptr 0 0 0), v2, .c (.d (slS q)), .c (.ptr 1 0 0), v5, v6, .any, .any, i64 (atP q (2 + 1) : Nat), v10, v11, .any, v13, v14, bl (flgP (q.drop 3) 2)], [.cells zA 0 false, .cells (anP s c (q.drop 3) (2 + 1)) 0 false, o2]⟩) := by
  have hs := fun hf => anP_set (s := s) (c := c) (ps := q.drop 3) (k := 2) (by omega) hf
  have hn := fun hf => anP_no (s := s) (c := c) (ps := q.drop 3) (k := 2) (by omega) hf
  have hlp := anP_len s c (q.drop 3) 2
  have hR : restP (q.drop 3) (2 + 1) = (opt1 2 (restP (q.drop 3) 2)).2 := rfl
  have hF : flgP (q.drop 3) 2 = (opt1 2 (restP (q.drop 3) 2)).1 := rfl
  have hA : atP q (2 + 1) = q.length - (restP (q.drop 3) (2 + 1)).length := rfl
  have hA0 : atP q 2 = q.length - (restP (q.drop 3) 2).length := rfl
  have hlw := slS_len q
  have hh := fun x p => atP_head (q := q) (k := 2) h3 (x := x) (p := p)
  have hrl := restP_len (q.drop 3) 2
  rw [List.length_drop] at hrl
  cases hp : restP (q.drop 3) 2 with
  | nil =>
    rw [hp] at hR hF hA0
    simp only [opt1] at hR hF
    rw [hR] at hA
    have g1 : ¬ ((atP q 2 : Nat) : Int) < (q.length : Int) := by rw [hA0]; simp
    have he : atP q (2 + 1) = atP q 2 := by rw [hA, hA0]
    rw [he, hF, ← hn hF]
    simp only [fn31S2, hlw, g1, ↓sp_len, evs]
  | cons x p =>
    obtain ⟨hx1, hx2⟩ := hh x p hp
    have hat := slS_at q hx1
    rw [hx2] at hat
    have g1 : ((atP q 2 : Nat) : Int) < (q.length : Int) := by omega
    by_cases hw : x = wordK 2
    · have hO : opt1 2 (x :: p) = (true, p) := by simp only [opt1, if_pos hw]
      rw [hp, hO] at hR hF
      rw [hR] at hA
      rw [hp, List.length_cons] at hA0 hrl
      have hsp := hs hF
      have he : atP q (2 + 1) = atP q 2 + 1 := by rw [hA, hA0]; simp only; omega
      have h6 := wrap_succ (k := atP q 2) (by omega)
      have hq : (x == wAny) = true := by rw [beqS]; exact decide_eq_true hw
      rw [he, hF]
      simp only [wAny] at hq
      generalize atP q 2 = at' at *
      generalize anP s c (q.drop 3) (2 + 1) = an' at *
      simp only [Nat.reduceAdd] at hsp
      simp only [fn31S2, ob?, binStr, hlw, g1, h6, hat, hq, hlp, hsp, List.take, List.map_cons, List.map_nil, List.set_cons_zero, List.set_cons_succ, ↓sp_len, ↓sp_ixa, evs, Nat.reduceAdd, Nat.reduceLeDiff]
    · have hO : opt1 2 (x :: p) = (false, x :: p) := by simp only [opt1, if_neg hw]
      rw [hp, hO] at hR hF
      rw [hR] at hA
      rw [hp] at hA0
      have he : atP q (2 + 1) = atP q 2 := by rw [hA, hA0]
      have hq : (x == wAny) = false := by rw [beqS]; exact decide_eq_false hw
      rw [he, hF, ← hn hF]
      simp only [wAny] at hq
      simp only [fn31S2, binStr, hlw, g1, hat, hq, List.take, List.map_cons, List.map_nil, ↓sp_len, ↓sp_ixa, evs]
end
end Mini
end Go.Proofs.YtgjlofpfbhioaaaGreatDoor
namespace Go.Proofs.YtgjlofpfbhioaaaGreatDoor
namespace Mini
open Go
variable {m : Int} {X : Ctx}
theorem splitN_byte (c : Nat) : ∀ s : List Nat, (∀ b ∈ s, b < 256) → ∀ x ∈ splitN c s, ∀ b ∈ x, b < 256
  | [], _, x, hx, b, hb => by simp only [splitN, List.mem_singleton] at hx; subst hx; cases hb
  | y :: s, h, x, hx, b, hb => by
    have ih := splitN_byte c s (fun b hb => h b (List.mem_cons_of_mem _ hb))
    rw [splitN] at hx
    split at hx
    · rcases List.mem_cons.1 hx with rfl | hx
      · cases hb
      · exact ih x hx b hb
    · cases hsp : splitN c s with
      | nil => exact absurd hsp (splitN_neq c s)
      | cons a l =>
        rw [hsp] at hx ih
        rcases List.mem_cons.1 hx with rfl | hx
        · rcases List.mem_cons.1 hb with rfl | hb
          · exact h _ List.mem_cons_self
          · exact ih a List.mem_cons_self b hb
        · exact ih x (List.mem_cons_of_mem _ hx) b hb
abbrev R31 (q ps : List (List Nat)) (j : Nat) : List V := [.any, .c (.ptr 0 0 0), .any, .c (.d (slS q)), .c (.ptr 1 0 0), .c (.d (slS ps)), i64 (j : Int), .any, .any, .any, .any, .any, .any, .any, .any, .any]
def hp31 (name : List Nat) (ps : List (List Nat)) (j : Nat) : Heap := [.cells zA 0 false, .cells (anK name (.os 2 j 0 j 17 none) false false false) 0 false, .cells (flC (osP ps j)) j false]
set_option maxHeartbeats 1000000 in
theorem f31 (hX : XOk m X) {N : Nat} {s : List Nat} (hN : s.length + 100 ≤ N) (hs : s.length < 800000) (hby : ∀ b ∈ s, b < 256) : vcallN X N 31 [strV s] = some (.tup [.agg (acC (readA s).1), bl (readA s).2]) := by
  obtain ⟨N, rfl⟩ : ∃ M, N = M + 1 := ⟨N - 1, by omega⟩
  have hF : fnsA 31 = some fn31'' := rfl
  have h30 := hX.vc (k := 30) (F := fn30) rfl (f30 hX (N := N) (c := 32) (by omega) (by omega) hby)
  obtain ⟨hl1, hl2⟩ := splitN_len 32 s
  have hbyq := splitN_byte 32 s hby
  unfold readA
  generalize hq : splitN 32 s = q at *
  have hlw := slS_len q
  have hza : acC a0 = zA := rfl
  simp only [strV, Int.cast_ofNat_Int] at h30
  by_cases c1 : q.length < 3
  · have c1' : (q.length : Int) < 3 := by omega
    rw [if_pos (.inl c1), hza]
    refine vcall_of (r := .tup [.agg zA, bl false]) (H := [.cells zA 0 false]) ?_ rfl
    rw [hX.fn hF]
    refine (rf_fin _ _ _ _ _ _ _ _ _ (by rfl)).trans ?_
    simp only [ob?, strV, h30, hlw, c1', lay, splice, List.take, List.drop, List.map_cons, List.map_nil, List.set_cons_zero, freeze_nil, reachV, reachC, ite_self, List.flatMap_cons, List.flatMap_nil, ↓sp_len, evs, Nat.reduceAdd, Nat.reduceLeDiff, Nat.reduceSub]
  have c1' : ¬ (q.length : Int) < 3 := by omega
  have h0 := slS_at q (i := 0) (by omega)
  have h1 := slS_at q (i := 1) (by omega)
  have h2 := slS_at q (i := 2) (by omega)
  by_cases c2 : q.getD 0 [] = wAnc
  case neg =>
    rw [if_pos (.inr c2), hza]
    have g1 : (!(q.getD 0 [] == [97, 110, 99, 104, 111, 114])) = true := by rw [beqS]; simpa [wAnc] using c2
    refine vcall_of (r := .tup [.agg zA, bl false]) (H := [.cells zA 0 false]) ?_ rfl
    rw [hX.fn hF]
    refine (rf_fin _ _ _ _ _ _ _ _ _ (by rfl)).trans ?_
    simp only [ob?, strV, binStr, h30, hlw, h0, c1', g1, lay, splice, List.take, List.drop, List.map_cons, List.map_nil, List.set_cons_zero, freeze_nil, reachV, reachC, ite_self, List.flatMap_cons, List.flatMap_nil, ↓sp_len, ↓sp_ixa, evs, Nat.reduceAdd, Nat.reduceLeDiff, Nat.reduceSub]
  have g1 : (!(q.getD 0 [] == [97, 110, 99, 104, 111, 114])) = false := by rw [beqS, c2]; rfl
  rw [if_neg (by rintro (h | h); exact c1 h; exact h c2)]
  have hm2 : q.getD 2 [] ∈ q := by
    rw [List.getD_eq_getElem?_getD, List.getElem?_eq_getElem (by omega)]
    exact List.getElem_mem _
  have ht := hl2 _ hm2
  have htb := hbyq _ hm2
  have h44 := hX.vc (k := 30) (F := fn30) rfl (f30 hX (N := N) (s := q.getD 2 []) (c := 44) (by omega) (by omega) htb)
  obtain ⟨hp1, hp2⟩ := splitN_len 44 (q.getD 2 [])
  have hbyp := splitN_byte 44 _ htb
  unfold anR
  simp only [strV, Int.cast_ofNat_Int] at h44
  generalize hname : q.getD 1 [] = name at *
  generalize q.getD 2 [] = tt at *
  generalize splitN 44 tt = ps at *
  have hlp := slS_len ps
  have hmem : ∀ j, j < ps.length → ps.getD j [] ∈ ps := fun j hj => by
    rw [List.getD_eq_getElem?_getD, List.getElem?_eq_getElem hj]
    exact List.getElem_mem hj
  have hsc := iter_find (js := some [1, 3, 4, 5, 6]) (hl := 3) (body := exec (zenv X N) N false fn31L0) (fun j => (parseO (ps.getD j [])).2 ≠ 0) ps.length (fun i => ⟨R31 q ps i, hp31 name ps i⟩) (b := 0) (s1 := ⟨[.any, .c (.ptr 0 0 0), .any, .c (.d (slS q)), .c (.ptr 1 0 0), .c (.d (slS ps)), i64 (ps.length : Int), .any, .any, .any, .any, bl false, .any, .any, .any, .any], hp31 name ps ps.length⟩) (Q := fun k s => nth s.regs 1 = .c (.ptr 0 0 0) ∧ nth s.regs 2 = bl false ∧ ∃ t, s.heap = .cells zA 0 false :: t) (fuel := N) (by omega)
    (by
      intro j hj hp
      have hp := Decidable.not_not.1 hp
      have h1 := slS_at ps hj
      have hxl := hp2 _ (hmem j hj)
      obtain ⟨o, h69, how, ho⟩ := f69 hX (N := N) (s := ps.getD j []) (by omega) (by omega) (hbyp _ (hmem j hj))
      have h69 := hX.vc (k := 69) (F := fn69) rfl h69
      rw [decide_eq_true hp] at h69
      have ho := ho hp
      have h4 : (j : Int) < (ps.length : Int) := by omega
      have h6 := wrap_succ (k := j) (by omega)
      have hos := osP_succ ps hj
      rw [← ho] at hos
      have hlo := osP_len ps (j := j) (by omega)
      have hfl := flC_len (osP_wf ps j)
      rw [hlo] at hfl
      unfold hp31
      rw [hos]
      have hfu := flC_u 3 (osP ps j)
      generalize osP ps j = l at *
      generalize ps.getD j [] = x at *
      have h6o := oC_len how
      have hap : flC (l ++ [o]) = flC l ++ oC o := by rw [flC_app, flC_one]
      have htk : (flC l).take (j * 17) = flC l := List.take_of_length_le (by omega)
      have hl1 := lay1 how
      have k1 : j + 1 ≤ 1073741824 := by omega
      have k2 : j + 1 < genK := by show j + 1 < 1000000; omega
      have hfo := oC_flat o
      have hod := oC_d o
      rw [hap]
      simp only [strV, bl] at h69
      refine ⟨⟨[.any, .c (.ptr 0 0 0), .any, .c (.d (slS q)), .c (.ptr 1 0 0), .c (.d (slS ps)), i64 ((j + 1 : Nat) : Int), .c (.ptr 3 0 0), bl true, .any, .any, bl true, bl false, .any, .any, .any], [.cells zA 0 false, .cells (anK name (.os 2 (j + 1) 0 (j + 1) 17 none) false false false) 0 false, .cells (flC l ++ oC o) (j + 1) false] ++ [.cells (oC o) 0 false, .cells (oC o) 0 false]⟩, ?_, ?_⟩
      · simp only [fn31L0, R31, ob?, anK, elems, splice, hlp, h1, h4, h6, h69, h6o, hfl, htk, hl1, k1, k2, Bool.not_true, List.take, List.drop, List.take_of_length_le (Nat.le_of_eq h6o), List.set_cons_zero, List.set_cons_succ, List.map_cons, List.map_nil, freeze_nil, reachV, reachC, ite_self, List.flatMap_cons, List.flatMap_nil, Nat.le_refl, Nat.one_ne_zero, ↓sp_len, ↓sp_ixa, evs, Nat.reduceAdd, Nat.reduceLeDiff]
      · refine tidy_back rfl rfl rfl (Hp.cons rfl (Hp.cons rfl (Hp.cons ?_ Hp.nil)))
        simp only [uO, List.all_append, Bool.and_eq_true]
        refine ⟨hfu, ?_⟩
        rw [List.all_eq_true] at hod ⊢
        intro c hc
        have := hod c hc
        cases c <;> first | rfl | cases this)
    (by
      generalize hp31 name ps ps.length = HH
      simp only [fn31L0, R31, hlp, ↓sp_len, evs])
    (by
      intro j hj hp
      have h1 := slS_at ps hj
      have hxl := hp2 _ (hmem j hj)
      obtain ⟨o, h69, how, _⟩ := f69 hX (N := N) (s := ps.getD j []) (by omega) (by omega) (hbyp _ (hmem j hj))
      have h69 := hX.vc (k := 69) (F := fn69) rfl h69
      rw [decide_eq_false hp] at h69
      have h4 : (j : Int) < (ps.length : Int) := by omega
      unfold hp31
      generalize osP ps j = l at *
      generalize ps.getD j [] = x at *
      have h6o := oC_len how
      have hfo := oC_flat o
      simp only [strV, bl] at h69
      refine ⟨⟨[.any, .c (.ptr 0 0 0), bl false, .c (.d (slS q)), .c (.ptr 1 0 0), .c (.d (slS ps)), i64 (j : Int), .c (.ptr 3 0 0), bl false, .any, .any, bl true, bl true, .any, .any, .any], [.cells zA 0 false, .cells (anK name (.os 2 j 0 j 17 none) false false false) 0 false, .cells (flC l) j false, .cells (oC o) 0 false]⟩, ?_, rfl, rfl, _, rfl⟩
      simp only [fn31L0, R31, ob?, lay, splice, hlp, h1, h4, h69, h6o, Bool.not_false, List.take, List.drop, List.set_cons_zero, List.map_cons, List.map_nil, freeze_nil, reachV, reachC, ite_self, List.flatMap_cons, List.flatMap_nil, ↓sp_len, ↓sp_ixa, evs, Nat.reduceAdd, Nat.reduceLeDiff])
  have hfr : exec (zenv X N) N false (.fresh 4 (some 1) 17) ⟨[strV s, .c (.ptr 0 0 0), bl false, .c (.d (slS q)), .c (.ptr 1 0 0), .c (.d (slS ps)), i64 0, .any, .any, .any, bl false, .any, .any, .any, .any, .any], [.cells zA 0 false, .cells (anK name (.d .nils) false false false) 0 false]⟩ = some (.nrm, ⟨[strV s, .c (.ptr 0 0 0), bl false, .c (.d (slS q)), .c (.ptr 1 0 0), .c (.d (slS ps)), i64 0, .any, .any, .any, bl false, .any, .any, .any, .any, .any], hp31 name ps 0⟩) := rfl
  have hh0 : (hp31 name ps 0).length = 3 := rfl
  simp only [R31, i64, bl, Int.natCast_zero] at hsc
  rcases hsc with ⟨hno, hit⟩ | ⟨k, s', hk, hp, hno, ⟨hq1, hq2, t, hqh⟩, hit⟩
  · have hio : itemsOk ps := fun j hj => Decidable.not_not.1 (hno j hj)
    rw [if_neg (by simpa using hio)]
    have hwf := osP_wf ps ps.length
    have hol := osP_len ps (Nat.le_refl _)
    have hfl := flC_len hwf
    rw [hol] at hfl
    have t0 := st310 (E := zenv X N) (N := N) (q := q) (s := name) (c := .os 2 ps.length 0 ps.length 17 none) (v2 := .any) (v5 := .c (.d (slS ps))) (v6 := i64 (ps.length : Int)) (v10 := .any) (v11 := bl false) (o2 := .cells (flC (osP ps ps.length)) ps.length false) (by omega) (by omega)
    have t1 := st311 (E := zenv X N) (N := N) (q := q) (s := name) (c := .os 2 ps.length 0 ps.length 17 none) (v2 := .any) (v5 := .c (.d (slS ps))) (v6 := i64 (ps.length : Int)) (v10 := .any) (v11 := bl false) (v13 := bl (flgP (q.drop 3) 0)) (o2 := .cells (flC (osP ps ps.length)) ps.length false) (by omega) (by omega)
    have t2 := st312 (E := zenv X N) (N := N) (q := q) (s := name) (c := .os 2 ps.length 0 ps.length 17 none) (v2 := .any) (v5 := .c (.d (slS ps))) (v6 := i64 (ps.length : Int)) (v10 := .any) (v11 := bl false) (v13 := bl (flgP (q.drop 3) 0)) (v14 := bl (flgP (q.drop 3) 1)) (o2 := .cells (flC (osP ps ps.length)) ps.length false) (by omega) (by omega)
    simp only [Nat.reduceAdd, Nat.zero_add] at t0 t1 t2
    have ha0 : atP q 0 = 3 := by unfold atP restP; rw [List.length_drop]; omega
    have hp0 : anP name (.os 2 ps.length 0 ps.length 17 none) (q.drop 3) 0 = anK name (.os 2 ps.length 0 ps.length 17 none) false false false := rfl
    have hp3 : anP name (.os 2 ps.length 0 ps.length 17 none) (q.drop 3) 3 = anK name (.os 2 ps.length 0 ps.length 17 none) (flgP (q.drop 3) 0) (flgP (q.drop 3) 1) (flgP (q.drop 3) 2) := by simp [anP]
    have hat3 : (((atP q 3 : Nat) : Int) == (q.length : Int)) = decide (restP (q.drop 3) 3 = []) := by
      have hl := restP_len (q.drop 3) 3
      rw [List.length_drop] at hl
      have he : atP q 3 = q.length - (restP (q.drop 3) 3).length := rfl
      rw [Bool.eq_iff_iff, beq_iff_eq, decide_eq_true_eq]
      constructor
      · intro h
        refine List.length_eq_zero_iff.1 ?_
        omega
      · intro h
        rw [h] at he
        simp only [List.length_nil] at he
        omega
    rw [hp0, ha0] at t0
    rw [hp3] at t2
    have hdp : ∀ x0 x1 : Ob, deepC [x0, x1, .cells (flC (osP ps ps.length)) ps.length false] deepMax (.os 2 ps.length 0 ps.length 17 none) = some (slO (osP ps ps.length)) := by
      intro x0 x1
      have p2 : ((flC (osP ps ps.length)).drop 0).take (ps.length * 17) = ((osP ps ps.length).flatMap oD).map .d := by
        rw [List.drop_zero, List.take_of_length_le (by omega)]; rfl
      have p1 : 0 + ps.length * 17 ≤ (flC (osP ps ps.length)).length := by omega
      simp only [deepMax, deepC, ob?, if_true, if_pos p1, p2, mapO_d, Option.map_some]
      rw [slO, hol]
    unfold hp31 at hit hfr hh0
    generalize osP ps ps.length = os at *
    generalize flgP (q.drop 3) 0 = b0 at *
    generalize flgP (q.drop 3) 1 = b1 at *
    generalize flgP (q.drop 3) 2 = b2 at *
    generalize decide (restP (q.drop 3) 3 = []) = rok at *
    generalize atP q 1 = a1 at *
    generalize atP q 2 = a2 at *
    generalize atP q 3 = a3 at *
    generalize anP name (.os 2 ps.length 0 ps.length 17 none) (q.drop 3) 1 = an1 at *
    generalize anP name (.os 2 ps.length 0 ps.length 17 none) (q.drop 3) 2 = an2 at *
    refine vcall_of (r := .tup [.agg (anK name (.os 2 ps.length 0 ps.length 17 none) b0 b1 b2), bl rok]) (H := [.cells (anK name (.os 2 ps.length 0 ps.length 17 none) b0 b1 b2) 0 false, .cells (anK name (.os 2 ps.length 0 ps.length 17 none) b0 b1 b2) 0 false, .cells (flC os) ps.length false]) ?_ ?_
    · rw [hX.fn hF]
      refine (rf_fin _ _ _ _ _ _ _ _ _ (by rfl)).trans ?_
      simp only [strV, bl, i64, anK, Int.cast_ofNat_Int] at hfr hit t0 t1 t2
      simp only [ob?, strV, binStr, anK, h30, h44, hlw, h0, h1, h2, c1', g1, hfr, hit, t0, t1, t2, hat3, lay, splice, List.take, List.drop, List.map_cons, List.map_nil, List.set_cons_zero, freeze_nil, reachV, reachC, ite_self, List.flatMap_cons, List.flatMap_nil, ↓sp_len, ↓sp_ixa, evs, Nat.reduceAdd, Nat.reduceLeDiff, Nat.reduceBEq, Nat.reduceSub]
    · simp only [anK, acC, deepV, mapO, deepV1, hdp, bl]
      rfl
  · have hio : ¬ itemsOk ps := fun h => hp (h k hk)
    rw [if_pos (by simpa using hio), hza]
    obtain ⟨r, HH⟩ := s'
    simp only at hq1 hq2 hqh
    subst hqh
    refine vcall_of (r := .tup [.agg zA, bl false]) (H := .cells zA 0 false :: t) ?_ rfl
    rw [hX.fn hF]
    refine (rf_fin _ _ _ _ _ _ _ _ _ (by rfl)).trans ?_
    generalize hp31 name ps 0 = H0 at *
    simp only [strV, bl, i64, anK] at hfr hq2
    simp only [ob?, strV, binStr, h30, h44, hlw, h0, h1, h2, c1', g1, hfr, hh0, hit, hq1, hq2, lay, splice, List.take, List.drop, List.map_cons, List.map_nil, freeze_nil, reachV, reachC, ite_self, List.flatMap_cons, List.flatMap_nil, ↓sp_len, ↓sp_ixa, evs, Nat.reduceAdd, Nat.reduceLeDiff, Nat.reduceBEq, Nat.reduceSub]
end Mini
end Go.Proofs.YtgjlofpfbhioaaaGreatDoor
namespace Go.Proofs.YtgjlofpfbhioaaaGreatDoor
namespace Mini
open Go
theorem join_split (c : Nat) : ∀ s : List Nat, joinN [c] (splitN c s) = s
  | [] => rfl
  | x :: s => by
    have ih := join_split c s
    have hne := splitN_neq c s
    rw [splitN]
    cases hs : splitN c s with
    | nil => exact absurd hs hne
    | cons a l =>
      rw [hs] at ih
      by_cases h : x = c
      · rw [if_pos h, joinN, ih, h]; rfl
      · rw [if_neg h]
        cases l with
        | nil => simp only [joinN] at ih ⊢; rw [ih]
        | cons b l => simp only [joinN] at ih ⊢; rw [← ih]; rfl
/-- Digits that begin with no zero are a number's decimals. -/
theorem decF_numN : ∀ (n f : Nat) (s : List Nat), s.length = n → s ≠ [] → s.all isDig = true → s.getD 0 0 ≠ 48 → n ≤ f + 1 → decF f (numN 0 s) = s
  | 0, _, s, hn, h, _, _, _ => absurd (List.length_eq_zero_iff.1 hn) h
  | n + 1, f, s, hn, hne, hd, hh, hf => by
    obtain ⟨p, b, rfl⟩ : ∃ p b, s = p ++ [b] := ⟨s.dropLast, s.getLast hne, (List.dropLast_concat_getLast hne).symm⟩
    rw [List.length_append] at hn
    simp only [List.length_cons, List.length_nil] at hn
    rw [List.all_append, Bool.and_eq_true] at hd
    have hb : 48 ≤ b ∧ b ≤ 57 := isDig_rng (by simpa using hd.2)
    rw [numN_snoc]
    by_cases hp : p = []
    · subst hp
      have hnum : numN 0 [] = 0 := rfl
      rw [hnum]
      cases f with
      | zero =>
        simp only [decF, List.nil_append]
        congr 1; omega
      | succ f =>
        rw [decF, if_pos (by omega)]
        simp only [List.nil_append]
        congr 1; omega
    · have hh' : p.getD 0 0 ≠ 48 := by
        cases p with
        | nil => exact absurd rfl hp
        | cons y t => simpa using hh
      have hge : 1 ≤ numN 0 p := by
        cases p with
        | nil => exact absurd rfl hp
        | cons y t =>
          have hy : 48 ≤ y ∧ y ≤ 57 := by
            have := hd.1
            rw [List.all_cons, Bool.and_eq_true] at this
            exact isDig_rng this.1
          have hy2 : y ≠ 48 := by simpa using hh'
          have := numN_geh (b := y) (s := t) (by omega)
          have h1 : 0 < 10 ^ t.length := Nat.pow_pos (by omega)
          omega
      have hpl : 0 < p.length := by
        rcases Nat.eq_zero_or_pos p.length with h | h
        · exact absurd (List.length_eq_zero_iff.1 h) hp
        · exact h
      obtain ⟨f, rfl⟩ : ∃ g, f = g + 1 := ⟨f - 1, by omega⟩
      have ih := decF_numN n f p (by omega) hp hd.1 hh' (by omega)
      rw [decF, if_neg (by omega), show (10 * numN 0 p + (b - 48)) / 10 = numN 0 p by omega, ih, show 48 + (10 * numN 0 p + (b - 48)) % 10 = b by omega]
theorem decN_numN {s : List Nat} (h : arcOk s = true) : decN (numN 0 s) = s := by
  have hb := (arc_dec s).1 h
  simp only [arcOk, Bool.and_eq_true, Bool.not_eq_true', decide_eq_false_iff_not, decide_eq_true_eq] at h
  have hoff := h.1.1
  unfold arcOff at hoff
  rw [not_or, not_or] at hoff
  have h1 := hb.1
  simp only [decB, Bool.or_eq_true, Bool.and_eq_true, decide_eq_true_eq] at h1
  rcases h1 with rfl | ⟨⟨h1, h2⟩, h3⟩
  · rfl
  · exact decF_numN s.length 20 s rfl h1 h3 h2 (by omega)
theorem text_parse {x : List Nat} (h : (parseO x).2 = 0) : textO (parseO x).1 = x := by
  obtain ⟨h1, h2⟩ := parseO_iff x
  obtain ⟨h3, h4, h5⟩ := h1.1 h
  rw [h2 h]
  have hps : (arcsO ((splitN 46 x).length, arrP (splitN 46 x) (splitN 46 x).length)).map decN = splitN 46 x := by
    unfold arcsO
    simp only
    rw [arrP_eq _ _ h3 (Nat.le_refl _), List.take_left' (by simp), List.take_length, List.map_map]
    conv => rhs; rw [← List.map_id (splitN 46 x)]
    refine List.map_congr_left fun p hp => ?_
    obtain ⟨i, hi, rfl⟩ := List.getElem_of_mem hp
    have ha := h4 i hi
    rw [List.getD_eq_getElem?_getD, List.getElem?_eq_getElem hi, Option.getD_some] at ha
    have hv : valP (splitN 46 x)[i] = numN 0 (splitN 46 x)[i] := by
      unfold valP; rw [if_pos ((arc_dec _).1 ha).2]
    simp only [Function.comp, hv, decN_numN ha, id]
  unfold textO
  rw [hps, join_split]
theorem opt1_eq (k : Nat) (p : List (List Nat)) : p = (if (opt1 k p).1 then [wordK k] else []) ++ (opt1 k p).2 := by
  cases p with
  | nil => rfl
  | cons x t =>
    simp only [opt1]
    split
    · rename_i h; simp [h]
    · simp
theorem line_read {s : List Nat} (h : (readA s).2 = true) : lineA (readA s).1 = s := by
  unfold readA at h ⊢
  split at h
  · cases h
  rename_i h1
  split at h
  · cases h
  rename_i h2
  rw [if_neg h1, if_neg h2]
  rw [not_or] at h1
  have h2 := Decidable.not_not.1 h2
  have h3 : restP ((splitN 32 s).drop 3) 3 = [] := by simpa using h
  have hj := join_split 32 s
  generalize splitN 32 s = q at *
  have hc0 : q.getD 0 [] = wAnc := Decidable.not_not.1 h1.2
  obtain ⟨y0, y1, y2, y3, rfl⟩ : ∃ y0 y1 y2 y3, q = y0 :: y1 :: y2 :: y3 := by
    have := h1.1
    match q, this with
    | y0 :: y1 :: y2 :: y3, _ => exact ⟨y0, y1, y2, y3, rfl⟩
    | [], h => exact absurd (by simp) h
    | [_], h => exact absurd (by simp) h
    | [_, _], h => exact absurd (by simp) h
  have hy1 : (y0 :: y1 :: y2 :: y3).getD 1 [] = y1 := rfl
  have hy2 : (y0 :: y1 :: y2 :: y3).getD 2 [] = y2 := rfl
  have hd3 : (y0 :: y1 :: y2 :: y3).drop 3 = y3 := rfl
  have hy0 : y0 = wAnc := hc0
  rw [hy2] at h2
  rw [hd3] at h3
  have hset : setT (osP (splitN 44 y2) (splitN 44 y2).length) = y2 := by
    have : (osP (splitN 44 y2) (splitN 44 y2).length).map textO = splitN 44 y2 := by
      unfold osP
      rw [List.take_length, List.map_map]
      conv => rhs; rw [← List.map_id (splitN 44 y2)]
      refine List.map_congr_left fun p hp => ?_
      obtain ⟨i, hi, rfl⟩ := List.getElem_of_mem hp
      have ha := h2 i hi
      rw [List.getD_eq_getElem?_getD, List.getElem?_eq_getElem hi, Option.getD_some] at ha
      simp only [Function.comp, text_parse ha, id]
    unfold setT
    rw [this, join_split]
  have hfw : fwA (anR (y0 :: y1 :: y2 :: y3)) = y3 := by
    unfold fwA anR
    rw [hd3]
    have e0 := opt1_eq 0 (restP y3 0)
    have e1 := opt1_eq 1 (restP y3 1)
    have e2 := opt1_eq 2 (restP y3 2)
    have r0 : restP y3 0 = y3 := rfl
    have r1 : restP y3 1 = (opt1 0 (restP y3 0)).2 := rfl
    have r2 : restP y3 2 = (opt1 1 (restP y3 1)).2 := rfl
    have r3 : restP y3 3 = (opt1 2 (restP y3 2)).2 := rfl
    rw [← r1, r0] at e0
    rw [← r2] at e1
    rw [← r3, h3, List.append_nil] at e2
    have w0 : wordK 0 = wExp := rfl
    have w1 : wordK 1 = wMap := rfl
    have w2 : wordK 2 = wAny := rfl
    have f0 : (opt1 0 y3).1 = flgP y3 0 := rfl
    have f1 : (opt1 1 (restP y3 1)).1 = flgP y3 1 := rfl
    have f2 : (opt1 2 (restP y3 2)).1 = flgP y3 2 := rfl
    rw [w0, f0] at e0
    rw [w1, f1] at e1
    rw [w2, f2] at e2
    conv => rhs; rw [e0, e1, e2]
    rw [List.append_assoc]
  unfold lineA
  rw [hfw]
  have hs' : (anR (y0 :: y1 :: y2 :: y3)).s = y1 := rfl
  have hl' : (anR (y0 :: y1 :: y2 :: y3)).l = osP (splitN 44 y2) (splitN 44 y2).length := rfl
  rw [hs', hl', hset, ← hy0]
  exact hj
theorem cut_text {c : Nat} : ∀ {s a b : List Nat}, cutN c s = some (a, b) → s = a ++ c :: b
  | [], _, _, h => by cases h
  | x :: s, a, b, h => by
    unfold cutN at h
    split at h
    · rename_i hx; cases h; rw [hx]; rfl
    · cases hc : cutN c s with
      | none => rw [hc] at h; cases h
      | some p =>
        obtain ⟨a', b'⟩ := p
        rw [hc] at h
        simp only [Option.some.injEq, Prod.mk.injEq] at h
        obtain ⟨rfl, rfl⟩ := h
        rw [cut_text hc]
        rfl
theorem cut_idx {c : Nat} : ∀ (s : List Nat), cutN c s = match idxN c s with
    | some k => some (s.take k, s.drop (k + 1))
    | none => none
  | [] => rfl
  | x :: s => by
    have ih := cut_idx (c := c) s
    unfold cutN idxN
    split
    · rfl
    · rw [ih]
      cases idxN c s with
      | none => rfl
      | some k => rfl
end Mini
end Go.Proofs.YtgjlofpfbhioaaaGreatDoor
namespace Go.Proofs.YtgjlofpfbhioaaaGreatDoor
namespace Mini
open Go
variable {m : Int} {X : Ctx}
abbrev R5 (s : List Nat) (v2 v3 v4 : V) (ls : List (List Nat)) (i at' bad : Nat) : List V := [strV s, .any, v2, v3, v4, .c (.d (slS ls)), .c (.os 0 i 0 i 5 none), i64 (at' : Int), i64 (bad : Int), i64 (i : Int), .any, .any, .any, .any, .any, .any, .any, .any, .any, .any]
/-- The error of a line. -/
def errR (l : List An) (x : List Nat) (last : Bool) : Nat :=
  if (readA x).2 = false ∨ last = true then 6
  else if chkA (readA x).1.s (readA x).1.l ≠ 0 then chkA (readA x).1.s (readA x).1.l
  else if 0 < l.length ∧ strLess (l.getD (l.length - 1) a0).s (readA x).1.s = false then 13 else 0
set_option maxHeartbeats 2000000 in
theorem r5 (hX : XOk m X) {N : Nat} (hN : 2000 ≤ N) {s : List Nat} {v2 v3 v4 : V} {ls : List (List Nat)} {l : List An} {at' : Nat} (hv : v2.under 1 = true ∧ v3.under 1 = true ∧ v4.under 1 = true) (hi : l.length < ls.length) (hls : ls.length < 1000) (hx : (ls.getD l.length []).length ≤ 300) (hby : ∀ b ∈ ls.getD l.length [], b < 256) (hne : ¬ (l.length + 1 = ls.length ∧ ls.getD l.length [] = [])) :
    ∃ s', exec (zenv X N) N false fn5L0 ⟨R5 s v2 v3 v4 ls l.length at' 0, [.cells (aC l) l.length false]⟩ = some (.nrm, s') ∧ tidy 1 (some [0, 2, 3, 4, 5, 6, 7, 8, 9]) s' = ⟨R5 s v2 v3 v4 ls (l.length + 1) (l.length + 1) (errR l (ls.getD l.length []) (decide (l.length + 1 = ls.length))), [.cells (aC (l ++ [(readA (ls.getD l.length [])).1])) (l.length + 1) false]⟩ := by
  have hlw := slS_len ls
  have hat := slS_at ls hi
  have h4 : (l.length : Int) < (ls.length : Int) := by omega
  have h6 := wrap_succ (k := l.length) (by omega)
  have w1 : IntKind.i64.wrap ((ls.length : Int) - 1) = ((ls.length - 1 : Nat) : Int) := by rw [← wrap_nat (k := ls.length - 1) (by omega)]; congr 1; omega
  have h31 := hX.vc (k := 31) (F := fn31) rfl (f31 hX (N := N) (s := ls.getD l.length []) (by omega) (by omega) hby)
  obtain ⟨q1, q2, q3, q4, q5⟩ := readA_wf (ls.getD l.length [])
  have h22 := hX.vc (k := 22) (F := fn22) rfl (f22 hX (N := N) (s := (readA (ls.getD l.length [])).1.s) (b1 := (readA (ls.getD l.length [])).1.e) (b2 := (readA (ls.getD l.length [])).1.nm) (b3 := (readA (ls.getD l.length [])).1.na) (by omega) (by omega) q1 q2 (by omega))
  have hal := aC_len l
  have htk : (aC l).take (l.length * 5) = aC l := List.take_of_length_le (by omega)
  have k1 : l.length + 1 ≤ 1073741824 := by omega
  have k2 : l.length + 1 < genK := by show l.length + 1 < 1000000; omega
  have hap := aC_snoc l (readA (ls.getD l.length [])).1
  have hu := aC_u 1 l
  have g00 : ((0 : Int) == 0) = true := rfl
  have htidy : ∀ (bad : Int) (a : An) (x10 x11 x14 x15 x16 x17 x18 x19 x12 x13 : V) (t : Heap), tidy 1 (some [0, 2, 3, 4, 5, 6, 7, 8, 9]) ⟨[strV s, .any, v2, v3, v4, .c (.d (slS ls)), .c (.os 0 (l.length + 1) 0 (l.length + 1) 5 none), i64 ((l.length + 1 : Nat) : Int), i64 bad, i64 ((l.length + 1 : Nat) : Int), x10, x11, x12, x13, x14, x15, x16, x17, x18, x19], .cells (aC l ++ acC a) (l.length + 1) false :: t⟩ = ⟨[strV s, .any, v2, v3, v4, .c (.d (slS ls)), .c (.os 0 (l.length + 1) 0 (l.length + 1) 5 none), i64 ((l.length + 1 : Nat) : Int), i64 bad, i64 ((l.length + 1 : Nat) : Int), .any, .any, .any, .any, .any, .any, .any, .any, .any, .any], [.cells (aC l ++ acC a) (l.length + 1) false]⟩ := by
    intro bad a x10 x11 x14 x15 x16 x17 x18 x19 x12 x13 t
    refine tidy_back (H := [.cells (aC l ++ acC a) (l.length + 1) false]) rfl rfl ?_ (Hp.cons ?_ Hp.nil)
    · simp only [List.length_cons, List.length_nil, Nat.zero_add, List.all_cons, List.all_nil, hv.1, hv.2.1, hv.2.2, Bool.and_true, Bool.true_and]
      rfl
    · simp only [uO, List.all_append, Bool.and_eq_true]
      exact ⟨hu, rfl⟩
  rw [hap]
  have hE : errR l (ls.getD l.length []) (decide (l.length + 1 = ls.length)) = if (readA (ls.getD l.length [])).2 = false ∨ decide (l.length + 1 = ls.length) = true then 6
      else if chkA (readA (ls.getD l.length [])).1.s (readA (ls.getD l.length [])).1.l ≠ 0 then chkA (readA (ls.getD l.length [])).1.s (readA (ls.getD l.length [])).1.l
      else if 0 < l.length ∧ strLess (l.getD (l.length - 1) a0).s (readA (ls.getD l.length [])).1.s = false then 13 else 0 := rfl
  rw [hE]
  clear hE hap
  have hlast1 : 0 < l.length → ((aC l).drop ((l.length - 1) * 5)).take 1 = [.d (.str (l.getD (l.length - 1) a0).s)] := fun hp => by
    have h5 := dropA (l := l) (i := l.length - 1) (by omega)
    rw [aC, ← List.map_drop, flD_drop (f := An.ds) (k := 5) (fun _ _ => rfl), h5, List.flatMap_cons]
    rfl
  have hemp : (ls.getD l.length [] == []) = decide (ls.getD l.length [] = []) := beqS _ _
  generalize (readA (ls.getD l.length [])).2 = ok at *
  generalize (readA (ls.getD l.length [])).1 = a at *
  generalize ls.getD l.length [] = x at *
  simp only [strV, acC, anC, bl, i64] at h31 h22
  have e0 : ∀ o2 : Ob, ([Ob.cells (aC l) l.length false, o2] : Heap)[1]? = some o2 := fun _ => rfl
  unfold R5
  by_cases hlast : l.length + 1 = ls.length
  · have g1 : ((l.length : Int) == ((ls.length - 1 : Nat) : Int)) = true := by rw [beq_iff_eq]; omega
    have g2 : (x == []) = false := by rw [hemp]; exact decide_eq_false fun h => hne ⟨hlast, h⟩
    rw [decide_eq_true hlast, if_pos (.inr rfl)]
    cases ok
    · refine ⟨_, ?_, htidy 6 a (.c (.ptr 1 0 0)) (bl false) .any (bl true) (bl false) (bl true) .any .any .any .any [.cells (acC a) 0 false, .cells (acC a) 0 false]⟩
      simp only [fn5L0, ob?, strV, acC, binStr, elems, lay, rep, splice, hlw, hat, h4, h6, w1, h31, g00, g1, g2, htk, hal, k1, k2, Nat.one_ne_zero, Nat.le_refl, Bool.not_false, Int.natCast_zero, List.take, List.drop, List.map_cons, List.map_nil, List.set_cons_zero, freeze_nil, reachV, reachC, ite_self, List.flatMap_cons, List.flatMap_nil, ↓sp_len, ↓sp_ixa, evs, Nat.reduceAdd]
    · refine ⟨_, ?_, htidy 6 a (.c (.ptr 1 0 0)) (bl true) .any (bl true) (bl false) (bl true) .any .any .any .any [.cells (acC a) 0 false, .cells (acC a) 0 false]⟩
      simp only [fn5L0, ob?, strV, acC, binStr, elems, lay, rep, splice, hlw, hat, h4, h6, w1, h31, g00, g1, g2, htk, hal, k1, k2, Nat.one_ne_zero, Nat.le_refl, Bool.not_true, Int.natCast_zero, List.take, List.drop, List.map_cons, List.map_nil, List.set_cons_zero, freeze_nil, reachV, reachC, ite_self, List.flatMap_cons, List.flatMap_nil, ↓sp_len, ↓sp_ixa, evs, Nat.reduceAdd]
  · have g1 : ((l.length : Int) == ((ls.length - 1 : Nat) : Int)) = false := by rw [beq_eq_false_iff_ne]; omega
    rw [decide_eq_false hlast]
    cases ok
    · rw [if_pos (.inl rfl)]
      refine ⟨_, ?_, htidy 6 a (.c (.ptr 1 0 0)) (bl false) .any (bl true) (bl false) (bl true) .any .any .any .any [.cells (acC a) 0 false, .cells (acC a) 0 false]⟩
      simp only [fn5L0, ob?, strV, acC, elems, lay, rep, splice, hlw, hat, h4, h6, w1, h31, g00, g1, htk, hal, k1, k2, Nat.one_ne_zero, Nat.le_refl, Bool.not_false, Int.natCast_zero, List.take, List.drop, List.map_cons, List.map_nil, List.set_cons_zero, freeze_nil, reachV, reachC, ite_self, List.flatMap_cons, List.flatMap_nil, ↓sp_len, ↓sp_ixa, evs, Nat.reduceAdd]
    · rw [if_neg (by simp)]
      by_cases hz : chkA a.s a.l = 0
      · rw [if_neg (by rw [hz]; simp)]
        rw [hz] at h22
        by_cases hp : 0 < l.length
        · have hl1 := hlast1 hp
          have w2 : IntKind.i64.wrap ((l.length : Int) - 1) = ((l.length - 1 : Nat) : Int) := by rw [← wrap_nat (k := l.length - 1) (by omega)]; congr 1; omega
          have g3 : (l.length : Int) > 0 := by omega
          have g4 : l.length - 1 < l.length := by omega
          generalize l.getD (l.length - 1) a0 = p at *
          cases hlt : strLess p.s a.s
          · rw [if_pos ⟨hp, rfl⟩]
            refine ⟨_, ?_, htidy 13 a (.c (.ptr 1 0 0)) (bl true) .any (bl true) (bl false) (bl false) (bl true) .any .any .any [.cells (acC a) 0 false, .cells (acC a) 0 false]⟩
            simp only [fn5L0, ob?, strV, acC, binStr, elems, lay, rep, splice, hlw, hat, h4, h6, w1, w2, h31, h22, g00, g1, g3, g4, hl1, hlt, htk, hal, k1, k2, Nat.one_ne_zero, Nat.le_refl, Bool.not_true, Bool.not_false, Int.natCast_zero, List.take, List.drop, List.map_cons, List.map_nil, List.set_cons_zero, freeze_nil, reachV, reachC, ite_self, List.flatMap_cons, List.flatMap_nil, ↓sp_len, ↓sp_ixa, evs, Nat.reduceAdd]
          · rw [if_neg (by simp)]
            refine ⟨_, ?_, htidy 0 a (.c (.ptr 1 0 0)) (bl true) .any (bl true) (bl false) (bl false) (bl false) .any .any .any [.cells (acC a) 0 false, .cells (acC a) 0 false]⟩
            simp only [fn5L0, ob?, strV, acC, binStr, elems, lay, rep, splice, hlw, hat, h4, h6, w1, w2, h31, h22, g00, g1, g3, g4, hl1, hlt, htk, hal, k1, k2, Nat.one_ne_zero, Nat.le_refl, Bool.not_true, Int.natCast_zero, List.take, List.drop, List.map_cons, List.map_nil, List.set_cons_zero, freeze_nil, reachV, reachC, ite_self, List.flatMap_cons, List.flatMap_nil, ↓sp_len, ↓sp_ixa, evs, Nat.reduceAdd]
        · have g3 : ¬ (l.length : Int) > 0 := by omega
          rw [if_neg (fun h => hp h.1)]
          refine ⟨_, ?_, htidy 0 a (.c (.ptr 1 0 0)) (bl true) .any (bl true) (bl false) (bl false) (bl false) .any .any .any [.cells (acC a) 0 false, .cells (acC a) 0 false]⟩
          simp only [fn5L0, ob?, strV, acC, elems, lay, rep, splice, hlw, hat, h4, h6, w1, h31, h22, g00, g1, g3, htk, hal, k1, k2, Nat.one_ne_zero, Nat.le_refl, Bool.not_true, Int.natCast_zero, List.take, List.drop, List.map_cons, List.map_nil, List.set_cons_zero, freeze_nil, reachV, reachC, ite_self, List.flatMap_cons, List.flatMap_nil, ↓sp_len, ↓sp_ixa, evs, Nat.reduceAdd]
      · have g3 : ((chkA a.s a.l : Int) == 0) = false := by rw [beq_eq_false_iff_ne]; omega
        rw [if_pos hz]
        refine ⟨_, ?_, htidy (chkA a.s a.l : Nat) a (.c (.ptr 1 0 0)) (bl true) .any (bl true) (bl false) (bl false) (bl false) .any .any .any [.cells (acC a) 0 false, .cells (acC a) 0 false]⟩
        simp only [fn5L0, ob?, strV, acC, elems, lay, rep, splice, hlw, hat, h4, h6, w1, h31, h22, g00, g1, g3, htk, hal, k1, k2, Nat.one_ne_zero, Nat.le_refl, Bool.not_true, Int.natCast_zero, List.take, List.drop, List.map_cons, List.map_nil, List.set_cons_zero, freeze_nil, reachV, reachC, ite_self, List.flatMap_cons, List.flatMap_nil, ↓sp_len, ↓sp_ixa, evs, Nat.reduceAdd]
end Mini
end Go.Proofs.YtgjlofpfbhioaaaGreatDoor
namespace Go.Proofs.YtgjlofpfbhioaaaGreatDoor
namespace Mini
open Go
variable {m : Int} {X : Ctx}
/-- What has been read so far. -/
def InvL (l : List An) : Prop := (∀ a ∈ l, chkA a.s a.l = 0 ∧ wfS a.l ∧ a.w = slO a.l) ∧ Asc l
theorem textL_ge9 {l : List An} (h : ∀ a ∈ l, chkA a.s a.l = 0) : l.length * 9 ≤ (textL l).length := by
  induction l with
  | nil => simp
  | cons a l ih =>
    have := ih (fun x hx => h x (List.mem_cons_of_mem _ hx))
    have h2 := nameB_ok (chkA_name (h a List.mem_cons_self))
    have h3 : 9 ≤ (textA a).length := by
      simp only [textA, ancT, List.length_append, List.length_cons, List.length_nil]
      omega
    simp only [textL, List.flatMap_cons, List.length_append, List.length_cons] at this ⊢
    rw [Nat.succ_mul]
    omega
theorem asc_snoc {l : List An} {a : An} (h : Asc l) (ho : 0 < l.length → strLess (l.getD (l.length - 1) a0).s a.s = true) : Asc (l ++ [a]) := by
  intro i h0 hi
  rw [List.length_append] at hi
  simp only [List.length_cons, List.length_nil] at hi
  rcases Nat.lt_or_eq_of_le (Nat.le_of_lt_succ hi) with h1 | h1
  · rw [getD_left h1, getD_left (by omega)]
    exact h i h0 h1
  · subst h1
    have : (l ++ [a]).getD l.length a0 = a := by
      rw [List.getD_eq_getElem?_getD, List.getElem?_append_right (Nat.le_refl _), Nat.sub_self]; rfl
    rw [this, getD_left (by omega)]
    exact ho h0
abbrev X5 (s : List Nat) (v2 v3 v4 : V) (ls : List (List Nat)) (i at' bad : Nat) (x15 x16 : V) : List V := [strV s, .any, v2, v3, v4, .c (.d (slS ls)), .c (.os 0 i 0 i 5 none), i64 (at' : Int), i64 (bad : Int), i64 (i : Int), .any, .any, .any, .any, .any, x15, x16, .any, .any, .any]
theorem r5_stop (_hX : XOk m X) {N : Nat} {s : List Nat} {v2 v3 v4 : V} {ls : List (List Nat)} {i at' bad : Nat} {H : Heap} (hb : bad ≠ 0) : exec (zenv X N) N false fn5L0 ⟨R5 s v2 v3 v4 ls i at' bad, H⟩ = some (.exit 0, ⟨X5 s v2 v3 v4 ls i at' bad (bl false) .any, H⟩) := by
  have hlw := slS_len ls
  have g1 : ((bad : Int) == 0) = false := by rw [beq_eq_false_iff_ne]; omega
  by_cases h : (i : Int) < (ls.length : Int)
  · simp only [fn5L0, R5, X5, strV, hlw, h, g1, ↓sp_len, evs]
  · simp only [fn5L0, R5, X5, strV, hlw, h, ↓sp_len, evs]
theorem r5_break (_hX : XOk m X) {N : Nat} {s : List Nat} {v2 v3 v4 : V} {ls : List (List Nat)} {i at' : Nat} {H : Heap} (hi : i + 1 = ls.length) (hls : ls.length < 1000) (hx : ls.getD i [] = []) : exec (zenv X N) N false fn5L0 ⟨R5 s v2 v3 v4 ls i at' 0, H⟩ = some (.exit 0, ⟨X5 s v2 v3 v4 ls i at' 0 (bl true) (bl true), H⟩) := by
  have hlw := slS_len ls
  have hat := slS_at ls (i := i) (by omega)
  rw [hx] at hat
  have h4 : (i : Int) < (ls.length : Int) := by omega
  have w1 : IntKind.i64.wrap ((ls.length : Int) - 1) = ((ls.length - 1 : Nat) : Int) := by rw [← wrap_nat (k := ls.length - 1) (by omega)]; congr 1; omega
  have g1 : ((i : Int) == ((ls.length - 1 : Nat) : Int)) = true := by rw [beq_iff_eq]; omega
  have g0 : ((0 : Int) == 0) = true := rfl
  have g2 : (([] : List Nat) == []) = true := rfl
  simp only [fn5L0, R5, X5, strV, binStr, hlw, hat, h4, w1, g0, g1, g2, Int.natCast_zero, List.take, List.map_cons, List.map_nil, ↓sp_len, ↓sp_ixa, evs, reduceCtorEq]
theorem it5 (hX : XOk m X) {N : Nat} (hN : 2000 ≤ N) {s : List Nat} {v2 v3 v4 : V} (hv : v2.under 1 = true ∧ v3.under 1 = true ∧ v4.under 1 = true) (hs : s.length ≤ 300) (hby : ∀ b ∈ s, b < 256) : ∀ (f fuel : Nat) (l : List An) (at' : Nat), (restN 10 s l.length).length < f → f + 2 ≤ fuel → l.length < (splitN 10 s).length → InvL l → textL l ++ restN 10 s l.length = s →
    ∃ lst at2 bad x15 x16, iter (some [0, 2, 3, 4, 5, 6, 7, 8, 9]) 1 (exec (zenv X N) N false fn5L0) fuel ⟨R5 s v2 v3 v4 (splitN 10 s) l.length at' 0, [.cells (aC l) l.length false]⟩ = some (.exit 0, ⟨X5 s v2 v3 v4 (splitN 10 s) lst.length at2 bad x15 x16, [.cells (aC lst) lst.length false]⟩) ∧
      (if (parseN f l (restN 10 s l.length)).2.2 = 0 then bad = 0 ∧ lst = (parseN f l (restN 10 s l.length)).1 ∧ (parseN f l (restN 10 s l.length)).2.1 = 0 ∧ InvL lst ∧ textL lst = s else bad = (parseN f l (restN 10 s l.length)).2.2 ∧ at2 = (parseN f l (restN 10 s l.length)).2.1) := by
  intro f
  induction f with
  | zero => intro fuel l at' h; exact absurd h (Nat.not_lt_zero _)
  | succ f ih =>
    intro fuel l at' hf hfu hl hinv htx
    obtain ⟨fuel, rfl⟩ : ∃ k, fuel = k + 1 := ⟨fuel - 1, by omega⟩
    obtain ⟨hl1, hl2⟩ := splitN_len 10 s
    have hxm : (splitN 10 s).getD l.length [] ∈ splitN 10 s := by
      rw [List.getD_eq_getElem?_getD, List.getElem?_eq_getElem hl]; exact List.getElem_mem _
    have hxl := hl2 _ hxm
    have hxb := splitN_byte 10 s hby _ hxm
    have hge := textL_ge9 (fun a ha => (hinv.1 a ha).1)
    have hlen := congrArg List.length htx
    rw [List.length_append] at hlen
    unfold parseN
    by_cases hr : restN 10 s l.length = []
    · have hlast : l.length + 1 = (splitN 10 s).length := by
        by_cases h : l.length + 1 < (splitN 10 s).length
        · obtain ⟨i, _, h2, _, _⟩ := restN_round 10 s l.length h
          rw [hr] at h2; exact absurd h2 (Nat.not_lt_zero _)
        · omega
      have hx0 : (splitN 10 s).getD l.length [] = [] := by
        have h := (restN_last 10 s).2
        rw [show (splitN 10 s).length - 1 = l.length by omega, hr] at h
        exact h.symm
      rw [hr] at htx ⊢
      rw [if_pos rfl]
      refine ⟨l, at', 0, _, _, iter_stop (r5_break hX hlast (by omega) hx0), ?_⟩
      rw [if_pos rfl]
      exact ⟨rfl, rfl, rfl, hinv, by rw [List.append_nil] at htx; exact htx⟩
    · rw [if_neg hr, if_neg (by omega)]
      have hne : ¬ (l.length + 1 = (splitN 10 s).length ∧ (splitN 10 s).getD l.length [] = []) := by
        rintro ⟨h1, h2⟩
        have h := (restN_last 10 s).2
        rw [show (splitN 10 s).length - 1 = l.length by omega, h2] at h
        exact hr h
      obtain ⟨s', h1, h2⟩ := r5 hX hN (s := s) (at' := at') hv hl (by omega) (by omega) hxb hne
      have hal : (l ++ [(readA ((splitN 10 s).getD l.length [])).1]).length = l.length + 1 := by simp
      have stop : ∀ e : Nat, e ≠ 0 → errR l ((splitN 10 s).getD l.length []) (decide (l.length + 1 = (splitN 10 s).length)) = e → ∃ lst at2 bad x15 x16, iter (some [0, 2, 3, 4, 5, 6, 7, 8, 9]) 1 (exec (zenv X N) N false fn5L0) (fuel + 1) ⟨R5 s v2 v3 v4 (splitN 10 s) l.length at' 0, [.cells (aC l) l.length false]⟩ = some (.exit 0, ⟨X5 s v2 v3 v4 (splitN 10 s) lst.length at2 bad x15 x16, [.cells (aC lst) lst.length false]⟩) ∧ bad = e ∧ at2 = l.length + 1 := by
        intro e he hE
        obtain ⟨fuel, rfl⟩ : ∃ k, fuel = k + 1 := ⟨fuel - 1, by omega⟩
        rw [hE] at h2
        refine ⟨l ++ [(readA ((splitN 10 s).getD l.length [])).1], l.length + 1, e, bl false, .any, ?_, rfl, rfl⟩
        rw [iter_step h1, h2, hal]
        exact iter_stop (r5_stop hX he)
      by_cases hlast : l.length + 1 = (splitN 10 s).length
      · obtain ⟨hi, hi2⟩ := restN_last 10 s
        rw [show (splitN 10 s).length - 1 = l.length by omega] at hi hi2
        have hc : cutN 10 (restN 10 s l.length) = none := by rw [cut_idx, hi]
        have hE : errR l ((splitN 10 s).getD l.length []) (decide (l.length + 1 = (splitN 10 s).length)) = 6 := by
          unfold errR; rw [decide_eq_true hlast, if_pos (.inr rfl)]
        rw [hc]
        obtain ⟨lst, at2, bad, x15, x16, k1, k2, k3⟩ := stop 6 (by simp) hE
        exact ⟨lst, at2, bad, x15, x16, k1, by simp only; rw [if_neg (by simp)]; exact ⟨k2, k3⟩⟩
      · obtain ⟨i, j1, j2, j3, j4⟩ := restN_round 10 s l.length (by omega)
        have hc : cutN 10 (restN 10 s l.length) = some ((splitN 10 s).getD l.length [], restN 10 s (l.length + 1)) := by rw [cut_idx, j1, ← j3, ← j4]
        have hcl := cut_len hc
        have hct := cut_text hc
        rw [hc]
        simp only
        have hE : errR l ((splitN 10 s).getD l.length []) (decide (l.length + 1 = (splitN 10 s).length)) = if (readA ((splitN 10 s).getD l.length [])).2 = false ∨ decide (l.length + 1 = (splitN 10 s).length) = true then 6
          else if chkA (readA ((splitN 10 s).getD l.length [])).1.s (readA ((splitN 10 s).getD l.length [])).1.l ≠ 0 then chkA (readA ((splitN 10 s).getD l.length [])).1.s (readA ((splitN 10 s).getD l.length [])).1.l
          else if 0 < l.length ∧ strLess (l.getD (l.length - 1) a0).s (readA ((splitN 10 s).getD l.length [])).1.s = false then 13 else 0 := rfl
        rw [decide_eq_false hlast] at hE stop h2
        obtain ⟨w1, w2, w3, w4, w5⟩ := readA_wf ((splitN 10 s).getD l.length [])
        have hlr := line_read (s := (splitN 10 s).getD l.length [])
        generalize hx : (splitN 10 s).getD l.length [] = x at *
        cases hok : (readA x).2 with
        | false =>
          rw [hok, if_pos (.inl rfl)] at hE
          rw [if_pos rfl]
          obtain ⟨lst, at2, bad, x15, x16, k1, k2, k3⟩ := stop 6 (by simp) hE
          exact ⟨lst, at2, bad, x15, x16, k1, by rw [if_neg (by simp)]; exact ⟨k2, k3⟩⟩
        | true =>
          rw [hok, if_neg (by simp)] at hE
          rw [if_neg (by simp)]
          have hlr := hlr hok
          have w5 := w5 hok
          by_cases hz : chkA (readA x).1.s (readA x).1.l = 0
          case neg =>
            rw [if_pos hz] at hE
            rw [if_pos hz]
            obtain ⟨lst, at2, bad, x15, x16, k1, k2, k3⟩ := stop _ hz hE
            exact ⟨lst, at2, bad, x15, x16, k1, by rw [if_neg hz]; exact ⟨k2, k3⟩⟩
          rw [if_neg (by rw [hz]; simp)] at hE
          rw [if_neg (by rw [hz]; simp)]
          by_cases ho : 0 < l.length ∧ strLess (l.getD (l.length - 1) a0).s (readA x).1.s = false
          · rw [if_pos ho] at hE
            rw [if_pos ho]
            obtain ⟨lst, at2, bad, x15, x16, k1, k2, k3⟩ := stop _ (by simp) hE
            exact ⟨lst, at2, bad, x15, x16, k1, by rw [if_neg (by simp)]; exact ⟨k2, k3⟩⟩
          · rw [if_neg ho] at hE
            rw [if_neg ho]
            rw [hE] at h2
            have hinv2 : InvL (l ++ [(readA x).1]) := by
              refine ⟨fun a ha => ?_, asc_snoc hinv.2 (fun hp => ?_)⟩
              · rcases List.mem_append.1 ha with ha | ha
                · exact hinv.1 a ha
                · rw [List.mem_singleton] at ha
                  subst ha
                  exact ⟨hz, w2, w5⟩
              · cases hq : strLess (l.getD (l.length - 1) a0).s (readA x).1.s
                · exact absurd ⟨hp, hq⟩ ho
                · rfl
            have htx2 : textL (l ++ [(readA x).1]) ++ restN 10 s (l.length + 1) = s := by
              have e1 : textL (l ++ [(readA x).1]) = textL l ++ textA (readA x).1 := by simp [textL]
              rw [e1, textA_line, hlr]
              conv => rhs; rw [← htx, hct]
              simp only [List.append_assoc, List.singleton_append]
            have := ih fuel (l ++ [(readA x).1]) (l.length + 1) (by rw [hal]; omega) (by omega) (by rw [hal]; omega) hinv2 (by rw [hal]; exact htx2)
            rw [hal] at this
            obtain ⟨lst, at2, bad, x15, x16, k1, k2⟩ := this
            refine ⟨lst, at2, bad, x15, x16, ?_, k2⟩
            rw [iter_step h1, h2]
            exact k1
end Mini
end Go.Proofs.YtgjlofpfbhioaaaGreatDoor
namespace Go.Proofs.YtgjlofpfbhioaaaGreatDoor
namespace Mini
open Go
variable {m : Int} {X : Ctx}
theorem inv_ok {l : List An} (h : InvL l) (hl : l.length ≤ 256) : wfAs l ∧ chkL l = 0 ∧ ∀ a ∈ l, a.l.length ≤ 256 := by
  refine ⟨fun a ha => ?_, ?_, fun a ha => chkS_len (chkA_zero (h.1 a ha).1)⟩
  · obtain ⟨h1, h2, h3⟩ := h.1 a ha
    have h4 := nameB_ok (chkA_name h1)
    have h5 := chkS_len (chkA_zero h1)
    exact ⟨.inr h3, h2, by omega, by omega⟩
  · unfold chkL
    rw [if_neg (by omega)]
    refine firstE_none _ _ fun i hi => ?_
    have hm : l.getD i a0 ∈ l := getA_mem hi
    unfold errAn
    rw [if_neg (by rw [(h.1 _ hm).1]; simp)]
    by_cases h0 : i = 0
    · rw [if_pos h0]; simp
    · rw [if_neg h0, if_pos (h.2 i (by omega) hi)]; simp
theorem f5 (hX : XOk m X) {N : Nat} (hN : 10000 ≤ N) {s : List Nat} (hby : ∀ b ∈ s, b < 256) : vcallN X N 5 [strV s] = some (bl true) := by
  obtain ⟨N, rfl⟩ : ∃ M, N = M + 1 := ⟨N - 1, by omega⟩
  have hF : fnsA 5 = some fn5' := rfl
  have hlv := f16 hX (N := N) (by omega)
  suffices h : ∃ H, callN X (N + 1) (.d (.fn 5 [] [])) [strV s] [] = some (bl true, H) by
    obtain ⟨H, h⟩ := h
    exact vcall_of h rfl
  rw [hX.fn hF]
  by_cases c0 : (s.length : Int) > 300
  · refine ⟨[], (rf_fin _ _ _ _ _ _ _ _ _ (by rfl)).trans ?_⟩
    simp only [strV, hlv, c0, evs, Nat.reduceSub]
  have h30 := hX.vc (k := 30) (F := fn30) rfl (f30 hX (N := N) (s := s) (c := 10) (by omega) (by omega) hby)
  obtain ⟨r, t, h28, hr⟩ := f28 hX (N := N) (s := s) (H := []) (by omega) (by omega) Hp.nil
  have hr0 : restN 10 s 0 = s := rfl
  have hit := fun (v2 v3 v4 : V) (hv : v2.under 1 = true ∧ v3.under 1 = true ∧ v4.under 1 = true) => it5 hX (N := N) (by omega) hv (by omega) hby (s.length + 1) N [] 0 (by rw [List.length_nil, hr0]; omega) (by omega) (seqLen 10 s) ⟨fun _ h => absurd h List.not_mem_nil, fun i _ h => absurd h (Nat.not_lt_zero _)⟩ rfl
  simp only [List.length_nil, hr0] at hit
  have ha0 : aC [] = [] := rfl
  have gz : ((0 : Int) != 0) = false := rfl
  have g0 : ((0 : Int) == 0) = true := rfl
  have g1 : ((1 : Int) == 1) = true := rfl
  simp only [strV, Int.cast_ofNat_Int] at h30
  generalize hP : parseN (s.length + 1) [] s = P at *
  by_cases hz : P.2.2 = 0
  · rw [if_pos hz] at hr
    obtain ⟨hline, rfl, rfl⟩ := hr
    rw [hline, hz] at h28
    have hdp := deep_an (H := [.cells (aC P.1) P.1.length false]) (id := 0) (c := some P.1.length) rfl rfl
    have h28 := hX.vc (k := 28) (F := fn28) rfl (vcall_of (v := .tup [.c (.d (.sl (P.1.flatMap An.ds) P.1.length)), i64 0, i64 0]) h28 (by
      simp only [deepV, mapO, deepV1, List.length_nil, List.nil_append, hdp, Option.map_some, i64]
      rfl))
    obtain ⟨lst, at2, bad, x15, x16, k1, k2⟩ := hit (.c (.d (.sl (P.1.flatMap An.ds) P.1.length))) (i64 0) (i64 0) ⟨rfl, rfl, rfl⟩
    rw [if_pos hz] at k2
    obtain ⟨rfl, rfl, _, hinv, htx⟩ := k2
    generalize P.1 = l at *
    have hge := textL_ge9 (fun a ha => (hinv.1 a ha).1)
    have htl : (textL l).length = s.length := by rw [htx]
    obtain ⟨hwf, hck, hsz⟩ := inv_ok hinv (by omega)
    have hia : isAns (.sl (l.flatMap An.ds) l.length) l := .inr rfl
    have h27 := hX.vc (k := 27) (F := fn27) rfl (f27 hX (N := N) (by omega) hia hwf (by omega))
    have e1 : textE l = 0 := by unfold textE; rw [if_neg (by rw [hck]; simp), if_neg (by omega)]
    have e2 : textS l = s := by unfold textS; rw [if_pos e1, htx]
    rw [e1, e2] at h27
    have h29 := hX.vc (k := 29) (F := fn29) rfl (f29 hX (N := N) (by omega) hia hia hwf hwf (by omega) (fun a ha => by have := hsz a ha; omega))
    rw [if_pos (alike_self l)] at h29
    have hdp2 := deep_an (H := [.cells (aC l) l.length false]) (id := 0) (c := none) rfl rfl
    have gs : (s == s) = true := by simp
    simp only [strV, i64, ha0, R5, Int.natCast_zero] at k1 h27 h28 h29
    refine ⟨[.cells (aC l) l.length false], (rf_fin _ _ _ _ _ _ _ _ _ (by rfl)).trans ?_⟩
    generalize D.sl (l.flatMap An.ds) l.length = sl at *
    simp only [strV, binStr, c0, h28, h30, ex_fresh, frn_nil, k1, h27, h29, hdp2, hlv, gz, g0, g1, gs, Int.natCast_zero, freeze_nil, reachV, reachC, ite_self, List.flatMap_cons, List.flatMap_nil, evs, Nat.reduceAdd, Nat.reduceBEq, Nat.reduceSub]
  · rw [if_neg hz] at hr
    subst hr
    have h28 := hX.vc (k := 28) (F := fn28) rfl (vcall_of (v := .tup [.c (.d .nils), i64 (P.2.1 : Nat), i64 (P.2.2 : Nat)]) h28 rfl)
    obtain ⟨lst, at2, bad, x15, x16, k1, k2⟩ := hit (.c (.d .nils)) (i64 (P.2.1 : Nat)) (i64 (P.2.2 : Nat)) ⟨rfl, rfl, rfl⟩
    rw [if_neg hz] at k2
    obtain ⟨rfl, rfl⟩ := k2
    have q1 : ((P.2.2 : Int) != 0) = true := by rw [bne_iff_ne]; omega
    have q2 : ((P.2.2 : Int) == (P.2.2 : Int)) = true := by simp
    have q3 : ((P.2.1 : Int) == (P.2.1 : Int)) = true := by simp
    simp only [strV, i64, ha0, R5, Int.natCast_zero] at k1 h28
    refine ⟨[.cells (aC lst) lst.length false], (rf_fin _ _ _ _ _ _ _ _ _ (by rfl)).trans ?_⟩
    simp only [strV, c0, h28, h30, ex_fresh, frn_nil, k1, hlv, q1, q2, q3, g0, freeze_nil, reachV, reachC, ite_self, List.flatMap_cons, List.flatMap_nil, ↓sp_len, evs, Nat.reduceAdd, Nat.reduceBEq, Nat.reduceSub]
end Mini
end Go.Proofs.YtgjlofpfbhioaaaGreatDoor
