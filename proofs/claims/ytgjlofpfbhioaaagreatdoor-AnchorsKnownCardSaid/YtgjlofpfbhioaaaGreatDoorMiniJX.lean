/-
  Texts read: walked.
-/
import Derived.Test.YtgjlofpfbhioaaaGreatDoorMiniJV
import Derived.KernelRfl
import Derived.Test.YtgjlofpfbhioaaaGreatDoorMiniF
namespace Go.Proofs.YtgjlofpfbhioaaaGreatDoor
namespace Mini
open Go
variable {m : Int} {X : Ctx}
def decB (s : List Nat) : Bool := decide (s = [48]) || (decide (s ≠ []) && decide (s.getD 0 0 ≠ 48) && s.all isDig)
theorem digs_is (b : Nat) : digs.contains b = isDig b := by
  rw [Bool.eq_iff_iff]
  simp only [digs, isDig, List.contains_cons, List.contains_nil, Bool.or_false, Bool.or_eq_true, beq_iff_eq, Bool.and_eq_true, Nat.ble_eq]
  omega
theorem dropWhile_nil {α : Type} (p : α → Bool) : ∀ l : List α, l.dropWhile p = [] ↔ l.all p = true
  | [] => by simp
  | x :: l => by
    cases h : p x
    · simp [List.dropWhile, h]
    · simp only [List.dropWhile, h, List.all_cons, Bool.true_and]
      exact dropWhile_nil p l
theorem dropWhile_sub {α : Type} (p : α → Bool) : ∀ (l : List α), (∀ x ∈ l.dropWhile p, x ∈ l)
  | [] => by simp
  | x :: l => by
    cases h : p x
    · simp [List.dropWhile, h]
    · simp only [List.dropWhile, h]
      exact fun y hy => List.mem_cons_of_mem _ (dropWhile_sub p l y hy)
theorem dropWhile_head {α : Type} (p : α → Bool) : ∀ (l : List α) (x : α) (t : List α), l.dropWhile p = x :: t → p x = false
  | [], _, _, h => by simp at h
  | y :: l, x, t, h => by
    cases hy : p y
    · simp only [List.dropWhile, hy, List.cons.injEq] at h
      rw [← h.1]; exact hy
    · simp only [List.dropWhile, hy] at h
      exact dropWhile_head p l x t h
theorem trim_nil (s : List Nat) : (trimN digs s == []) = s.all isDig := by
  have hp : (fun b => digs.contains b) = isDig := funext digs_is
  unfold trimN
  have hp2 : (digs.contains ·) = isDig := hp
  rw [hp2]
  rw [Bool.eq_iff_iff, beq_iff_eq, dropWhile_nil]
  constructor
  · intro h
    have h1 : s.reverse.dropWhile isDig = [] := by
      cases hd : s.reverse.dropWhile isDig with
      | nil => rfl
      | cons x t =>
        have hx := dropWhile_head isDig _ _ _ hd
        rw [hd, List.all_eq_true] at h
        have := h x (by simp)
        rw [hx] at this; cases this
    have h2 := (dropWhile_nil isDig _).1 h1
    rw [List.all_eq_true] at h2 ⊢
    exact fun x hx => h2 x (List.mem_reverse.2 hx)
  · intro h
    rw [List.all_eq_true] at h ⊢
    exact fun x hx => h x (List.mem_reverse.1 (dropWhile_sub isDig _ x (List.mem_reverse.1 hx)))
theorem f118 (hX : XOk m X) {N : Nat} (hN : 1 ≤ N) {s : List Nat} (hs : s.length < 4294967281) : vcallN X N 118 [strV s] = some (bl (decB s)) := by
  obtain ⟨N, rfl⟩ : ∃ M, N = M + 1 := ⟨N - 1, by omega⟩
  refine vcall_of (r := bl (decB s)) (H := []) ?_ rfl
  rw [hX.fn (F := fn118) rfl]
  refine (rf_fin _ _ _ _ _ _ _ _ _ (by rfl)).trans ?_
  by_cases c1 : s = [48]
  · subst c1
    have g1 : (([48] : List Nat) == [48]) = true := rfl
    have g2 : decB [48] = true := rfl
    simp only [strV, binStr, g1, g2, evs, Nat.reduceSub]
  have g1 : (s == [48]) = false := by rw [beqS]; exact decide_eq_false c1
  by_cases c2 : s = []
  · subst c2
    have g2 : (([] : List Nat) == []) = true := rfl
    have g3 : decB [] = false := rfl
    simp only [strV, binStr, g1, g2, g3, Bool.not_true, evs, Nat.reduceSub]
  have g2 : (s == []) = false := by rw [beqS]; exact decide_eq_false c2
  have hp : 0 < s.length := by
    rcases Nat.eq_zero_or_pos s.length with h | h
    · exact absurd (List.length_eq_zero_iff.1 h) c2
    · exact h
  have h3 : s[0]? = some (s.getD 0 0) := by rw [List.getD_eq_getElem?_getD, List.getElem?_eq_getElem hp]; rfl
  by_cases c3 : s.getD 0 0 = 48
  · have g3 : decB s = false := by
      unfold decB
      rw [decide_eq_false c1, show decide (s.getD 0 0 ≠ 48) = false from by rw [c3]; rfl]
      simp
    rw [c3] at h3
    have g4 : (((48 : Nat) : Int) != 48) = false := rfl
    simp only [strV, binStr, g1, g2, g3, g4, h3, Bool.not_false, evs, Nat.reduceSub]
  · have g3 : decB s = s.all isDig := by
      unfold decB
      rw [decide_eq_false c1, decide_eq_true (show s ≠ [] from c2), decide_eq_true (show s.getD 0 0 ≠ 48 from c3)]
      rfl
    have g4 : ((s.getD 0 0 : Int) != 48) = true := by rw [bne_iff_ne]; omega
    have hpc : (zenv X N).prim 151 [.c (.d (.str s)), .c (.d (.str [48, 49, 50, 51, 52, 53, 54, 55, 56, 57]))] = some (.c (.d (.str (trimN digs s)))) := by
      rw [zenv_pr]
      refine hX.prim _ _ _ ?_
      have e : prim0 151 [.c (.d (.str s)), .c (.d (.str [48, 49, 50, 51, 52, 53, 54, 55, 56, 57]))] = if digs = digs ∧ s.length < 4294967281 then some (Str (trimN digs s)) else none := rfl
      rw [e, if_pos ⟨rfl, hs⟩]
    have g5 := trim_nil s
    simp only [strV, binStr, g1, g2, g3, g4, g5, h3, hpc, Bool.not_false, evs, Nat.reduceSub]
theorem f117 (hX : XOk m X) {N : Nat} (hN : 2 ≤ N) {s : List Nat} {H : Heap} (hs : s.length < 4294967281) : callN X N (.d (.fn 117 [] [])) [strV s] H = some (bl (!decB s), H) := by
  obtain ⟨N, rfl⟩ : ∃ M, N = M + 1 := ⟨N - 1, by omega⟩
  have h1 := hX.vc (k := 118) (F := fn118) rfl (f118 hX (N := N) (by omega) hs)
  rw [hX.fn (F := fn117) rfl]
  refine (rf_fin _ _ _ _ _ _ _ _ _ (by rfl)).trans ?_
  simp only [strV, bl] at h1
  simp only [strV, h1, evs, Nat.reduceSub]
/-- A row of strings. -/
def slS (ps : List (List Nat)) : D := .sl (ps.map D.str) ps.length
theorem slS_at (ps : List (List Nat)) {i : Nat} (h : i < ps.length) : ixac 1 i (.c (.d (slS ps))) = some (.c (.d (.ip (.str (ps.getD i []) :: (ps.drop (i + 1)).map D.str))), []) := by
  have h2 : (ps.map D.str).drop i = .str (ps.getD i []) :: (ps.drop (i + 1)).map D.str := by
    rw [List.getD_eq_getElem?_getD, List.getElem?_eq_getElem h, ← List.map_drop, List.drop_eq_getElem_cons h]
    rfl
  rw [slS, ixac, if_pos ⟨h, by simp; omega⟩, Nat.mul_one, h2]
theorem slS_len (ps : List (List Nat)) : lenc (.c (.d (slS ps))) = some (.c (.d (.int .i64 (ps.length : Int))), []) := rfl
theorem f150 (hX : XOk m X) {N : Nat} {ps : List (List Nat)} (hN : ps.length + 10 ≤ N) (hs : ∀ x ∈ ps, x.length < 4294967281) (hl : ps.length < 1000000000) : ∃ z : Int, vcallN X N 150 [.c (.d (slS ps)), .c (.d (.fn 117 [] []))] = some (i64 z) ∧ decide (z ≥ 0) = !ps.all decB := by
  obtain ⟨N, rfl⟩ : ∃ M, N = M + 1 := ⟨N - 1, by omega⟩
  have hF : fnsA 150 = some fn150' := rfl
  have hlw := slS_len ps
  have hmem : ∀ j, j < ps.length → ps.getD j [] ∈ ps := fun j hj => by
    rw [List.getD_eq_getElem?_getD, List.getElem?_eq_getElem hj]
    exact List.getElem_mem hj
  have hsc := iter_find (js := some [0, 1, 4, 5]) (hl := 0) (body := exec (zenv X N) N false fn150L0) (fun j => decB (ps.getD j []) = false) ps.length (fun i => ⟨[.c (.d (slS ps)), .c (.d (.fn 117 [] [])), .any, .any, i64 (ps.length : Int), i64 (i : Int), .any, .any], []⟩) (b := 0) (s1 := ⟨[.c (.d (slS ps)), .c (.d (.fn 117 [] [])), .any, .any, i64 (ps.length : Int), i64 (ps.length : Int), bl false, .any], []⟩) (Q := fun k s => s = ⟨[.c (.d (slS ps)), .c (.d (.fn 117 [] [])), i64 (k : Int), i64 (k : Int), i64 (ps.length : Int), i64 (k : Int), bl true, bl true], []⟩) (fuel := N) (by omega)
    (by
      intro j hj hp
      have hp : decB (ps.getD j []) = true := by simpa using hp
      have h1 := slS_at ps hj
      have h2 := f117 hX (N := N) (by omega) (H := []) (hs _ (hmem j hj))
      have h4 : (j : Int) < (ps.length : Int) := by omega
      have h5 := wrap_succ (k := j) (by omega)
      rw [hp] at h2
      simp only [strV] at h2
      refine ⟨⟨[.c (.d (slS ps)), .c (.d (.fn 117 [] [])), .any, i64 (j : Int), i64 (ps.length : Int), i64 ((j + 1 : Nat) : Int), bl true, bl false], []⟩, ?_, gc_le (Nat.le_refl 0)⟩
      simp only [fn150L0, h1, h2, h4, h5, Bool.not_true, List.take, List.map_cons, List.map_nil, ↓sp_ixa, evs])
    (by simp only [fn150L0, evs])
    (by
      intro j hj hp
      have h1 := slS_at ps hj
      have h2 := f117 hX (N := N) (by omega) (H := []) (hs _ (hmem j hj))
      have h4 : (j : Int) < (ps.length : Int) := by omega
      rw [hp] at h2
      simp only [strV] at h2
      refine ⟨_, ?_, rfl⟩
      simp only [fn150L0, h1, h2, h4, Bool.not_false, List.take, List.map_cons, List.map_nil, ↓sp_ixa, evs])
  simp only [i64, bl, Int.natCast_zero] at hsc
  rcases hsc with ⟨hno, hit⟩ | ⟨k, s', hk, hp, hno, rfl, hit⟩
  · refine ⟨-1, ?_, ?_⟩
    · refine vcall_of (r := i64 (-1)) (H := []) ?_ rfl
      rw [hX.fn hF]
      refine (rf_fin _ _ _ _ _ _ _ _ _ (by rfl)).trans ?_
      simp only [hlw, hit, ↓sp_len, evs, Nat.reduceAdd, Nat.reduceBEq, Nat.reduceSub]
    · have : ps.all decB = true := by
        rw [List.all_eq_true]
        intro x hx
        obtain ⟨i, hi, rfl⟩ := List.getElem_of_mem hx
        have := hno i hi
        rw [List.getD_eq_getElem?_getD, List.getElem?_eq_getElem hi, Option.getD_some] at this
        simpa using this
      rw [this]; rfl
  · refine ⟨(k : Int), ?_, ?_⟩
    · refine vcall_of (r := i64 (k : Int)) (H := []) ?_ rfl
      rw [hX.fn hF]
      refine (rf_fin _ _ _ _ _ _ _ _ _ (by rfl)).trans ?_
      simp only [hlw, hit, ↓sp_len, evs, Nat.reduceAdd, Nat.reduceBEq, Nat.reduceSub]
    · have : ps.all decB = false := by
        rw [List.all_eq_false]
        exact ⟨_, hmem k hk, by rw [hp]; simp⟩
      rw [this]
      simp
theorem f116 (hX : XOk m X) {N : Nat} {ps : List (List Nat)} (hN : ps.length + 11 ≤ N) (hs : ∀ x ∈ ps, x.length < 4294967281) (hl : ps.length < 1000000000) : vcallN X N 116 [.c (.d (slS ps)), .c (.d (.fn 117 [] []))] = some (bl (!ps.all decB)) := by
  obtain ⟨N, rfl⟩ : ∃ M, N = M + 1 := ⟨N - 1, by omega⟩
  obtain ⟨z, h1, h2⟩ := f150 hX (N := N) (by omega) hs hl
  have h1 := hX.vc (k := 150) (F := fn150) rfl h1
  refine vcall_of (r := bl (!ps.all decB)) (H := []) ?_ rfl
  rw [hX.fn (F := fn116) rfl]
  refine (rf_fin _ _ _ _ _ _ _ _ _ (by rfl)).trans ?_
  simp only [i64] at h1
  simp only [h1, h2, evs, Nat.reduceAdd, Nat.reduceSub]
end Mini
end Go.Proofs.YtgjlofpfbhioaaaGreatDoor
namespace Go.Proofs.YtgjlofpfbhioaaaGreatDoor
namespace Mini
open Go
variable {m : Int} {X : Ctx}
def valP (x : List Nat) : Nat := if numN 0 x ≤ 4294967295 then numN 0 x else 4294967295
theorem valP_lt (x : List Nat) : valP x < 4294967296 := by unfold valP; split <;> omega
def arrP (ps : List (List Nat)) : Nat → List Nat
  | 0 => List.replicate 16 0
  | j + 1 => if j < 16 then (arrP ps j).set j (valP (ps.getD j [])) else arrP ps j
def largeP (ps : List (List Nat)) : Nat → Bool
  | 0 => false
  | j + 1 => largeP ps j || decide (4294967295 < numN 0 (ps.getD j []))
theorem arrP_len (ps : List (List Nat)) : ∀ j, (arrP ps j).length = 16
  | 0 => rfl
  | j + 1 => by
    unfold arrP
    split
    · rw [List.length_set, arrP_len ps j]
    · exact arrP_len ps j
theorem arrP_lt (ps : List (List Nat)) : ∀ j, ∀ x ∈ arrP ps j, x < 4294967296
  | 0 => by
    intro x hx
    simp only [arrP, List.mem_replicate] at hx
    omega
  | j + 1 => by
    unfold arrP
    split
    · intro x hx
      rcases List.mem_or_eq_of_mem_set hx with h | rfl
      · exact arrP_lt ps j x h
      · exact valP_lt _
    · exact arrP_lt ps j
theorem oC_set (n : Nat) (l : List Nat) {j v : Nat} (hj : j < l.length) : splice (oC (n, l)) (1 + j) [.d (.int .u32 (v : Int))] = oC (n, l.set j v) := by
  unfold splice oC oD
  simp only [List.map_cons, List.map_map]
  rw [Nat.add_comm 1 j, List.take_succ_cons, show j + 1 + [C.d (D.int .u32 (v : Int))].length = (j + 1) + 1 by simp, List.drop_succ_cons, List.map_set, List.set_eq_take_append_cons_drop, if_pos (by simpa using hj)]
  simp [u32D]
def parseO (s : List Nat) : Oid × Nat :=
  if (splitN 46 s).all decB = false then (o0, 6)
  else if 16 < (splitN 46 s).length then (o0, 3)
  else if largeP (splitN 46 s) (splitN 46 s).length = true then (o0, 3)
  else if chkO ((splitN 46 s).length, arrP (splitN 46 s) (splitN 46 s).length) ≠ 0 then (o0, chkO ((splitN 46 s).length, arrP (splitN 46 s) (splitN 46 s).length))
  else (((splitN 46 s).length, arrP (splitN 46 s) (splitN 46 s).length), 0)
theorem splitN_len (c : Nat) : ∀ s : List Nat, (splitN c s).length ≤ s.length + 1 ∧ ∀ x ∈ splitN c s, x.length ≤ s.length
  | [] => by simp [splitN]
  | y :: s => by
    obtain ⟨h1, h2⟩ := splitN_len c s
    unfold splitN
    split
    · refine ⟨by simp only [List.length_cons]; omega, fun x hx => ?_⟩
      rcases List.mem_cons.1 hx with rfl | hx
      · simp
      · have := h2 x hx; simp only [List.length_cons]; omega
    · cases hs : splitN c s with
      | nil => exact ⟨by simp, fun x hx => by simp only [List.mem_singleton] at hx; subst hx; simp⟩
      | cons a l =>
        rw [hs] at h1 h2
        refine ⟨by simp only [List.length_cons] at h1 ⊢; omega, fun x hx => ?_⟩
        rcases List.mem_cons.1 hx with rfl | hx
        · have := h2 a List.mem_cons_self; simp only [List.length_cons]; omega
        · have := h2 x (List.mem_cons_of_mem _ hx); simp only [List.length_cons]; omega
abbrev R94 (ps : List (List Nat)) (j : Nat) : List V := [.any, .c (.ptr 0 0 0), .any, .any, .c (.ptr 1 0 0), bl (largeP ps j), .any, .any, .any, .any, .any, .any, .c (.d (slS ps)), i64 (ps.length : Int), i64 (j : Int), .any, .any, .any, .any, .any]
theorem decB_dig {s : List Nat} (h : decB s = true) : s.all isDig = true ∧ s.isEmpty = false := by
  unfold decB at h
  simp only [Bool.or_eq_true, Bool.and_eq_true, decide_eq_true_eq] at h
  rcases h with rfl | ⟨⟨h1, _⟩, h2⟩
  · exact ⟨rfl, rfl⟩
  · exact ⟨h2, by cases s with | nil => exact absurd rfl h1 | cons _ _ => rfl⟩
set_option maxHeartbeats 1000000 in
theorem r94 (hX : XOk m X) {N : Nat} (hN : 10 ≤ N) {ps : List (List Nat)} {n j : Nat} (hj : j < ps.length) (hlen : ps.length < 100000000) (hs : (ps.getD j []).length < 100000000) (hp : decB (ps.getD j []) = true) :
    ∃ s', exec (zenv X N) N false fn94L0 ⟨R94 ps j, [.cells zC 0 false, .cells (oC (n, arrP ps j)) 0 false]⟩ = some (.nrm, s') ∧ tidy 2 (some [1, 4, 5, 12, 13, 14]) s' = ⟨R94 ps (j + 1), [.cells zC 0 false, .cells (oC (n, arrP ps (j + 1))) 0 false]⟩ := by
  have h1 := slS_at ps hj
  have h2 := hX.vc (k := 118) (F := fn118) rfl (f118 hX (N := N) (by omega) (s := ps.getD j []) (by omega))
  have h4 : (j : Int) < (ps.length : Int) := by omega
  have h5 := wrap_succ (k := j) (by omega)
  have hlA := arrP_len ps j
  have hL : largeP ps (j + 1) = (largeP ps j || decide (4294967295 < numN 0 (ps.getD j []))) := rfl
  have hA : arrP ps (j + 1) = if j < 16 then (arrP ps j).set j (valP (ps.getD j [])) else arrP ps j := rfl
  have hR : R94 ps (j + 1) = [.any, .c (.ptr 0 0 0), .any, .any, .c (.ptr 1 0 0), bl (largeP ps j || decide (4294967295 < numN 0 (ps.getD j []))), .any, .any, .any, .any, .any, .any, .c (.d (slS ps)), i64 (ps.length : Int), i64 ((j + 1 : Nat) : Int), .any, .any, .any, .any, .any] := by rw [← hL]
  have hv := valP_lt (ps.getD j [])
  have hpc : (zenv X N).prim 119 [.c (.d (.str (ps.getD j []))), .c (.d (.int .i64 10)), .c (.d (.int .i64 32))] = some (.tup [.c (.d (.int .u64 (valP (ps.getD j []) : Int))), .c (.d (if 4294967295 < numN 0 (ps.getD j []) then .ifc else .nili))]) := by
    rw [zenv_pr]
    refine hX.prim _ _ _ ?_
    have e : ∀ x : List Nat, prim0 119 [.c (.d (.str x)), .c (.d (.int .i64 10)), .c (.d (.int .i64 32))] = if x.length < 281474976710656 then (if (x.all isDig && !x.isEmpty) = true then some (if numN 0 x ≤ 4294967295 then .tup [U64 (numN 0 x), .c (.d .nili)] else .tup [U64 4294967295, .c (.d .ifc)]) else none) else none := fun _ => rfl
    rw [e]
    unfold valP
    obtain ⟨d1, d2⟩ := decB_dig hp
    rw [if_pos (by omega), d1, d2, if_pos (by rfl)]
    by_cases hb : numN 0 (ps.getD j []) ≤ 4294967295
    · rw [if_pos hb, if_pos hb, if_neg (by omega)]
    · rw [if_neg hb, if_neg hb, if_pos (by omega)]; rfl
  rw [hp] at h2
  rw [hR, hA]
  clear hR
  unfold R94
  simp only [strV, bl] at h2
  have hw : IntKind.u32.wrap (valP (ps.getD j []) : Int) = (valP (ps.getD j []) : Int) := wrap_u32 hv
  have hset := fun hj16 : j < 16 => oC_set n (arrP ps j) (j := j) (v := valP (ps.getD j [])) (by rw [hlA]; exact hj16)
  have hlo : (oC (n, arrP ps j)).length = 17 := by simp [oC, oD, hlA]
  generalize valP (ps.getD j []) = v at *
  generalize largeP ps j = lg at *
  by_cases hb : 4294967295 < numN 0 (ps.getD j [])
  · rw [if_pos hb] at hpc
    rw [decide_eq_true hb]
    by_cases h16 : j < 16
    · have h16' : (j : Int) < 16 := by omega
      have hset := hset h16
      rw [if_pos h16]
      refine ⟨⟨[.any, .c (.ptr 0 0 0), .any, .any, .c (.ptr 1 0 0), bl (lg || true), i64 (j : Int), strV (ps.getD j []), .c (.d (.int .u64 (v : Int))), .c (.d .ifc), .any, .any, .c (.d (slS ps)), i64 (ps.length : Int), i64 ((j + 1 : Nat) : Int), bl true, bl false, bl true, .any, .any], [.cells zC 0 false, .cells (oC (n, (arrP ps j).set j v)) 0 false]⟩, ?_, gc_le (Nat.le_refl 2)⟩
      have h17 : 1 + j + 1 ≤ 17 := by omega
      cases lg <;>
        simp only [fn94L0, ob?, strV, h1, h2, h4, h5, h16, h16', h17, hpc, hw, hset, hlo, Bool.not_true, List.take, List.map_cons, List.map_nil, List.set_cons_zero, List.set_cons_succ, freeze_nil, reachV, reachC, ite_self, List.flatMap_cons, List.flatMap_nil, ↓sp_ixa, evs]
    · have h16' : ¬ (j : Int) < 16 := by omega
      rw [if_neg h16]
      refine ⟨⟨[.any, .c (.ptr 0 0 0), .any, .any, .c (.ptr 1 0 0), bl (lg || true), i64 (j : Int), strV (ps.getD j []), .c (.d (.int .u64 (v : Int))), .c (.d .ifc), .any, .any, .c (.d (slS ps)), i64 (ps.length : Int), i64 ((j + 1 : Nat) : Int), bl true, bl false, bl false, .any, .any], [.cells zC 0 false, .cells (oC (n, arrP ps j)) 0 false]⟩, ?_, gc_le (Nat.le_refl 2)⟩
      cases lg <;>
        simp only [fn94L0, strV, h1, h2, h4, h5, h16', hpc, Bool.not_true, List.take, List.map_cons, List.map_nil, freeze_nil, reachV, reachC, ite_self, List.flatMap_cons, List.flatMap_nil, ↓sp_ixa, evs]
  · rw [if_neg hb] at hpc
    rw [decide_eq_false hb]
    by_cases h16 : j < 16
    · have h16' : (j : Int) < 16 := by omega
      have hset := hset h16
      rw [if_pos h16]
      refine ⟨⟨[.any, .c (.ptr 0 0 0), .any, .any, .c (.ptr 1 0 0), bl (lg || false), i64 (j : Int), strV (ps.getD j []), .c (.d (.int .u64 (v : Int))), .c (.d .nili), .any, .any, .c (.d (slS ps)), i64 (ps.length : Int), i64 ((j + 1 : Nat) : Int), bl true, bl false, bl true, .any, .any], [.cells zC 0 false, .cells (oC (n, (arrP ps j).set j v)) 0 false]⟩, ?_, gc_le (Nat.le_refl 2)⟩
      have h17 : 1 + j + 1 ≤ 17 := by omega
      cases lg <;>
        simp only [fn94L0, ob?, strV, h1, h2, h4, h5, h16, h16', h17, hpc, hw, hset, hlo, Bool.not_true, List.take, List.map_cons, List.map_nil, List.set_cons_zero, List.set_cons_succ, freeze_nil, reachV, reachC, ite_self, List.flatMap_cons, List.flatMap_nil, ↓sp_ixa, evs]
    · have h16' : ¬ (j : Int) < 16 := by omega
      rw [if_neg h16]
      refine ⟨⟨[.any, .c (.ptr 0 0 0), .any, .any, .c (.ptr 1 0 0), bl (lg || false), i64 (j : Int), strV (ps.getD j []), .c (.d (.int .u64 (v : Int))), .c (.d .nili), .any, .any, .c (.d (slS ps)), i64 (ps.length : Int), i64 ((j + 1 : Nat) : Int), bl true, bl false, bl false, .any, .any], [.cells zC 0 false, .cells (oC (n, arrP ps j)) 0 false]⟩, ?_, gc_le (Nat.le_refl 2)⟩
      cases lg <;>
        simp only [fn94L0, strV, h1, h2, h4, h5, h16', hpc, Bool.not_true, List.take, List.map_cons, List.map_nil, freeze_nil, reachV, reachC, ite_self, List.flatMap_cons, List.flatMap_nil, ↓sp_ixa, evs]
theorem f94 (hX : XOk m X) {N : Nat} {s : List Nat} (hN : s.length + 60 ≤ N) (hs : s.length < 10000000) : vcallN X N 94 [strV s] = some (.tup [.agg (oC (parseO s).1), i64 ((parseO s).2 : Nat)]) := by
  obtain ⟨N, rfl⟩ : ∃ M, N = M + 1 := ⟨N - 1, by omega⟩
  have hF : fnsA 94 = some fn94' := rfl
  obtain ⟨hl1, hl2⟩ := splitN_len 46 s
  have hpc : (zenv X N).prim 92 [.c (.d (.str s)), .c (.d (.str [46]))] = some (.c (.d (slS (splitN 46 s)))) := by
    rw [zenv_pr]
    refine hX.prim _ _ _ ?_
    have e : ∀ x : List Nat, prim0 92 [.c (.d (.str x)), .c (.d (.str [46]))] = if x.length < 4294967281 then some (.c (.d (.sl ((splitN 46 x).map .str) (splitN 46 x).length))) else none := fun _ => rfl
    rw [e, if_pos (by omega)]
    rfl
  unfold parseO
  generalize hps : splitN 46 s = ps at *
  have h116 := hX.vc (k := 116) (F := fn116) rfl (f116 hX (N := N) (ps := ps) (by omega) (fun x hx => by have := hl2 x hx; omega) (by omega))
  have hlw := slS_len ps
  suffices h : ∃ H, callN X (N + 1) (.d (.fn 94 [] [])) [strV s] [] = some (.tup [.agg (oC (if ps.all decB = false then (o0, 6) else if 16 < ps.length then (o0, 3) else if largeP ps ps.length = true then (o0, 3) else if chkO (ps.length, arrP ps ps.length) ≠ 0 then (o0, chkO (ps.length, arrP ps ps.length)) else ((ps.length, arrP ps ps.length), 0)).1), i64 ((if ps.all decB = false then (o0, 6) else if 16 < ps.length then (o0, 3) else if largeP ps ps.length = true then (o0, 3) else if chkO (ps.length, arrP ps ps.length) ≠ 0 then (o0, chkO (ps.length, arrP ps ps.length)) else ((ps.length, arrP ps ps.length), 0)).2 : Nat)], H) by
    obtain ⟨H, h⟩ := h
    refine vcall_of h ?_
    simp only [deepV, mapO, deepV1, i64]
    rw [show ∀ (H : Heap) (o : Oid), mapO (deepC H deepMax) (oC o) = some (oD o) from fun H o => mapO_d H _ _]
    rfl
  rw [hX.fn hF]
  have hz0 : oC o0 = zC := rfl
  have hdp : ∀ H : Heap, deepC H deepMax (.d (slS ps)) = some (slS ps) := fun _ => rfl
  have hmem : ∀ j, j < ps.length → ps.getD j [] ∈ ps := fun j hj => by
    rw [List.getD_eq_getElem?_getD, List.getElem?_eq_getElem hj]
    exact List.getElem_mem hj
  have hwu : IntKind.u8.wrap (ps.length : Int) = ((ps.length % 256 : Nat) : Int) := by
    simp only [IntKind.wrap, IntKind.bits, IntKind.signed]
    simp
  have hsc := iter_find (js := some [1, 4, 5, 12, 13, 14]) (hl := 2) (body := exec (zenv X N) N false fn94L0) (fun j => decB (ps.getD j []) = false) ps.length (fun i => ⟨R94 ps i, [.cells zC 0 false, .cells (oC (ps.length % 256, arrP ps i)) 0 false]⟩) (b := 0) (s1 := ⟨[.any, .c (.ptr 0 0 0), .any, .any, .c (.ptr 1 0 0), bl (largeP ps ps.length), .any, .any, .any, .any, .any, .any, .c (.d (slS ps)), i64 (ps.length : Int), i64 (ps.length : Int), bl false, .any, .any, .any, .any], [.cells zC 0 false, .cells (oC (ps.length % 256, arrP ps ps.length)) 0 false]⟩) (Q := fun k s => ∃ o, nth s.regs 1 = .c (.ptr 0 0 0) ∧ nth s.regs 2 = i64 6 ∧ s.heap = [.cells zC 0 false, o]) (fuel := N) (by omega)
    (by
      intro j hj hp
      exact r94 hX (by omega) hj (by omega) (by have := hl2 _ (hmem j hj); omega) (by simpa using hp))
    (by simp only [fn94L0, R94, evs])
    (by
      intro j hj hp
      have h1 := slS_at ps hj
      have h2 := hX.vc (k := 118) (F := fn118) rfl (f118 hX (N := N) (by omega) (s := ps.getD j []) (by have := hl2 _ (hmem j hj); omega))
      have h4 : (j : Int) < (ps.length : Int) := by omega
      rw [hp] at h2
      simp only [strV, bl] at h2
      refine ⟨⟨[.any, .c (.ptr 0 0 0), i64 6, .any, .c (.ptr 1 0 0), bl (largeP ps j), i64 (j : Int), strV (ps.getD j []), .any, .any, .any, .any, .c (.d (slS ps)), i64 (ps.length : Int), i64 (j : Int), bl true, bl true, .any, .any, .any], [.cells zC 0 false, .cells (oC (ps.length % 256, arrP ps j)) 0 false]⟩, ?_, _, rfl, rfl, rfl⟩
      simp only [fn94L0, R94, ob?, strV, h1, h2, h4, lay, splice, Bool.not_false, List.take, List.drop, List.map_cons, List.map_nil, List.set_cons_zero, ↓sp_ixa, evs, Nat.reduceAdd, Nat.reduceLeDiff])
  simp only [i64, bl, R94, Int.natCast_zero] at hsc h116
  have hlay : lay [.d (.int .u8 0), .d (.int .u32 0), .d (.int .u32 0), .d (.int .u32 0), .d (.int .u32 0), .d (.int .u32 0), .d (.int .u32 0), .d (.int .u32 0), .d (.int .u32 0), .d (.int .u32 0), .d (.int .u32 0), .d (.int .u32 0), .d (.int .u32 0), .d (.int .u32 0), .d (.int .u32 0), .d (.int .u32 0), .d (.int .u32 0)] [(0, 1, .c (.d (.int .u8 ((ps.length % 256 : Nat) : Int))))] = some (oC (ps.length % 256, arrP ps 0)) := rfl
  have hlo0 : (oC (ps.length % 256, arrP ps 0)).length = 17 := rfl
  by_cases ca : ps.all decB = true
  · rw [ca] at h116
    rw [if_neg (by simp [ca])]
    simp only [Bool.not_true] at h116
    rcases hsc with ⟨hno, hit⟩ | ⟨k, s', hk, hp, hno, _, _⟩
    case inr =>
      exfalso
      rw [List.all_eq_true] at ca
      have := ca _ (hmem k hk)
      rw [hp] at this; cases this
    have h00 : largeP ps 0 = false := rfl
    rw [h00] at hit
    by_cases c16 : 16 < ps.length
    · rw [if_pos c16]
      have c16' : (ps.length : Int) > 16 := by omega
      refine ⟨[.cells zC 0 false], (rf_fin _ _ _ _ _ _ _ _ _ (by rfl)).trans ?_⟩
      simp only [ob?, strV, hpc, h116, hlw, hdp, c16', hz0, lay, splice, Bool.not_false, List.take, List.drop, List.map_cons, List.map_nil, List.set_cons_zero, freeze_nil, reachV, reachC, ite_self, List.flatMap_cons, List.flatMap_nil, Int.cast_ofNat_Int, ↓sp_len, evs, Nat.reduceAdd, Nat.reduceLeDiff, Nat.reduceSub]
    · have c16' : ¬ (ps.length : Int) > 16 := by omega
      rw [if_neg c16]
      have hm : ps.length % 256 = ps.length := Nat.mod_eq_of_lt (by omega)
      rw [hm] at hit hlay hwu hlo0
      cases hL : largeP ps ps.length
      · rw [hL] at hit
        rw [if_neg (by simp)]
        have hwf : wfO (ps.length, arrP ps ps.length) := ⟨by simp only; omega, arrP_len ps _, arrP_lt ps _⟩
        have h53 := hX.vc (k := 53) (F := fn53) rfl (chkO_ok (hX.fns _ _ rfl) hwf (N := N) (by omega))
        have hlo := oC_len hwf
        have hdD : mapO (deepC [Ob.cells zC 0 false, .cells (oC (ps.length, arrP ps ps.length)) 0 false] deepMax) (oC (ps.length, arrP ps ps.length)) = some (oD (ps.length, arrP ps ps.length)) := mapO_d _ _ _
        have hd : List.map C.d (oD (ps.length, arrP ps ps.length)) = oC (ps.length, arrP ps ps.length) := rfl
        have hsp : splice zC 0 (oC (ps.length, arrP ps ps.length)) = oC (ps.length, arrP ps ps.length) := by
          unfold splice
          rw [List.take_zero, List.nil_append, Nat.zero_add, hlo, List.drop_of_length_le (Nat.le_refl 17), List.append_nil]
        generalize (ps.length, arrP ps ps.length) = oo at *
        simp only [i64] at h53
        by_cases hck : chkO oo = 0
        · rw [if_neg (by rw [hck]; simp)]
          rw [hck] at h53
          refine ⟨[.cells (oC oo) 0 false, .cells (oC oo) 0 false], (rf_fin _ _ _ _ _ _ _ _ _ (by rfl)).trans ?_⟩
          simp only [ob?, strV, hpc, h116, hlw, hdp, c16', hwu, hlay, hlo0, hit, h53, hlo, hd, hdD, hsp, Bool.not_false, List.drop_zero, List.take_of_length_le (Nat.le_of_eq hlo), List.map_cons, List.map_nil, List.set_cons_zero, freeze_nil, reachV, reachC, ite_self, List.flatMap_cons, List.flatMap_nil, Int.cast_ofNat_Int, ↓sp_len, evs, Nat.reduceAdd, Nat.reduceLeDiff, Nat.reduceBEq, Nat.reduceSub]
        · rw [if_pos hck]
          have g1 : ((chkO oo : Int) != 0) = true := by rw [bne_iff_ne]; omega
          refine ⟨[.cells zC 0 false, .cells (oC oo) 0 false], (rf_fin _ _ _ _ _ _ _ _ _ (by rfl)).trans ?_⟩
          simp only [ob?, strV, hpc, h116, hlw, hdp, c16', hz0, hwu, hlay, hlo0, hit, h53, g1, hlo, hd, hdD, lay, splice, Bool.not_false, List.take, List.drop, List.take_of_length_le (Nat.le_of_eq hlo), List.map_cons, List.map_nil, List.set_cons_zero, freeze_nil, reachV, reachC, ite_self, List.flatMap_cons, List.flatMap_nil, ↓sp_len, evs, Nat.reduceAdd, Nat.reduceLeDiff, Nat.reduceBEq, Nat.reduceSub]
      · rw [hL] at hit
        rw [if_pos rfl]
        refine ⟨[.cells zC 0 false, .cells (oC (ps.length, arrP ps ps.length)) 0 false], (rf_fin _ _ _ _ _ _ _ _ _ (by rfl)).trans ?_⟩
        simp only [ob?, strV, hpc, h116, hlw, hdp, c16', hz0, hwu, hlay, hlo0, hit, lay, splice, Bool.not_false, List.take, List.drop, List.map_cons, List.map_nil, List.set_cons_zero, freeze_nil, reachV, reachC, ite_self, List.flatMap_cons, List.flatMap_nil, Int.cast_ofNat_Int, ↓sp_len, evs, Nat.reduceAdd, Nat.reduceLeDiff, Nat.reduceBEq, Nat.reduceSub]
  · have ca : ps.all decB = false := by simpa using ca
    rw [ca] at h116
    rw [if_pos ca]
    simp only [Bool.not_false] at h116
    rcases hsc with ⟨hno, hit⟩ | ⟨k, s', hk, hp, hno, ⟨o, hq1, hq2, hqh⟩, hit⟩
    · exfalso
      rw [List.all_eq_false] at ca
      obtain ⟨x, hx, hxb⟩ := ca
      obtain ⟨i, hi, rfl⟩ := List.getElem_of_mem hx
      have := hno i hi
      rw [List.getD_eq_getElem?_getD, List.getElem?_eq_getElem hi, Option.getD_some] at this
      exact this (by simpa using hxb)
    · obtain ⟨r, H⟩ := s'
      simp only at hq1 hq2 hqh
      subst hqh
      have h00 : largeP ps 0 = false := rfl
      rw [h00] at hit
      refine ⟨[.cells zC 0 false, o], (rf_fin _ _ _ _ _ _ _ _ _ (by rfl)).trans ?_⟩
      simp only [ob?, strV, hpc, h116, hlw, hdp, hz0, hwu, hlay, hlo0, hit, hq1, hq2, Bool.not_true, List.take, List.drop, List.map_cons, List.map_nil, freeze_nil, reachV, reachC, ite_self, List.flatMap_cons, List.flatMap_nil, Int.cast_ofNat_Int, ↓sp_len, evs, Nat.reduceAdd, Nat.reduceBEq, Nat.reduceSub]
end Mini
end Go.Proofs.YtgjlofpfbhioaaaGreatDoor
namespace Go.Proofs.YtgjlofpfbhioaaaGreatDoor
namespace Mini
open Go
variable {m : Int} {X : Ctx}
theorem callN_fnc {X : Ctx} {n : Nat} {f : FuncId} {F : Fn} {first caps : List C} {args : List V} {H : Heap} (h : X.fns f = some F) : callN X (n + 1) (.fn f first caps) args H = runFn (zenv X n) n F (first.map .c ++ args ++ caps.map .c) H := by
  have : callN X (n + 1) (.fn f first caps) args H = match X.fns f with
      | some F => runFn (zenv X n) n F (first.map .c ++ args ++ caps.map .c) H
      | none => X.hprim f (first.map .c ++ args ++ caps.map .c) H := rfl
  rw [this, h]
theorem f62c (hX : XOk m X) {N : Nat} (hN : 1 ≤ N) {H : Heap} {id k : Nat} (hk : k < 3) : callN X N (.fn 62 [.ptr id 0 0] []) [i64 (k : Int)] H = some (.c (.ptr id 0 (2 + k)), H) := by
  have h := f62 hX hN (H := H) (id := id) hk
  obtain ⟨N, rfl⟩ : ∃ M, N = M + 1 := ⟨N - 1, by omega⟩
  rw [hX.fn (F := fn62) rfl] at h
  rw [callN_fnc (hX.fns 62 fn62 rfl)]
  exact h
def opt1 (k : Nat) : List (List Nat) → Bool × List (List Nat)
  | [] => (false, [])
  | x :: t => if x = wordK k then (true, t) else (false, x :: t)
def restP (ps : List (List Nat)) : Nat → List (List Nat)
  | 0 => ps
  | k + 1 => (opt1 k (restP ps k)).2
def flgP (ps : List (List Nat)) (k : Nat) : Bool := (opt1 k (restP ps k)).1
theorem restP_len (ps : List (List Nat)) : ∀ k, (restP ps k).length ≤ ps.length
  | 0 => Nat.le_refl _
  | k + 1 => by
    have := restP_len ps k
    unfold restP
    generalize restP ps k = q at *
    cases q with
    | nil => exact this
    | cons x t =>
      simp only [opt1]
      split
      · simp only [List.length_cons] at this; simp only; omega
      · exact this
def anK (s : List Nat) (c : C) (e nm na : Bool) : List C := [.d (.str s), c, .d (.bool e), .d (.bool nm), .d (.bool na)]
def anP (s : List Nat) (c : C) (ps : List (List Nat)) (k : Nat) : List C := anK s c (decide (0 < k) && flgP ps 0) (decide (1 < k) && flgP ps 1) (decide (2 < k) && flgP ps 2)
theorem anP_len (s : List Nat) (c : C) (ps : List (List Nat)) (k : Nat) : (anP s c ps k).length = 5 := rfl
theorem anP_set {s : List Nat} {c : C} {ps : List (List Nat)} {k : Nat} (hk : k < 3) (hf : flgP ps k = true) : splice (anP s c ps k) (2 + k) [.d (.bool true)] = anP s c ps (k + 1) := by
  have : k = 0 ∨ k = 1 ∨ k = 2 := by omega
  rcases this with rfl | rfl | rfl <;> simp [anP, anK, splice, hf]
theorem anP_no {s : List Nat} {c : C} {ps : List (List Nat)} {k : Nat} (hk : k < 3) (hf : flgP ps k = false) : anP s c ps k = anP s c ps (k + 1) := by
  have : k = 0 ∨ k = 1 ∨ k = 2 := by omega
  rcases this with rfl | rfl | rfl <;> simp [anP, anK, hf]
theorem slS_tail (x : List Nat) (t : List (List Nat)) : (((t.length + 1) - 1) : Nat) = t.length ∧ (((D.str x :: t.map D.str).drop (1 * 1)).take ((t.length + 1 - 1) * 1)) = t.map D.str := by
  refine ⟨rfl, ?_⟩
  simp only [List.drop_succ_cons, List.drop_zero, Nat.add_sub_cancel, Nat.mul_one]
  exact List.take_of_length_le (by simp)
abbrev R95 (ps : List (List Nat)) (ia k : Nat) : List V := [.c (.d (slS (restP ps k))), .c (.fn 62 [.ptr ia 0 0] []), .any, .any, .any, .agg wordsC3, i64 (k : Int), .any, .any]
theorem r95 (hX : XOk m X) {N : Nat} (hN : 10 ≤ N) {ps : List (List Nat)} {H : Heap} {ia k : Nat} {s : List Nat} {c : C} (hk : k < 3) (hia : ia < H.length) :
    ∃ s', exec (zenv X N) N false fn95L0 ⟨R95 ps ia k, H.set ia (.cells (anP s c ps k) 0 false)⟩ = some (.nrm, s') ∧ tidy H.length (some [0, 1, 5, 6]) s' = ⟨R95 ps ia (k + 1), H.set ia (.cells (anP s c ps (k + 1)) 0 false)⟩ := by
  have h62 := f62c hX (N := N) (by omega) (H := H.set ia (.cells (anP s c ps k) 0 false)) (id := ia) hk
  have h5 := wrap_succ (k := k) (by omega)
  have hkk : (k : Int) < 3 := by omega
  have hx : (wordsC3.drop k).take 1 = [.d (.str (wordK k))] := by
    have : k = 0 ∨ k = 1 ∨ k = 2 := by omega
    rcases this with rfl | rfl | rfl <;> rfl
  have e1 : (H.set ia (.cells (anP s c ps k) 0 false))[ia]? = some (.cells (anP s c ps k) 0 false) := List.getElem?_set_self hia
  have hs := fun hf => anP_set (s := s) (c := c) (ps := ps) hk hf
  have hn := fun hf => anP_no (s := s) (c := c) (ps := ps) hk hf
  have hlp := anP_len s c ps k
  have hR : restP ps (k + 1) = (opt1 k (restP ps k)).2 := rfl
  have hF : flgP ps k = (opt1 k (restP ps k)).1 := rfl
  have h25 : 2 + k + 1 ≤ 5 := by omega
  simp only [wordsC3] at hx
  simp only [i64] at h62
  unfold R95
  rw [hR]
  generalize restP ps k = q at *
  cases q with
  | nil =>
    have hf : flgP ps k = false := hF
    rw [← hn hf]
    have hl0 : lenc (.c (.d (slS []))) = some (.c (.d (.int .i64 0)), []) := rfl
    refine ⟨⟨[.c (.d (slS [])), .c (.fn 62 [.ptr ia 0 0] []), .any, i64 (k : Int), strV (wordK k), .agg wordsC3, i64 ((k + 1 : Nat) : Int), bl true, bl false], H.set ia (.cells (anP s c ps k) 0 false)⟩, ?_, ?_⟩
    · simp only [fn95L0, strV, h5, hk, hkk, hx, hl0, ↓sp_len, evs]
    · exact gc_le (by simp)
  | cons x t =>
    have hl0 : lenc (.c (.d (slS (x :: t)))) = some (.c (.d (.int .i64 ((t.length + 1 : Nat) : Int))), []) := rfl
    have hp : ((t.length + 1 : Nat) : Int) > 0 := by omega
    have hat : ixac 1 0 (.c (.d (slS (x :: t)))) = some (.c (.d (.ip (.str x :: t.map D.str))), []) := slS_at (x :: t) (i := 0) (by simp)
    by_cases hw : x = wordK k
    · have hO : opt1 k (x :: t) = (true, t) := by simp only [opt1, if_pos hw]
      have hf : flgP ps k = true := by rw [hF, hO]
      have hs := hs hf
      rw [hO]
      have hq : (x == wordK k) = true := by rw [beqS]; exact decide_eq_true hw
      have hsl : slS (x :: t) = .sl (.str x :: t.map D.str) (t.length + 1) := rfl
      obtain ⟨t1, t2⟩ := slS_tail x t
      have t3 : 1 ≤ t.length + 1 ∧ t.length + 1 ≤ t.length + 1 ∧ t.length + 1 ≤ t.length + 1 ∧ (D.str x :: t.map D.str).length = (t.length + 1) * 1 := by simp
      have t4 : D.sl (t.map D.str) t.length = slS t := rfl
      have t5 : 0 < t.length + 1 := Nat.succ_pos _
      have t6 : (t.map D.str).take t.length = t.map D.str := List.take_of_length_le (by simp)
      simp only [Nat.mul_one] at t2 t3
      refine ⟨⟨[.c (.d (slS t)), .c (.fn 62 [.ptr ia 0 0] []), .any, i64 (k : Int), strV (wordK k), .agg wordsC3, i64 ((k + 1 : Nat) : Int), bl true, bl true], H.set ia (.cells (anP s c ps (k + 1)) 0 false)⟩, ?_, ?_⟩
      · simp only [hsl] at hl0 hat ⊢
        simp only [fn95L0, strV, binStr, optNat, h5, h62, hk, hkk, hx, hl0, hp, hq, e1, hs, hlp, h25, t1, t3, t4, t5, t6, Option.map_none, List.set_set, List.take, List.drop, List.map_cons, List.map_nil, ↓sp_len, ↓sp_ixa, evs]
      · exact gc_le (by simp)
    · have hO : opt1 k (x :: t) = (false, x :: t) := by simp only [opt1, if_neg hw]
      have hf : flgP ps k = false := by rw [hF, hO]
      rw [← hn hf, hO]
      have hq : (x == wordK k) = false := by rw [beqS]; exact decide_eq_false hw
      refine ⟨⟨[.c (.d (slS (x :: t))), .c (.fn 62 [.ptr ia 0 0] []), .any, i64 (k : Int), strV (wordK k), .agg wordsC3, i64 ((k + 1 : Nat) : Int), bl true, bl false], H.set ia (.cells (anP s c ps k) 0 false)⟩, ?_, ?_⟩
      · simp only [fn95L0, strV, binStr, h5, hk, hkk, hx, hl0, hp, hat, hq, List.take, List.map_cons, List.map_nil, ↓sp_len, ↓sp_ixa, evs]
      · exact gc_le (by simp)
theorem f95 (hX : XOk m X) {N : Nat} (hN : 20 ≤ N) {ps : List (List Nat)} {H : Heap} {ia : Nat} {s : List Nat} {c : C} (ha : H[ia]? = some (.cells (anK s c false false false) 0 false)) :
    callN X N (.d (.fn 95 [] [])) [.c (.d (slS ps)), .c (.fn 62 [.ptr ia 0 0] [])] H = some (bl (decide (restP ps 3 = [])), H.set ia (.cells (anK s c (flgP ps 0) (flgP ps 1) (flgP ps 2)) 0 false)) := by
  obtain ⟨N, rfl⟩ : ∃ M, N = M + 1 := ⟨N - 1, by omega⟩
  have hF : fnsA 95 = some fn95' := rfl
  have hia := some_lt ha
  have hg : (zenv X N).glob 0 = some wordsD := by
    show X.glob 0 = _
    rw [CtxLe.glob (X := XA m) hX]; rfl
  rw [hX.fn hF]
  have h00 : anP s c ps 0 = anK s c false false false := rfl
  have h33 : anP s c ps 3 = anK s c (flgP ps 0) (flgP ps 1) (flgP ps 2) := by simp [anP]
  have hH : H.set ia (.cells (anP s c ps 0) 0 false) = H := by rw [h00]; exact set_same ha
  have hit := iter_to (js := some [0, 1, 5, 6]) (hl := H.length) (body := exec (zenv X N) N false fn95L0) (fun k => ⟨R95 ps ia k, H.set ia (.cells (anP s c ps k) 0 false)⟩) (e := .exit 0) (s := ⟨[.c (.d (slS (restP ps 3))), .c (.fn 62 [.ptr ia 0 0] []), .any, .any, .any, .agg wordsC3, i64 3, bl false, .any], H.set ia (.cells (anP s c ps 3) 0 false)⟩) (by simp) 3 0 N (fun j _ hj => r95 hX (by omega) (by omega) hia)
    (by
      have h9 : ¬ ((3 : Nat) : Int) < 3 := by omega
      simp only [fn95L0, R95, Int.cast_ofNat_Int, evs]) (by omega)
  rw [hH, h33] at hit
  have hl3 : lenc (.c (.d (slS (restP ps 3)))) = some (.c (.d (.int .i64 ((restP ps 3).length : Int))), []) := rfl
  have hq : (((restP ps 3).length : Int) == 0) = decide (restP ps 3 = []) := by
    rw [Bool.eq_iff_iff, beq_iff_eq, decide_eq_true_eq]
    constructor
    · intro h; exact List.length_eq_zero_iff.1 (by omega)
    · intro h; rw [h]; rfl
  have h0 : restP ps 0 = ps := rfl
  simp only [R95, i64, bl, wordsC3, wExp, wMap, wAny, h0, Int.natCast_zero] at hit
  refine (rf_fin _ _ _ _ _ _ _ _ _ (by rfl)).trans ?_
  generalize restP ps 3 = q at *
  simp only [wordsD, hg, hit, hl3, hq, List.take, List.map_cons, List.map_nil, ↓sp_len, evs, Nat.reduceAdd, Nat.reduceBEq, Nat.reduceSub]
end Mini
end Go.Proofs.YtgjlofpfbhioaaaGreatDoor
namespace Go.Proofs.YtgjlofpfbhioaaaGreatDoor
namespace Mini
open Go
variable {m : Int} {X : Ctx}
def fn66A : I := .reg false [⟨none, .mov (.r 11)⟩] [(5, 0)] []

def fn66B : I := .block 1 (
  .seq (.reg false [⟨none, .mov (.r 5)⟩,
    ⟨none, .vc 94 [(.l 0)]⟩,
    ⟨none, .mov (.l 0)⟩,
    ⟨none, .ext (.l 0) 0⟩,
    ⟨none, .ext (.l 1) 1⟩,
    ⟨none, .pre⟩,
    ⟨none, .ini 17 (.l 2)⟩,
    ⟨none, .mov (.l 2)⟩] [(6, 1), (7, 0)] []) (
  .seq (.seq (.reg false [⟨none, .mov (.r 7)⟩,
    ⟨none, .bin .neq (.l 0) (.v (.c (.d (.int .i64 0))))⟩] [(12, 0)] []) (
  .cond (.r 12) (
  .seq (.reg false [⟨none, .bld [.str [], .nils, .bool false, .bool false, .bool false] []⟩,
    ⟨none, .st 5 (.r 1) (.l 0)⟩,
    ⟨none, .st 1 (.r 2) (.v (.c (.d (.bool false))))⟩] [] []) (
  .ret)) (
  .skip))) (
  .reg false [⟨none, .fa 1 (.r 4)⟩,
    ⟨none, .ld false 1 (.l 0)⟩,
    ⟨none, .ld true 17 (.r 6)⟩,
    ⟨none, .bsl 1 17 [.int .u8 0, .int .u32 0, .int .u32 0, .int .u32 0, .int .u32 0, .int .u32 0, .int .u32 0, .int .u32 0, .int .u32 0, .int .u32 0, .int .u32 0, .int .u32 0, .int .u32 0, .int .u32 0, .int .u32 0, .int .u32 0, .int .u32 0] [(0, 17, (.l 0))]⟩,
    ⟨none, .app 17 (.l 2) (.l 0)⟩,
    ⟨none, .fa 1 (.r 4)⟩,
    ⟨none, .st 1 (.l 0) (.l 1)⟩] [] [])))

def fn66'' : Fn := ⟨1, 13, [0, 2, 3, 4, 5, 6, 7, 8, 9, 20, 29, 30, 37], [.cell 1 5 true, .cell 2 1 false],
  .seq (.reg false [⟨none, .new [.str [], .nils, .bool false, .bool false, .bool false]⟩,
    ⟨none, .new [.bool false]⟩] [(1, 1), (2, 0)] []) (
  .seq (.reg false [⟨none, .mov (.r 0)⟩,
    ⟨none, .pc 92 [(.l 0), (.v (.c (.d (.str [32]))))]⟩,
    ⟨none, .mov (.l 0)⟩] [(3, 0)] []) (
  .seq (.seq (.reg false [⟨none, .mov (.r 3)⟩,
    ⟨none, .len (.l 0)⟩,
    ⟨none, .bin .lss (.l 0) (.v (.c (.d (.int .i64 3))))⟩,
    ⟨none, .mov (.l 0)⟩,
    ⟨some (0, false), .mov (.r 3)⟩,
    ⟨some (1, false), .ixa 1 (.l 0) (.v (.c (.d (.int .i64 0))))⟩,
    ⟨some (2, false), .ld false 1 (.l 0)⟩,
    ⟨some (3, false), .bin .neq (.l 0) (.v (.c (.d (.str [97, 110, 99, 104, 111, 114]))))⟩,
    ⟨none, .pick (.l 4) (.v (.c (.d (.bool true)))) (.l 0)⟩] [(9, 0)] []) (
  .cond (.r 9) (
  .seq (.reg false [⟨none, .bld [.str [], .nils, .bool false, .bool false, .bool false] []⟩,
    ⟨none, .st 5 (.r 1) (.l 0)⟩,
    ⟨none, .st 1 (.r 2) (.v (.c (.d (.bool false))))⟩] [] []) (
  .ret)) (
  .skip))) (
  .seq (.reg false [⟨none, .mov (.r 3)⟩,
    ⟨none, .ixa 1 (.l 0) (.v (.c (.d (.int .i64 1))))⟩,
    ⟨none, .ld false 1 (.l 0)⟩,
    ⟨none, .bld [.str [], .nils, .bool false, .bool false, .bool false] [(0, 1, (.l 0))]⟩,
    ⟨none, .pre⟩,
    ⟨none, .ini 5 (.l 1)⟩] [(4, 0)] []) (
  .seq (.seq (.reg false [⟨none, .mov (.r 3)⟩,
    ⟨none, .ixa 1 (.l 0) (.v (.c (.d (.int .i64 2))))⟩,
    ⟨none, .ld false 1 (.l 0)⟩,
    ⟨none, .hc (.v (.c (.d (.fn 93 [] [])))) [(.l 0), (.v (.c (.d (.str [44]))))]⟩] [(10, 0)] []) (
  .block 0 (
  .seq (.fresh 4 (some 1) 17) (
  .rf (.r 10) [11] fn66A fn66B)))) (
  .seq (.reg false [⟨none, .mov (.r 3)⟩,
    ⟨none, .slc 1 (.l 0) (some (.v (.c (.d (.int .i64 3))))) none none⟩,
    ⟨none, .mkf 62 [(.r 4)] []⟩,
    ⟨none, .hc (.v (.c (.d (.fn 95 [] [])))) [(.l 1), (.l 0)]⟩,
    ⟨none, .mov (.l 0)⟩] [(8, 0)] []) (
  .seq (.reg false [⟨none, .ld true 5 (.r 4)⟩,
    ⟨none, .mov (.r 8)⟩,
    ⟨none, .st 5 (.r 1) (.l 1)⟩,
    ⟨none, .st 1 (.r 2) (.l 1)⟩] [] []) (
  .ret)))))))⟩
theorem fn66_is2 : fn66 = fn66'' := rfl
/-! ### Parts between a byte, one after the other -/
theorem idx_none {c : Nat} : ∀ {s : List Nat}, idxN c s = none → splitN c s = [s]
  | [], _ => rfl
  | x :: s, h => by
    unfold idxN at h
    split at h
    · cases h
    · rename_i hx
      cases hi : idxN c s with
      | none => rw [splitN, if_neg hx, idx_none hi]
      | some k => rw [hi] at h; cases h
theorem idx_some {c : Nat} : ∀ {s : List Nat} {k : Nat}, idxN c s = some k → k < s.length ∧ splitN c s = s.take k :: splitN c (s.drop (k + 1))
  | [], _, h => by cases h
  | x :: s, k, h => by
    unfold idxN at h
    split at h
    · rename_i hx
      cases h
      exact ⟨by simp, by rw [splitN, if_pos hx]; rfl⟩
    · rename_i hx
      cases hi : idxN c s with
      | none => rw [hi] at h; cases h
      | some i =>
        rw [hi] at h
        obtain ⟨h1, h2⟩ := idx_some hi
        simp only [Option.some.injEq] at h
        subst h
        refine ⟨by simp only [List.length_cons]; omega, ?_⟩
        rw [splitN, if_neg hx, h2]
        rfl
def restN (c : Nat) (s : List Nat) : Nat → List Nat
  | 0 => s
  | j + 1 => match idxN c (restN c s j) with
    | some i => (restN c s j).drop (i + 1)
    | none => []
theorem restN_len (c : Nat) (s : List Nat) : ∀ j, (restN c s j).length ≤ s.length
  | 0 => Nat.le_refl _
  | j + 1 => by
    have := restN_len c s j
    unfold restN
    split
    · rw [List.length_drop]; omega
    · simp
theorem restN_split (c : Nat) (s : List Nat) : ∀ j, j < (splitN c s).length → splitN c (restN c s j) = (splitN c s).drop j
  | 0, _ => by simp [restN]
  | j + 1, h => by
    have ih := restN_split c s j (by omega)
    cases hi : idxN c (restN c s j) with
    | none =>
      rw [idx_none hi] at ih
      have := congrArg List.length ih
      rw [List.length_drop] at this
      simp only [List.length_cons, List.length_nil] at this
      omega
    | some i =>
      obtain ⟨_, h2⟩ := idx_some hi
      rw [restN, hi]
      simp only
      rw [h2] at ih
      rw [show (splitN c s).drop (j + 1) = ((splitN c s).drop j).drop 1 by rw [List.drop_drop], ← ih]
      rfl
/-- A round's part; whether it is the last. -/
theorem restN_round (c : Nat) (s : List Nat) (j : Nat) (h : j + 1 < (splitN c s).length) : ∃ i, idxN c (restN c s j) = some i ∧ i < (restN c s j).length ∧ (restN c s j).take i = (splitN c s).getD j [] ∧ (restN c s j).drop (i + 1) = restN c s (j + 1) := by
  have hs := restN_split c s j (by omega)
  cases hi : idxN c (restN c s j) with
  | none =>
    rw [idx_none hi] at hs
    have := congrArg List.length hs
    rw [List.length_drop] at this
    simp only [List.length_cons, List.length_nil] at this
    omega
  | some i =>
    obtain ⟨h1, h2⟩ := idx_some hi
    refine ⟨i, rfl, h1, ?_, by rw [restN, hi]⟩
    rw [h2] at hs
    have : ((splitN c s).drop j)[0]? = some ((restN c s j).take i) := by rw [← hs]; rfl
    rw [List.getElem?_drop, Nat.add_zero] at this
    rw [List.getD_eq_getElem?_getD, this]; rfl
theorem restN_last (c : Nat) (s : List Nat) : idxN c (restN c s ((splitN c s).length - 1)) = none ∧ restN c s ((splitN c s).length - 1) = (splitN c s).getD ((splitN c s).length - 1) [] := by
  have hp : 0 < (splitN c s).length := by
    rcases Nat.eq_zero_or_pos (splitN c s).length with h | h
    · exact absurd (List.length_eq_zero_iff.1 h) (splitN_neq c s)
    · exact h
  have hs := restN_split c s ((splitN c s).length - 1) (by omega)
  cases hi : idxN c (restN c s ((splitN c s).length - 1)) with
  | none =>
    refine ⟨rfl, ?_⟩
    rw [idx_none hi] at hs
    have : ((splitN c s).drop ((splitN c s).length - 1))[0]? = some (restN c s ((splitN c s).length - 1)) := by rw [← hs]; rfl
    rw [List.getElem?_drop, Nat.add_zero] at this
    rw [List.getD_eq_getElem?_getD, this]; rfl
  | some i =>
    obtain ⟨_, h2⟩ := idx_some hi
    rw [h2] at hs
    have := congrArg List.length hs
    have hq : 0 < (splitN c ((restN c s ((splitN c s).length - 1)).drop (i + 1))).length := by
      rcases Nat.eq_zero_or_pos (splitN c ((restN c s ((splitN c s).length - 1)).drop (i + 1))).length with h | h
      · exact absurd (List.length_eq_zero_iff.1 h) (splitN_neq c _)
      · exact h
    rw [List.length_cons, List.length_drop] at this
    omega
/-! ### The heap of 'read' -/
theorem callN_yld {n id : Nat} {v : V} {H : Heap} {regs regs1 regs2 : List V} {p : Nat} {ps1 ps2 : List Nat} {asg body asg1 body1 asg2 body2 : I} {s1 s2 : St} {e : Ex} (ho : H[id]? = some (.loop true none regs [p] asg body))
    (h1 : exec (zenv X n) n true asg ⟨put regs p v, H⟩ = some (.nrm, s1)) (ho1 : s1.heap[id]? = some (.loop true none regs1 ps1 asg1 body1))
    (h2 : exec (zenv X n) n true body ⟨s1.regs, s1.heap.set id (.loop false none regs1 ps1 asg1 body1)⟩ = some (e, s2)) (ho2 : s2.heap[id]? = some (.loop false none regs2 ps2 asg2 body2)) :
    callN X (n + 1) (.yld id) [v] H = some (.c (.d (.bool (e == .nrm))), s2.heap.set id (.loop (e == .nrm) (if e == .nrm then none else some e) regs2 ps2 asg2 body2)) := by
  have : callN X (n + 1) (.yld id) [v] H = match ob? H id with
      | some (.loop true none regs ps asg body) =>
        if [v].length = ps.length then
          match exec (zenv X n) n true asg ⟨putAll regs ps [v], H⟩ with
          | some (.nrm, s) =>
            match ob? s.heap id with
            | some (.loop true none regs1 ps1 asg1 body1) =>
              match exec (zenv X n) n true body ⟨s.regs, setOb s.heap id (.loop false none regs1 ps1 asg1 body1)⟩ with
              | some (e, s') =>
                match ob? s'.heap id with
                | some (.loop false none regs2 ps2 asg2 body2) =>
                  some (.c (.d (.bool (e == .nrm))), setOb s'.heap id (.loop (e == .nrm) (if e == .nrm then none else some e) regs2 ps2 asg2 body2))
                | _ => none
              | none => none
            | _ => none
          | _ => none
        else none
      | _ => none := rfl
  rw [this, ob_eq, ho]
  simp only [List.length_cons, List.length_nil, if_true, putAll, h1, ob_eq, ho1, setOb_eq, h2, ho2]
/-- The parts that have been read. -/
def osP (ps : List (List Nat)) (j : Nat) : List Oid := (ps.take j).map fun x => (parseO x).1
theorem osP_succ (ps : List (List Nat)) {j : Nat} (h : j < ps.length) : osP ps (j + 1) = osP ps j ++ [(parseO (ps.getD j [])).1] := by
  have hx : ps[j]? = some (ps.getD j []) := by rw [List.getD_eq_getElem?_getD, List.getElem?_eq_getElem h]; rfl
  unfold osP
  rw [List.take_add_one, hx, Option.toList_some, List.map_append]
  rfl
theorem osP_len (ps : List (List Nat)) {j : Nat} (h : j ≤ ps.length) : (osP ps j).length = j := by
  simp [osP]; omega
theorem parseO_wf (s : List Nat) : wfO (parseO s).1 := by
  have h0 : wfO o0 := by unfold wfO o0; decide
  unfold parseO
  split
  · exact h0
  split
  · exact h0
  rename_i h1 h2
  split
  · exact h0
  split
  · exact h0
  · exact ⟨by simp only; omega, arrP_len _ _, arrP_lt _ _⟩
theorem osP_wf (ps : List (List Nat)) (j : Nat) : wfS (osP ps j) := fun o ho => by
  obtain ⟨x, _, rfl⟩ := List.mem_map.1 ho
  exact parseO_wf x
abbrev fnS : C := .fn 148 [] [.ptr 4 0 0, .ptr 3 0 0, .ptr 5 0 0]
abbrev regs66 (s : List Nat) (q : List (List Nat)) : List V := [strV s, .c (.ptr 0 0 0), .c (.ptr 1 0 0), .c (.d (slS q)), .c (.ptr 2 0 0), .any, .any, .any, .any, bl false, .c fnS, .any, .any]
/-- The heap while the parts are read: before the part j. -/
def hp66 (s : List Nat) (q : List (List Nat)) (name : List Nat) (ps : List (List Nat)) (r : List Nat) (j : Nat) (t : Bool) : Heap := [.cells zA 0 false, .cells [.d (.bool false)] 0 false, .cells (anK name (.os 6 j 0 j 17 none) false false false) 0 false, .cells [.d (.str r)] 0 false, .cells [.d (.str [44])] 0 false, .cells [.d (.int .i64 0)] 0 false, .cells (flC (osP ps j)) j false, .loop t none (regs66 s q) [11] fn66A fn66B]
theorem yl66 (hX : XOk m X) {N : Nat} {s : List Nat} {q : List (List Nat)} {name r : List Nat} {ps : List (List Nat)} {j : Nat} (hN : (ps.getD j []).length + 70 ≤ N) (hj : j < ps.length) (hl : (ps.getD j []).length < 1000000) (hj2 : j + 1 < 900000) (hp : (parseO (ps.getD j [])).2 = 0) :
    ∃ t, callN X N (.yld 7) [strV (ps.getD j [])] (hp66 s q name ps r j true) = some (bl true, hp66 s q name ps r (j + 1) true ++ t) := by
  obtain ⟨N, rfl⟩ : ∃ M, N = M + 1 := ⟨N - 1, by omega⟩
  have h94 := hX.vc (k := 94) (F := fn94) rfl (f94 hX (N := N) (s := ps.getD j []) (by omega) (by omega))
  have hwf := parseO_wf (ps.getD j [])
  have hos := osP_succ ps hj
  have hlo := osP_len ps (j := j) (by omega)
  have hfl := flC_len (osP_wf ps j)
  rw [hlo] at hfl
  rw [hp] at h94
  unfold hp66
  rw [hos]
  generalize (parseO (ps.getD j [])).1 = o at *
  generalize osP ps j = l at *
  generalize ps.getD j [] = x at *
  have h6 := oC_len hwf
  have hd : ∀ o : Oid, List.map C.d (oD o) = oC o := fun _ => rfl
  have hap : flC (l ++ [o]) = flC l ++ oC o := by rw [flC_app, flC_one]
  have htk : (flC l).take (j * 17) = flC l := List.take_of_length_le (by omega)
  have hl1 := lay1 hwf
  have k1 : j + 1 ≤ 1073741824 := by omega
  have k2 : j + 1 < genK := by show j + 1 < 1000000; omega
  have hfo := oC_flat o
  rw [hap]
  simp only [strV, i64, Int.natCast_zero] at h94
  refine ⟨[.cells (oC o) 0 false, .cells (oC o) 0 false], ?_⟩
  refine (callN_yld (X := X) (n := N) (id := 7) (p := 11) (regs := regs66 s q) (regs1 := regs66 s q) (regs2 := regs66 s q) (ps1 := [11]) (ps2 := [11]) (asg := fn66A) (body := fn66B) (asg1 := fn66A) (body1 := fn66B) (asg2 := fn66A) (body2 := fn66B) (s1 := ⟨[strV s, .c (.ptr 0 0 0), .c (.ptr 1 0 0), .c (.d (slS q)), .c (.ptr 2 0 0), strV x, .any, .any, .any, bl false, .c fnS, strV x, .any], [.cells zA 0 false, .cells [.d (.bool false)] 0 false, .cells (anK name (.os 6 j 0 j 17 none) false false false) 0 false, .cells [.d (.str r)] 0 false, .cells [.d (.str [44])] 0 false, .cells [.d (.int .i64 0)] 0 false, .cells (flC l) j false, .loop true none (regs66 s q) [11] fn66A fn66B]⟩)
    (s2 := ⟨[strV s, .c (.ptr 0 0 0), .c (.ptr 1 0 0), .c (.d (slS q)), .c (.ptr 2 0 0), strV x, .c (.ptr 8 0 0), i64 0, .any, bl false, .c fnS, strV x, bl false], [.cells zA 0 false, .cells [.d (.bool false)] 0 false, .cells (anK name (.os 6 (j + 1) 0 (j + 1) 17 none) false false false) 0 false, .cells [.d (.str r)] 0 false, .cells [.d (.str [44])] 0 false, .cells [.d (.int .i64 0)] 0 false, .cells (flC l ++ oC o) (j + 1) false, .loop false none (regs66 s q) [11] fn66A fn66B, .cells (oC o) 0 false, .cells (oC o) 0 false]⟩) (e := .nrm) rfl ?_ rfl ?_ rfl).trans rfl
  · simp only [fn66A, evs]
  · simp only [fn66B, ob?, strV, anK, elems, splice, h94, h6, hfl, htk, hl1, k1, k2, List.take, List.drop, List.take_of_length_le (Nat.le_of_eq h6), List.set_cons_zero, List.set_cons_succ, List.map_cons, List.map_nil, freeze_nil, reachV, reachC, ite_self, List.flatMap_cons, List.flatMap_nil, Nat.le_refl, Nat.one_ne_zero, evs, Nat.reduceAdd, Nat.reduceLeDiff]
theorem yl66b (hX : XOk m X) {N : Nat} {s : List Nat} {q : List (List Nat)} {name r : List Nat} {ps : List (List Nat)} {j : Nat} (hN : (ps.getD j []).length + 70 ≤ N) (hl : (ps.getD j []).length < 1000000) (hp : (parseO (ps.getD j [])).2 ≠ 0) :
    ∃ t, callN X N (.yld 7) [strV (ps.getD j [])] (hp66 s q name ps r j true) = some (bl false, (hp66 s q name ps r j true).set 7 (.loop false (some .ret) (regs66 s q) [11] fn66A fn66B) ++ t) := by
  obtain ⟨N, rfl⟩ : ∃ M, N = M + 1 := ⟨N - 1, by omega⟩
  have h94 := hX.vc (k := 94) (F := fn94) rfl (f94 hX (N := N) (s := ps.getD j []) (by omega) (by omega))
  have hwf := parseO_wf (ps.getD j [])
  unfold hp66
  have g1 : ((((parseO (ps.getD j [])).2 : Nat) : Int) != 0) = true := by rw [bne_iff_ne]; omega
  generalize (parseO (ps.getD j [])).1 = o at *
  generalize (parseO (ps.getD j [])).2 = e at *
  generalize osP ps j = l at *
  generalize ps.getD j [] = x at *
  have h6 := oC_len hwf
  simp only [strV, i64] at h94
  have hfo := oC_flat o
  refine ⟨[.cells (oC o) 0 false], ?_⟩
  refine (callN_yld (X := X) (n := N) (id := 7) (p := 11) (regs := regs66 s q) (regs1 := regs66 s q) (regs2 := regs66 s q) (ps1 := [11]) (ps2 := [11]) (asg := fn66A) (body := fn66B) (asg1 := fn66A) (body1 := fn66B) (asg2 := fn66A) (body2 := fn66B) (s1 := ⟨[strV s, .c (.ptr 0 0 0), .c (.ptr 1 0 0), .c (.d (slS q)), .c (.ptr 2 0 0), strV x, .any, .any, .any, bl false, .c fnS, strV x, .any], [.cells zA 0 false, .cells [.d (.bool false)] 0 false, .cells (anK name (.os 6 j 0 j 17 none) false false false) 0 false, .cells [.d (.str r)] 0 false, .cells [.d (.str [44])] 0 false, .cells [.d (.int .i64 0)] 0 false, .cells (flC l) j false, .loop true none (regs66 s q) [11] fn66A fn66B]⟩)
    (s2 := ⟨[strV s, .c (.ptr 0 0 0), .c (.ptr 1 0 0), .c (.d (slS q)), .c (.ptr 2 0 0), strV x, .c (.ptr 8 0 0), i64 (e : Int), .any, bl false, .c fnS, strV x, bl true], [.cells zA 0 false, .cells [.d (.bool false)] 0 false, .cells (anK name (.os 6 j 0 j 17 none) false false false) 0 false, .cells [.d (.str r)] 0 false, .cells [.d (.str [44])] 0 false, .cells [.d (.int .i64 0)] 0 false, .cells (flC l) j false, .loop false none (regs66 s q) [11] fn66A fn66B, .cells (oC o) 0 false]⟩) (e := .ret) rfl ?_ rfl ?_ rfl).trans rfl
  · simp only [fn66A, evs]
  · simp only [fn66B, ob?, strV, lay, splice, h94, h6, g1, List.take, List.drop, List.set_cons_zero, List.set_cons_succ, List.map_cons, List.map_nil, freeze_nil, reachV, reachC, ite_self, List.flatMap_cons, List.flatMap_nil, evs, Nat.reduceAdd, Nat.reduceLeDiff]
theorem flC_d (l : List Oid) : (flC l).all C.isD = true := by
  rw [List.all_eq_true]
  intro c hc
  obtain ⟨d, _, rfl⟩ := List.mem_map.1 hc
  rfl
abbrev R148 : List V := [.c (.yld 7), .c (.ptr 4 0 0), .c (.ptr 3 0 0), .c (.ptr 5 0 0), .any, .any, .any, .any, .any, .any, .any, .any]
theorem p147 (hX : XOk m X) {N : Nat} {s : List Nat} {c : Nat} : (zenv X N).prim 147 [.c (.d (.str s)), .c (.d (.str [c]))] = some (.c (.d (.int .i64 (oInt (idxN c s))))) := by
  rw [zenv_pr]
  exact hX.prim _ _ _ rfl
theorem r148 (hX : XOk m X) {N : Nat} {s t : List Nat} {q : List (List Nat)} {name : List Nat} {j : Nat} (hN : t.length + 70 ≤ N) (ht : t.length < 800000) (hj : j + 1 < (splitN 44 t).length) (hp : (parseO ((splitN 44 t).getD j [])).2 = 0) :
    ∃ s', exec (zenv X N) N false fn148L0 ⟨R148, hp66 s q name (splitN 44 t) (restN 44 t j) j true⟩ = some (.nrm, s') ∧ tidy 8 (some [0, 1, 2, 3]) s' = ⟨R148, hp66 s q name (splitN 44 t) (restN 44 t (j + 1)) (j + 1) true⟩ := by
  obtain ⟨i, h1, h2, h3, h4⟩ := restN_round 44 t j hj
  obtain ⟨hl1, hl2⟩ := splitN_len 44 t
  have hx : ((splitN 44 t).getD j []).length ≤ t.length := hl2 _ (by
    rw [List.getD_eq_getElem?_getD, List.getElem?_eq_getElem (by omega)]
    exact List.getElem_mem _)
  obtain ⟨u, hy⟩ := yl66 hX (N := N) (s := s) (q := q) (name := name) (r := restN 44 t j) (ps := splitN 44 t) (j := j) (by omega) (by omega) (by omega) (by omega) hp
  have hrl := restN_len 44 t j
  have hpc := p147 hX (N := N) (s := restN 44 t j) (c := 44)
  rw [h1] at hpc
  have w1 : IntKind.i64.wrap ((i : Int) + 0) = (i : Int) := by rw [Int.add_zero]; exact wrap_nat (by omega)
  have w2 := wrap_succ (k := i) (by omega)
  rw [← h4]
  have htk : (restN 44 t j).take (restN 44 t j).length = restN 44 t j := List.take_length
  have k1 : i ≤ (restN 44 t j).length := by omega
  have k2 : i + 1 ≤ (restN 44 t j).length := by omega
  have k3 : ¬ (i : Int) < 0 := by omega
  have hos : oInt (some i) = (i : Int) := rfl
  have hosu : (flC (osP (splitN 44 t) (j + 1))).all C.isD = true := flC_d _
  unfold hp66 at hy ⊢
  rw [← h3] at hy
  generalize restN 44 t j = r at *
  generalize osP (splitN 44 t) j = l at *
  generalize osP (splitN 44 t) (j + 1) = l' at *
  refine ⟨⟨[.c (.yld 7), .c (.ptr 4 0 0), .c (.ptr 3 0 0), .c (.ptr 5 0 0), .any, i64 (i : Int), strV (r.take i), .any, .any, .any, bl false, bl false], [.cells zA 0 false, .cells [.d (.bool false)] 0 false, .cells (anK name (.os 6 (j + 1) 0 (j + 1) 17 none) false false false) 0 false, .cells [.d (.str (r.drop (i + 1)))] 0 false, .cells [.d (.str [44])] 0 false, .cells [.d (.int .i64 0)] 0 false, .cells (flC l') (j + 1) false, .loop true none (regs66 s q) [11] fn66A fn66B] ++ u⟩, ?_, ?_⟩
  · simp only [strV, bl] at hy
    simp only [fn148L0, R148, ob?, strV, optNat, splice, hpc, hos, hy, w1, w2, htk, k1, k2, k3, Int.natCast_one, Option.map_none, Bool.not_true, Nat.zero_le, Nat.le_refl, List.take, List.drop, List.set_cons_zero, List.set_cons_succ, List.map_cons, List.map_nil, freeze_nil, reachV, reachC, ite_self, List.flatMap_cons, List.flatMap_nil, evs]
  · refine gc_yes rfl ?_
    simp only [anK, List.cons_append, List.nil_append, List.take_succ_cons, List.take_zero, List.all_cons, List.all_nil, Ob.under, undersC_d 8 _ hosu, Bool.and_true, Bool.and_self]
    rfl
end Mini
end Go.Proofs.YtgjlofpfbhioaaaGreatDoor
namespace Go.Proofs.YtgjlofpfbhioaaaGreatDoor
namespace Mini
open Go
variable {m : Int} {X : Ctx}
theorem seqLen (c : Nat) (s : List Nat) : 0 < (splitN c s).length := by
  rcases Nat.eq_zero_or_pos (splitN c s).length with h | h
  · exact absurd (List.length_eq_zero_iff.1 h) (splitN_neq c s)
  · exact h
/-- The loop's object when the range is over, and what the calls have laid. -/
theorem c148 (hX : XOk m X) {N : Nat} {s t : List Nat} {q : List (List Nat)} {name : List Nat} (hN : t.length + 80 ≤ N) (ht : t.length < 800000) :
    ((∀ j, j < (splitN 44 t).length → (parseO ((splitN 44 t).getD j [])).2 = 0) ∧ ∃ u, callN X N fnS [.c (.yld 7)] (hp66 s q name (splitN 44 t) t 0 true) = some (.tup [], hp66 s q name (splitN 44 t) (restN 44 t ((splitN 44 t).length - 1)) (splitN 44 t).length true ++ u)) ∨
    ((∃ j, j < (splitN 44 t).length ∧ (parseO ((splitN 44 t).getD j [])).2 ≠ 0) ∧ ∃ r j u, callN X N fnS [.c (.yld 7)] (hp66 s q name (splitN 44 t) t 0 true) = some (.tup [], (hp66 s q name (splitN 44 t) r j true).set 7 (.loop false (some .ret) (regs66 s q) [11] fn66A fn66B) ++ u)) := by
  obtain ⟨N, rfl⟩ : ∃ M, N = M + 1 := ⟨N - 1, by omega⟩
  have hn := seqLen 44 t
  obtain ⟨hl1, hl2⟩ := splitN_len 44 t
  have hx : ∀ j, j < (splitN 44 t).length → ((splitN 44 t).getD j []).length ≤ t.length := fun j hj => hl2 _ (by
    rw [List.getD_eq_getElem?_getD, List.getElem?_eq_getElem hj]
    exact List.getElem_mem _)
  have hF : fnsA 148 = some fn148' := rfl
  have hcall : ∀ H, callN X (N + 1) fnS [.c (.yld 7)] H = runFn (zenv X N) N fn148' [.c (.yld 7), .c (.ptr 4 0 0), .c (.ptr 3 0 0), .c (.ptr 5 0 0)] H := fun H => callN_fnc (hX.fns 148 _ hF)
  rw [hcall]
  have hr0 : restN 44 t 0 = t := rfl
  have hsep : ∀ r j b, (hp66 s q name (splitN 44 t) r j b)[4]? = some (.cells [.d (.str [44])] 0 false) := fun _ _ _ => rfl
  have hstr : ∀ r j b, (hp66 s q name (splitN 44 t) r j b)[3]? = some (.cells [.d (.str r)] 0 false) := fun _ _ _ => rfl
  have hlen : ∀ r j b, (hp66 s q name (splitN 44 t) r j b).length = 8 := fun _ _ _ => rfl
  have hsc := iter_find (js := some [0, 1, 2, 3]) (hl := 8) (body := exec (zenv X N) N false fn148L0) (fun j => (parseO ((splitN 44 t).getD j [])).2 ≠ 0) ((splitN 44 t).length - 1) (fun j => ⟨R148, hp66 s q name (splitN 44 t) (restN 44 t j) j true⟩) (b := 2) (s1 := ⟨[.c (.yld 7), .c (.ptr 4 0 0), .c (.ptr 3 0 0), .c (.ptr 5 0 0), .any, i64 (-1), .any, .any, .any, .any, bl true, .any], hp66 s q name (splitN 44 t) (restN 44 t ((splitN 44 t).length - 1)) ((splitN 44 t).length - 1) true⟩) (Q := fun k s' => ∃ u, s'.heap = (hp66 s q name (splitN 44 t) (restN 44 t k) k true).set 7 (.loop false (some .ret) (regs66 s q) [11] fn66A fn66B) ++ u) (fuel := N) (by omega)
    (fun j hj hp => r148 hX (by omega) ht (by omega) (Decidable.not_not.1 hp))
    (by
      have h1 := (restN_last 44 t).1
      have hpc := p147 hX (N := N) (s := restN 44 t ((splitN 44 t).length - 1)) (c := 44)
      rw [h1] at hpc
      have ho : oInt none = -1 := rfl
      rw [ho] at hpc
      have k1 : (-1 : Int) < 0 := by omega
      have hs := hstr (restN 44 t ((splitN 44 t).length - 1)) ((splitN 44 t).length - 1) true
      have hs2 := hsep (restN 44 t ((splitN 44 t).length - 1)) ((splitN 44 t).length - 1) true
      generalize hp66 s q name (splitN 44 t) (restN 44 t ((splitN 44 t).length - 1)) ((splitN 44 t).length - 1) true = HH at *
      simp only [fn148L0, R148, hpc, hs, hs2, k1, List.drop_zero, List.take, freeze_nil, reachV, reachC, ite_self, List.flatMap_cons, List.flatMap_nil, evs, Nat.reduceEqDiff])
    (by
      intro j hj hp
      obtain ⟨i, h1, h2, h3, h4⟩ := restN_round 44 t j (by omega)
      have hxj := hx j (by omega)
      obtain ⟨u, hy⟩ := yl66b hX (N := N) (s := s) (q := q) (name := name) (r := restN 44 t j) (ps := splitN 44 t) (j := j) (by omega) (by omega) hp
      have hrl := restN_len 44 t j
      have hpc := p147 hX (N := N) (s := restN 44 t j) (c := 44)
      rw [h1] at hpc
      have w1 : IntKind.i64.wrap ((i : Int) + 0) = (i : Int) := by rw [Int.add_zero]; exact wrap_nat (by omega)
      have k1 : i ≤ (restN 44 t j).length := by omega
      have k3 : ¬ (i : Int) < 0 := by omega
      have hos : oInt (some i) = (i : Int) := rfl
      have hs := hstr (restN 44 t j) j true
      have hs2 := hsep (restN 44 t j) j true
      have hs3 : (hp66 s q name (splitN 44 t) (restN 44 t j) j true)[5]? = some (.cells [.d (.int .i64 0)] 0 false) := rfl
      rw [← h3] at hy
      generalize hH2 : (hp66 s q name (splitN 44 t) (restN 44 t j) j true).set 7 (.loop false (some .ret) (regs66 s q) [11] fn66A fn66B) ++ u = H2 at hy
      refine ⟨⟨[.c (.yld 7), .c (.ptr 4 0 0), .c (.ptr 3 0 0), .c (.ptr 5 0 0), .any, i64 (i : Int), strV ((restN 44 t j).take i), .any, .any, .any, bl false, bl true], H2⟩, ?_, u, ?_⟩
      · generalize hp66 s q name (splitN 44 t) (restN 44 t j) j true = HH at *
        generalize restN 44 t j = r at *
        simp only [strV, bl] at hy
        simp only [fn148L0, R148, strV, optNat, hpc, hos, hy, hs, hs2, hs3, w1, k1, k3, Option.map_none, Bool.not_false, Nat.zero_le, List.take, List.drop, List.map_cons, List.map_nil, freeze_nil, reachV, reachC, ite_self, List.flatMap_cons, List.flatMap_nil, evs]
      · exact hH2.symm)
  simp only [R148, i64, bl, hr0] at hsc
  have hb0 : ∀ r j, (hp66 s q name (splitN 44 t) r j true)[4]? = some (.cells [.d (.str [44])] 0 false) := fun _ _ => rfl
  have g1 : ((1 : Int) == 0) = false := rfl
  have hstart := hsep t 0 true
  have hlen0 := hlen t 0 true
  rcases hsc with ⟨hno, hit⟩ | ⟨k, s', hk, hp, hno, ⟨u, hq⟩, hit⟩
  · obtain ⟨h1, h2⟩ := restN_last 44 t
    have hs := hstr (restN 44 t ((splitN 44 t).length - 1)) ((splitN 44 t).length - 1) true
    by_cases hlast : (parseO ((splitN 44 t).getD ((splitN 44 t).length - 1) [])).2 = 0
    · left
      refine ⟨fun j hj => ?_, ?_⟩
      · by_cases hj2 : j = (splitN 44 t).length - 1
        · rw [hj2]; exact hlast
        · exact Decidable.not_not.1 (hno j (by omega))
      · obtain ⟨u, hy⟩ := yl66 hX (N := N) (s := s) (q := q) (name := name) (r := restN 44 t ((splitN 44 t).length - 1)) (ps := splitN 44 t) (j := (splitN 44 t).length - 1) (by have := hx _ (show (splitN 44 t).length - 1 < _ by omega); omega) (by omega) (by have := hx _ (show (splitN 44 t).length - 1 < _ by omega); omega) (by omega) hlast
        rw [show (splitN 44 t).length - 1 + 1 = (splitN 44 t).length by omega, ← h2] at hy
        refine ⟨u, (rf_fin _ _ _ _ _ _ _ _ _ (by rfl)).trans ?_⟩
        generalize hp66 s q name (splitN 44 t) (restN 44 t ((splitN 44 t).length - 1)) (splitN 44 t).length true ++ u = H2 at *
        generalize hp66 s q name (splitN 44 t) (restN 44 t ((splitN 44 t).length - 1)) ((splitN 44 t).length - 1) true = H1 at *
        generalize hp66 s q name (splitN 44 t) t 0 true = H0 at *
        simp only [strV] at hy
        simp only [hstart, hlen0, hit, hs, hy, g1, Int.natCast_one, List.drop_zero, List.take, List.map_cons, List.map_nil, evs, Nat.reduceAdd, Nat.reduceBEq, Nat.reduceSub]
    · right
      refine ⟨⟨_, by omega, hlast⟩, ?_⟩
      obtain ⟨u, hy⟩ := yl66b hX (N := N) (s := s) (q := q) (name := name) (r := restN 44 t ((splitN 44 t).length - 1)) (ps := splitN 44 t) (j := (splitN 44 t).length - 1) (by have := hx _ (show (splitN 44 t).length - 1 < _ by omega); omega) (by have := hx _ (show (splitN 44 t).length - 1 < _ by omega); omega) hlast
      rw [← h2] at hy
      refine ⟨restN 44 t ((splitN 44 t).length - 1), (splitN 44 t).length - 1, u, (rf_fin _ _ _ _ _ _ _ _ _ (by rfl)).trans ?_⟩
      generalize (hp66 s q name (splitN 44 t) (restN 44 t ((splitN 44 t).length - 1)) ((splitN 44 t).length - 1) true).set 7 (.loop false (some .ret) (regs66 s q) [11] fn66A fn66B) ++ u = H2 at *
      generalize hp66 s q name (splitN 44 t) (restN 44 t ((splitN 44 t).length - 1)) ((splitN 44 t).length - 1) true = H1 at *
      generalize hp66 s q name (splitN 44 t) t 0 true = H0 at *
      simp only [strV] at hy
      simp only [hstart, hlen0, hit, hs, hy, g1, Int.natCast_one, List.drop_zero, List.take, List.map_cons, List.map_nil, evs, Nat.reduceAdd, Nat.reduceBEq, Nat.reduceSub]
  · right
    refine ⟨⟨k, by omega, hp⟩, restN 44 t k, k, u, (rf_fin _ _ _ _ _ _ _ _ _ (by rfl)).trans ?_⟩
    obtain ⟨r, H⟩ := s'
    simp only at hq
    subst hq
    generalize (hp66 s q name (splitN 44 t) (restN 44 t k) k true).set 7 (.loop false (some .ret) (regs66 s q) [11] fn66A fn66B) ++ u = H2 at *
    generalize hp66 s q name (splitN 44 t) t 0 true = H0 at *
    simp only [hstart, hlen0, hit, g1, Int.natCast_one, List.drop_zero, List.take, evs, Nat.reduceAdd, Nat.reduceBEq, Nat.reduceSub]
theorem f93 (hX : XOk m X) {N : Nat} (hN : 2 ≤ N) {s c : List Nat} {H : Heap} : callN X N (.d (.fn 93 [] [])) [strV s, strV c] H = some (.c (.fn 148 [] [.ptr (H.length + 1) 0 0, .ptr H.length 0 0, .ptr (H.length + 2) 0 0]), H ++ [.cells [.d (.str s)] 0 false, .cells [.d (.str c)] 0 false, .cells [.d (.int .i64 0)] 0 false]) := by
  obtain ⟨N, rfl⟩ : ∃ M, N = M + 2 := ⟨N - 2, by omega⟩
  have h115 : callN X (N + 1) (.d (.fn 115 [] [])) [strV s, strV c, i64 0] H = some (.c (.fn 148 [] [.ptr (H.length + 1) 0 0, .ptr H.length 0 0, .ptr (H.length + 2) 0 0]), H ++ [.cells [.d (.str s)] 0 false, .cells [.d (.str c)] 0 false, .cells [.d (.int .i64 0)] 0 false]) := by
    rw [hX.fn (F := fn115) rfl]
    refine (rf_fin _ _ _ _ _ _ _ _ _ (by rfl)).trans ?_
    simp only [strV, V.one, List.length_append, List.append_assoc, evs, Nat.reduceAdd, Nat.reduceSub]
  rw [hX.fn (F := fn93) rfl]
  refine (rf_fin _ _ _ _ _ _ _ _ _ (by rfl)).trans ?_
  simp only [strV, i64] at h115
  simp only [strV, h115, List.map_cons, List.map_nil, evs, Nat.reduceAdd, Nat.reduceSub]
end Mini
end Go.Proofs.YtgjlofpfbhioaaaGreatDoor
namespace Go.Proofs.YtgjlofpfbhioaaaGreatDoor
namespace Mini
open Go
variable {m : Int} {X : Ctx}
def wAnc : List Nat := [97, 110, 99, 104, 111, 114]
def itemsOk (ps : List (List Nat)) : Prop := ∀ j, j < ps.length → (parseO (ps.getD j [])).2 = 0
instance (ps : List (List Nat)) : Decidable (itemsOk ps) := by unfold itemsOk; infer_instance
def anR (q : List (List Nat)) : An := ⟨q.getD 1 [], slO (osP (splitN 44 (q.getD 2 [])) (splitN 44 (q.getD 2 [])).length), osP (splitN 44 (q.getD 2 [])) (splitN 44 (q.getD 2 [])).length, flgP (q.drop 3) 0, flgP (q.drop 3) 1, flgP (q.drop 3) 2⟩
def readA (s : List Nat) : An × Bool :=
  if (splitN 32 s).length < 3 ∨ (splitN 32 s).getD 0 [] ≠ wAnc then (a0, false)
  else if ¬ itemsOk (splitN 44 ((splitN 32 s).getD 2 [])) then (a0, false)
  else (anR (splitN 32 s), decide (restP ((splitN 32 s).drop 3) 3 = []))
theorem ex_rf {E : Env} {N : Nat} {f : A} {ps : List Nat} {asg body : I} {regs : List V} {H H2 : Heap} {x : C} {r : V} {regs2 : List V} {ps2 : List Nat} {asg2 body2 : I} (hx : look E regs [] f = .c x) (hf : x.isFn = true) (hc : E.call x [.c (.yld H.length)] (H ++ [.loop true none regs ps asg body]) = some (r, H2)) (ho : H2[H.length]? = some (.loop true none regs2 ps2 asg2 body2)) :
    exec E N false (.rf f ps asg body) ⟨regs, H⟩ = some (.nrm, ⟨regs, H2.set H.length .dead⟩) := by
  simp only [exec, hx, hf, hc, ob_eq, ho, setOb_eq]
  simp
theorem ex_rf_out {E : Env} {N : Nat} {f : A} {ps : List Nat} {asg body : I} {regs : List V} {H H2 : Heap} {x : C} {r : V} {e : Ex} {regs2 : List V} {ps2 : List Nat} {asg2 body2 : I} (hx : look E regs [] f = .c x) (hf : x.isFn = true) (hc : E.call x [.c (.yld H.length)] (H ++ [.loop true none regs ps asg body]) = some (r, H2)) (ho : H2[H.length]? = some (.loop false (some e) regs2 ps2 asg2 body2)) :
    exec E N false (.rf f ps asg body) ⟨regs, H⟩ = some (e, ⟨regs, H2.set H.length .dead⟩) := by
  simp only [exec, hx, hf, hc, ob_eq, ho, setOb_eq]
  simp
theorem slS_drop3 (q : List (List Nat)) (_h : 3 ≤ q.length) : ((q.map D.str).drop 3).take (q.length - 3) = (q.drop 3).map D.str := by
  rw [← List.map_drop, List.take_of_length_le (by simp)]
set_option maxHeartbeats 1000000 in
theorem f66 (hX : XOk m X) {N : Nat} {s : List Nat} (hN : s.length + 100 ≤ N) (hs : s.length < 800000) : vcallN X N 66 [strV s] = some (.tup [.agg (acC (readA s).1), bl (readA s).2]) := by
  obtain ⟨N, rfl⟩ : ∃ M, N = M + 1 := ⟨N - 1, by omega⟩
  have hF : fnsA 66 = some fn66'' := rfl
  obtain ⟨hl1, hl2⟩ := splitN_len 32 s
  have hpc : (zenv X N).prim 92 [.c (.d (.str s)), .c (.d (.str [32]))] = some (.c (.d (slS (splitN 32 s)))) := by
    rw [zenv_pr]
    refine hX.prim _ _ _ ?_
    have e : ∀ x : List Nat, prim0 92 [.c (.d (.str x)), .c (.d (.str [32]))] = if x.length < 4294967281 then some (.c (.d (.sl ((splitN 32 x).map .str) (splitN 32 x).length))) else none := fun _ => rfl
    rw [e, if_pos (by omega)]
    rfl
  unfold readA
  generalize hq : splitN 32 s = q at *
  have hlw := slS_len q
  have hza : acC a0 = zA := rfl
  by_cases c1 : q.length < 3
  · have c1' : (q.length : Int) < 3 := by omega
    rw [if_pos (.inl c1), hza]
    refine vcall_of (r := .tup [.agg zA, bl false]) (H := [.cells zA 0 false, .cells [.d (.bool false)] 0 false]) ?_ rfl
    rw [hX.fn hF]
    refine (rf_fin _ _ _ _ _ _ _ _ _ (by rfl)).trans ?_
    simp only [ob?, strV, hpc, hlw, c1', lay, splice, List.take, List.drop, List.map_cons, List.map_nil, List.set_cons_zero, List.set_cons_succ, freeze_nil, reachV, reachC, ite_self, List.flatMap_cons, List.flatMap_nil, ↓sp_len, evs, Nat.reduceAdd, Nat.reduceLeDiff, Nat.reduceSub]
  have c1' : ¬ (q.length : Int) < 3 := by omega
  have h0 := slS_at q (i := 0) (by omega)
  have h1 := slS_at q (i := 1) (by omega)
  have h2 := slS_at q (i := 2) (by omega)
  have hmem : ∀ j, j < q.length → (q.getD j []).length ≤ s.length := fun j hj => hl2 _ (by
    rw [List.getD_eq_getElem?_getD, List.getElem?_eq_getElem hj]
    exact List.getElem_mem _)
  have hm2 := hmem 2 (by omega)
  by_cases c2 : q.getD 0 [] = wAnc
  case neg =>
    rw [if_pos (.inr c2), hza]
    have g1 : (!(q.getD 0 [] == [97, 110, 99, 104, 111, 114])) = true := by rw [beqS]; simpa [wAnc] using c2
    refine vcall_of (r := .tup [.agg zA, bl false]) (H := [.cells zA 0 false, .cells [.d (.bool false)] 0 false]) ?_ rfl
    rw [hX.fn hF]
    refine (rf_fin _ _ _ _ _ _ _ _ _ (by rfl)).trans ?_
    simp only [ob?, strV, binStr, hpc, hlw, h0, c1', g1, lay, splice, List.take, List.drop, List.map_cons, List.map_nil, List.set_cons_zero, List.set_cons_succ, freeze_nil, reachV, reachC, ite_self, List.flatMap_cons, List.flatMap_nil, ↓sp_len, ↓sp_ixa, evs, Nat.reduceAdd, Nat.reduceLeDiff, Nat.reduceSub]
  have g1 : (!(q.getD 0 [] == [97, 110, 99, 104, 111, 114])) = false := by rw [beqS, c2]; rfl
  rw [if_neg (by rintro (h | h); exact c1 h; exact h c2)]
  have h93 := f93 hX (N := N) (by omega) (s := q.getD 2 []) (c := [44]) (H := [.cells zA 0 false, .cells [.d (.bool false)] 0 false, .cells (anK (q.getD 1 []) (.d .nils) false false false) 0 false])
  have hfr : exec (zenv X N) N false (.fresh 4 (some 1) 17) ⟨[strV s, .c (.ptr 0 0 0), .c (.ptr 1 0 0), .c (.d (slS q)), .c (.ptr 2 0 0), .any, .any, .any, .any, bl false, .c fnS, .any, .any], [.cells zA 0 false, .cells [.d (.bool false)] 0 false, .cells (anK (q.getD 1 []) (.d .nils) false false false) 0 false, .cells [.d (.str (q.getD 2 []))] 0 false, .cells [.d (.str [44])] 0 false, .cells [.d (.int .i64 0)] 0 false]⟩ = some (.nrm, ⟨regs66 s q, [.cells zA 0 false, .cells [.d (.bool false)] 0 false, .cells (anK (q.getD 1 []) (.os 6 0 0 0 17 none) false false false) 0 false, .cells [.d (.str (q.getD 2 []))] 0 false, .cells [.d (.str [44])] 0 false, .cells [.d (.int .i64 0)] 0 false, .cells [] 0 false]⟩) := rfl
  rcases c148 hX (N := N) (s := s) (t := q.getD 2 []) (q := q) (name := q.getD 1 []) (by omega) (by omega) with ⟨hok, u, hc⟩ | ⟨⟨j, hj, hbad⟩, r, k, u, hc⟩
  · have hio : itemsOk (splitN 44 (q.getD 2 [])) := hok
    rw [if_neg (by simpa using hio)]
    have hrf := ex_rf (E := zenv X N) (N := N) (f := .r 10) (ps := [11]) (asg := fn66A) (body := fn66B) (regs := regs66 s q) (H := [.cells zA 0 false, .cells [.d (.bool false)] 0 false, .cells (anK (q.getD 1 []) (.os 6 0 0 0 17 none) false false false) 0 false, .cells [.d (.str (q.getD 2 []))] 0 false, .cells [.d (.str [44])] 0 false, .cells [.d (.int .i64 0)] 0 false, .cells [] 0 false]) (x := fnS) rfl rfl hc rfl
    have hn := seqLen 44 (q.getD 2 [])
    have hwf := osP_wf (splitN 44 (q.getD 2 [])) (splitN 44 (q.getD 2 [])).length
    have hol := osP_len (splitN 44 (q.getD 2 [])) (Nat.le_refl _)
    have hfl := flC_len hwf
    rw [hol] at hfl
    unfold anR
    unfold hp66 at hrf
    generalize restN 44 (q.getD 2 []) ((splitN 44 (q.getD 2 [])).length - 1) = rr at *
    generalize hos : osP (splitN 44 (q.getD 2 [])) (splitN 44 (q.getD 2 [])).length = os at *
    generalize (splitN 44 (q.getD 2 [])).length = n at *
    generalize hname : q.getD 1 [] = name at *
    generalize htt : q.getD 2 [] = tt at *
    obtain ⟨y0, y1, y2, y3, rfl⟩ : ∃ y0 y1 y2 y3, q = y0 :: y1 :: y2 :: y3 := by
      match q, c1 with
      | y0 :: y1 :: y2 :: y3, _ => exact ⟨y0, y1, y2, y3, rfl⟩
      | [], h => exact absurd (by simp) h
      | [_], h => exact absurd (by simp) h
      | [_, _], h => exact absurd (by simp) h
    have hy0 : (y0 :: y1 :: y2 :: y3).getD 0 [] = y0 := rfl
    have hy1 : (y0 :: y1 :: y2 :: y3).getD 1 [] = y1 := rfl
    have hy2 : (y0 :: y1 :: y2 :: y3).getD 2 [] = y2 := rfl
    have hd3 : (y0 :: y1 :: y2 :: y3).drop 3 = y3 := rfl
    rw [hd3]
    rw [hy1] at hname
    rw [hy2] at htt
    subst hname
    subst htt
    rw [hy0] at g1
    have h95 := f95 hX (N := N) (by omega) (ps := y3) (ia := 2) (s := y1) (c := .os 6 n 0 n 17 none) (H := [.cells zA 0 false, .cells [.d (.bool false)] 0 false, .cells (anK y1 (.os 6 n 0 n 17 none) false false false) 0 false, .cells [.d (.str rr)] 0 false, .cells [.d (.str [44])] 0 false, .cells [.d (.int .i64 0)] 0 false, .cells (flC os) n false, .dead] ++ u) rfl
    have k3 : 3 ≤ y3.length + 1 + 1 + 1 := by omega
    have k0 : 0 < y3.length + 1 + 1 + 1 := by omega
    have k1 : 1 < y3.length + 1 + 1 + 1 := by omega
    have k2 : 2 < y3.length + 1 + 1 + 1 := by omega
    have k4 : y3.length + 1 + 1 + 1 - 3 = y3.length := by omega
    have an3 : asNat (.c (.d (.int .i64 3))) = some 3 := rfl
    have k6 : ¬ ((y3.length + 1 + 1 + 1 : Nat) : Int) < 3 := by omega
    have k5 : (y3.map D.str).take y3.length = y3.map D.str := List.take_of_length_le (by simp)
    have hsd : D.sl (y3.map D.str) y3.length = slS y3 := rfl
    have hsl : slS (y0 :: y1 :: y2 :: y3) = .sl (.str y0 :: .str y1 :: .str y2 :: y3.map D.str) (y3.length + 1 + 1 + 1) := rfl
    have hdp : ∀ x0 x1 x2 x3 x4 x5 : Ob, ∀ t, deepC (x0 :: x1 :: x2 :: x3 :: x4 :: x5 :: .cells (flC os) n false :: t) deepMax (.os 6 n 0 n 17 none) = some (slO os) := by
      intro x0 x1 x2 x3 x4 x5 t
      have p2 : ((flC os).drop 0).take (n * 17) = (os.flatMap oD).map .d := by
        rw [List.drop_zero, List.take_of_length_le (by omega)]; rfl
      have p1 : 0 + n * 17 ≤ (flC os).length := by omega
      simp only [deepMax, deepC, ob?, if_true, if_pos p1, p2, mapO_d, Option.map_some]
      rw [slO, hol]
    refine vcall_of (r := .tup [.agg (anK y1 (.os 6 n 0 n 17 none) (flgP (y3) 0) (flgP (y3) 1) (flgP (y3) 2)), bl (decide (restP (y3) 3 = []))]) (H := [.cells (anK y1 (.os 6 n 0 n 17 none) (flgP (y3) 0) (flgP (y3) 1) (flgP (y3) 2)) 0 false, .cells [.d (.bool (decide (restP (y3) 3 = [])))] 0 false, .cells (anK y1 (.os 6 n 0 n 17 none) (flgP (y3) 0) (flgP (y3) 1) (flgP (y3) 2)) 0 false, .cells [.d (.str rr)] 0 false, .cells [.d (.str [44])] 0 false, .cells [.d (.int .i64 0)] 0 false, .cells (flC os) n false, .dead] ++ u) ?_ ?_
    · rw [hX.fn hF]
      refine (rf_fin _ _ _ _ _ _ _ _ _ (by rfl)).trans ?_
      generalize decide (restP (y3) 3 = []) = rok at *
      generalize flgP (y3) 0 = fl0 at *
      generalize flgP (y3) 1 = fl1 at *
      generalize flgP (y3) 2 = fl2 at *
      simp only [strV, bl, fnS, regs66, anK, List.length_cons, List.length_nil, Nat.reduceAdd, List.cons_append, List.nil_append, List.set_cons_zero, List.set_cons_succ] at hrf hfr h93 h95
      simp only [hsl] at hpc hlw hfr hrf
      simp only [ob?, strV, binStr, anK, V.one, optNat, hpc, hlw, hsd, k0, k1, k2, k3, k4, k5, k6, an3, List.length_map, Nat.le_refl, g1, h93, hfr, hrf, h95, lay, splice, Option.map_none, Nat.mul_one, List.take, List.drop, List.map_cons, List.map_nil, List.set_cons_zero, List.set_cons_succ, freeze_nil, reachV, reachC, ite_self, List.flatMap_cons, List.flatMap_nil, ↓sp_len, ↓sp_ixa, evs, Nat.reduceAdd, Nat.reduceLeDiff, Nat.reduceSub]
    · simp only [anK, acC, deepV, mapO, deepV1, List.cons_append, List.nil_append, hdp, bl]
      rfl
  · have hio : ¬ itemsOk (splitN 44 (q.getD 2 [])) := fun h => hbad (h j hj)
    rw [if_pos (by simpa using hio), hza]
    have hrf := ex_rf_out (E := zenv X N) (N := N) (f := .r 10) (ps := [11]) (asg := fn66A) (body := fn66B) (regs := regs66 s q) (H := [.cells zA 0 false, .cells [.d (.bool false)] 0 false, .cells (anK (q.getD 1 []) (.os 6 0 0 0 17 none) false false false) 0 false, .cells [.d (.str (q.getD 2 []))] 0 false, .cells [.d (.str [44])] 0 false, .cells [.d (.int .i64 0)] 0 false, .cells [] 0 false]) (x := fnS) (e := .ret) rfl rfl hc rfl
    have h0z : (((hp66 s q (q.getD 1 []) (splitN 44 (q.getD 2 [])) r k true).set 7 (.loop false (some .ret) (regs66 s q) [11] fn66A fn66B) ++ u).set 7 .dead)[0]? = some (.cells zA 0 false) := rfl
    have h1z : (((hp66 s q (q.getD 1 []) (splitN 44 (q.getD 2 [])) r k true).set 7 (.loop false (some .ret) (regs66 s q) [11] fn66A fn66B) ++ u).set 7 .dead)[1]? = some (.cells [.d (.bool false)] 0 false) := rfl
    simp only [List.length_cons, List.length_nil, Nat.reduceAdd] at hrf
    generalize ((hp66 s q (q.getD 1 []) (splitN 44 (q.getD 2 [])) r k true).set 7 (.loop false (some .ret) (regs66 s q) [11] fn66A fn66B) ++ u).set 7 .dead = HH at *
    refine vcall_of (r := .tup [.agg zA, bl false]) (H := HH) ?_ rfl
    rw [hX.fn hF]
    refine (rf_fin _ _ _ _ _ _ _ _ _ (by rfl)).trans ?_
    simp only [strV, bl, fnS, regs66, anK, List.length_cons, List.length_nil, Nat.reduceAdd, List.cons_append, List.nil_append] at hrf hfr h93
    simp only [strV, binStr, hpc, hlw, h0, h1, h2, c1', g1, h93, hfr, hrf, h0z, h1z, lay, splice, List.take, List.drop, List.map_cons, List.map_nil, freeze_nil, reachV, reachC, ite_self, List.flatMap_cons, List.flatMap_nil, ↓sp_len, ↓sp_ixa, evs, Nat.reduceAdd, Nat.reduceLeDiff, Nat.reduceSub]
end Mini
end Go.Proofs.YtgjlofpfbhioaaaGreatDoor
namespace Go.Proofs.YtgjlofpfbhioaaaGreatDoor
namespace Mini
open Go
variable {m : Int} {X : Ctx}
theorem f33g (hX : XOk m X) {N : Nat} {s : List Nat} {w : D} {u : List Oid} {b1 b2 b3 : Bool} (hN : s.length + 400 ≤ N) (hs : s.length < 1000000) (hu : isSet w u) (hul : wfS u) (hlen : u.length < 1000000) : vcallN X N 33 [.agg (anC s w b1 b2 b3)] = some (i64 (chkA s u)) := by
  obtain ⟨N, rfl⟩ : ∃ M, N = M + 1 := ⟨N - 1, by omega⟩
  have h1 := hX.vc (k := 70) (F := fn70) rfl (f70 hX (N := N) (s := s) (by omega) (by omega))
  have h2 := hX.vc (k := 19) (F := fn19) rfl (f19 hX (N := N) (by omega) hu hul hlen)
  have h3 := hu.len
  simp only [i64, bl] at h1 h2
  refine vcall_of (r := i64 (chkA s u)) (H := [.cells (anC s w b1 b2 b3) 0 false]) ?_ rfl
  rw [hX.fn (F := fn33) rfl]
  refine (rf_fin _ _ _ _ _ _ _ _ _ (by rfl)).trans ?_
  unfold chkA
  cases hn : nameB s
  · rw [hn] at h1
    simp only [anC, ob?, h1, Bool.not_false, List.take, List.drop, Int.cast_ofNat_Int, evs, Nat.reduceSub]
  · rw [hn] at h1
    by_cases c1 : chkS u = 0
    · rw [c1] at h2 ⊢
      by_cases c2 : u.length = 0
      · simp only [anC, ob?, h1, h2, h3, c2, Bool.not_true, ne_eq, not_true_eq_false, List.take, List.drop, Int.cast_ofNat_Int, ↓sp_len, evs, Nat.reduceSub, reduceCtorEq]
      · have g2 : ((u.length : Int) == 0) = false := by rw [beq_eq_false_iff_ne]; omega
        simp only [anC, ob?, h1, h2, h3, g2, c2, Bool.not_true, ne_eq, not_true_eq_false, List.take, List.drop, Int.natCast_zero, ↓sp_len, evs, Nat.reduceSub, reduceCtorEq]
    · have g1 : ((chkS u : Int) != 0) = true := by rw [bne_iff_ne]; omega
      simp only [anC, ob?, h1, h2, g1, c1, Bool.not_true, ne_eq, not_false_eq_true, List.take, List.drop, evs, Nat.reduceSub, reduceCtorEq]
def aC (l : List An) : List C := (l.flatMap An.ds).map .d
theorem aC_len (l : List An) : (aC l).length = l.length * 5 := by rw [aC, List.length_map]; exact flD_len (fun _ _ => rfl)
theorem aC_snoc (l : List An) (a : An) : aC (l ++ [a]) = aC l ++ acC a := by simp [aC, An.ds, acC]
abbrev R28 (s : List Nat) (id j : Nat) : List V := [strV s, .c (.os id j 0 j 5 none), i64 (j : Int), .any, .any, .any, .any, .any, .any, .any, .any, .any, .any, .any, .any, .any]
theorem cut_len {c : Nat} : ∀ {s a b : List Nat}, cutN c s = some (a, b) → a.length + b.length + 1 = s.length
  | [], _, _, h => by cases h
  | x :: s, a, b, h => by
    unfold cutN at h
    split at h
    · cases h; simp
    · cases hc : cutN c s with
      | none => rw [hc] at h; cases h
      | some p =>
        obtain ⟨a', b'⟩ := p
        rw [hc] at h
        simp only [Option.some.injEq, Prod.mk.injEq] at h
        obtain ⟨rfl, rfl⟩ := h
        have := cut_len hc
        simp only [List.length_cons]
        omega
theorem p65 (hX : XOk m X) {N : Nat} {s : List Nat} (hs : s.length < 4294967281) : (zenv X N).prim 65 [.c (.d (.str s)), .c (.d (.str [10]))] = some (match cutN 10 s with
      | some (a, b) => .tup [Str a, Str b, Bl true]
      | none => .tup [Str s, Str [], Bl false]) := by
  rw [zenv_pr]
  refine hX.prim _ _ _ ?_
  have e : ∀ x : List Nat, prim0 65 [.c (.d (.str x)), .c (.d (.str [10]))] = if x.length < 4294967281 then some (match cutN 10 x with
      | some (a, b) => .tup [Str a, Str b, Bl true]
      | none => .tup [Str x, Str [], Bl false]) else none := fun _ => rfl
  rw [e, if_pos hs]
section
variable {N j : Nat} {s a b : List Nat} {H : Heap} {l : List An}
theorem r28_end (_hX : XOk m X) (id : Nat) : exec (zenv X N) N false fn28L0 ⟨R28 [] id j, H⟩ = some (.exit 0, ⟨[strV [], .c (.os id j 0 j 5 none), i64 (j : Int), .any, .any, .any, .any, .any, .any, .any, .any, bl false, .any, .any, .any, .any], H⟩) := by
  have h : ¬ ((0 : Nat) : Int) > 0 := by omega
  simp only [fn28L0, R28, strV, Int.natCast_zero, evs]
theorem r28_lim (_hX : XOk m X) (id : Nat) (hs : s ≠ []) (hj : 256 < j + 1) (hj2 : j < 1000000) : ∃ s', exec (zenv X N) N false fn28L0 ⟨R28 s id j, H⟩ = some (.ret, s') ∧ nth s'.regs 1 = .c (.d .nils) ∧ nth s'.regs 2 = i64 ((j + 1 : Nat) : Int) ∧ nth s'.regs 3 = i64 3 ∧ s'.heap = H := by
  have h1 : (s.length : Int) > 0 := by
    cases s with
    | nil => exact absurd rfl hs
    | cons _ _ => simp only [List.length_cons]; omega
  have h2 := wrap_succ (k := j) (by omega)
  have h3 : ((j + 1 : Nat) : Int) > 256 := by omega
  refine ⟨⟨[strV s, .c (.d .nils), i64 ((j + 1 : Nat) : Int), i64 3, .any, .any, .any, .any, .any, .any, .any, bl true, bl true, .any, .any, .any], H⟩, ?_, rfl, rfl, rfl, rfl⟩
  simp only [fn28L0, R28, strV, h1, h2, h3, evs]
theorem r28_cut (hX : XOk m X) (hs : s ≠ []) (hsl : s.length < 4294967281) (hj : j + 1 ≤ 256) (hc : cutN 10 s = none) (o : Ob) {an : An} {ok : Bool} (h66 : (zenv X N).vcall 66 [strV s] = some (.tup [.agg (acC an), bl ok])) : ∃ s', exec (zenv X N) N false fn28L0 ⟨R28 s H.length j, H ++ [o]⟩ = some (.ret, s') ∧ nth s'.regs 1 = .c (.d .nils) ∧ nth s'.regs 2 = i64 ((j + 1 : Nat) : Int) ∧ nth s'.regs 3 = i64 6 ∧ ∃ t, s'.heap = H ++ t := by
  have h1 : (s.length : Int) > 0 := by
    cases s with
    | nil => exact absurd rfl hs
    | cons _ _ => simp only [List.length_cons]; omega
  have h2 := wrap_succ (k := j) (by omega)
  have h3 : ¬ ((j + 1 : Nat) : Int) > 256 := by omega
  have hpc := p65 hX (N := N) hsl
  have e1 : ∀ o o2 : Ob, (H ++ o :: [o2])[H.length + 1]? = some o2 := fun o o2 => by rw [List.getElem?_append_right (by omega)]; simp
  have e0 : ∀ o o2 : Ob, (H ++ o :: [o2])[H.length]? = some o := fun o o2 => by simp
  rw [hc] at hpc
  refine ⟨⟨[strV s, .c (.d .nils), i64 ((j + 1 : Nat) : Int), i64 6, strV s, strV [], bl false, .c (.ptr (H.length + 1) 0 0), bl ok, .any, .any, bl true, bl false, bl true, .any, .any], H ++ [o, .cells (acC an) 0 false]⟩, ?_, rfl, rfl, rfl, _, rfl⟩
  simp only [strV, acC, bl] at h66
  have hlen : (H ++ [o]).length = H.length + 1 := by simp
  simp only [fn28L0, R28, acC, strV, h1, h2, h3, hpc, h66, hlen, Bool.not_false, List.append_assoc, freeze_nil, reachV, reachC, ite_self, List.flatMap_cons, List.flatMap_nil, evs, Nat.reduceAdd]
theorem r28_form (hX : XOk m X) (hs : s ≠ []) (hsl : s.length < 4294967281) (hj : j + 1 ≤ 256) (hc : cutN 10 s = some (a, b)) (o : Ob) {an : An} {ok : Bool} (h66 : (zenv X N).vcall 66 [strV a] = some (.tup [.agg (acC an), bl ok])) (hok : ok = false) : ∃ s', exec (zenv X N) N false fn28L0 ⟨R28 s H.length j, H ++ [o]⟩ = some (.ret, s') ∧ nth s'.regs 1 = .c (.d .nils) ∧ nth s'.regs 2 = i64 ((j + 1 : Nat) : Int) ∧ nth s'.regs 3 = i64 (6) ∧ ∃ t, s'.heap = H ++ t := by
  have h1 : (s.length : Int) > 0 := by
    cases s with
    | nil => exact absurd rfl hs
    | cons _ _ => simp only [List.length_cons]; omega
  have h2 := wrap_succ (k := j) (by omega)
  have h3 : ¬ ((j + 1 : Nat) : Int) > 256 := by omega
  have hpc := p65 hX (N := N) hsl
  have e1 : ∀ o o2 : Ob, (H ++ o :: [o2])[H.length + 1]? = some o2 := fun o o2 => by rw [List.getElem?_append_right (by omega)]; simp
  have e0 : ∀ o o2 : Ob, (H ++ o :: [o2])[H.length]? = some o := fun o o2 => by simp
  rw [hc] at hpc
  subst hok
  refine ⟨⟨[strV s, .c (.d .nils), i64 ((j + 1 : Nat) : Int), i64 6, strV a, strV b, bl true, .c (.ptr (H.length + 1) 0 0), bl false, .any, .any, bl true, bl false, bl true, .any, .any], H ++ [o, .cells (acC an) 0 false]⟩, ?_, rfl, rfl, rfl, _, rfl⟩
  simp only [strV, acC, bl] at h66
  have hlen : (H ++ [o]).length = H.length + 1 := by simp
  simp only [fn28L0, R28, acC, strV, h1, h2, h3, hpc, h66, hlen, Bool.not_true, Bool.not_false, List.append_assoc, freeze_nil, reachV, reachC, ite_self, List.flatMap_cons, List.flatMap_nil, evs, Nat.reduceAdd]
theorem r28_chk (hX : XOk m X) (hs : s ≠ []) (hsl : s.length < 4294967281) (hj : j + 1 ≤ 256) (hc : cutN 10 s = some (a, b)) (o : Ob) {an : An} {ok : Bool} (h66 : (zenv X N).vcall 66 [strV a] = some (.tup [.agg (acC an), bl ok])) (hok : ok = true) (h33 : (zenv X N).vcall 33 [.agg (acC an)] = some (i64 (chkA an.s an.l))) (hne : chkA an.s an.l ≠ 0) : ∃ s', exec (zenv X N) N false fn28L0 ⟨R28 s H.length j, H ++ [o]⟩ = some (.ret, s') ∧ nth s'.regs 1 = .c (.d .nils) ∧ nth s'.regs 2 = i64 ((j + 1 : Nat) : Int) ∧ nth s'.regs 3 = i64 (chkA an.s an.l) ∧ ∃ t, s'.heap = H ++ t := by
  have h1 : (s.length : Int) > 0 := by
    cases s with
    | nil => exact absurd rfl hs
    | cons _ _ => simp only [List.length_cons]; omega
  have h2 := wrap_succ (k := j) (by omega)
  have h3 : ¬ ((j + 1 : Nat) : Int) > 256 := by omega
  have hpc := p65 hX (N := N) hsl
  have e1 : ∀ o o2 : Ob, (H ++ o :: [o2])[H.length + 1]? = some o2 := fun o o2 => by rw [List.getElem?_append_right (by omega)]; simp
  have e0 : ∀ o o2 : Ob, (H ++ o :: [o2])[H.length]? = some o := fun o o2 => by simp
  rw [hc] at hpc
  subst hok
  have g1 : ((chkA an.s an.l : Int) != 0) = true := by rw [bne_iff_ne]; omega
  refine ⟨⟨[strV s, .c (.d .nils), i64 ((j + 1 : Nat) : Int), i64 (chkA an.s an.l), strV a, strV b, bl true, .c (.ptr (H.length + 1) 0 0), bl true, i64 (chkA an.s an.l), .any, bl true, bl false, bl false, bl true, .any], H ++ [o, .cells (acC an) 0 false]⟩, ?_, rfl, rfl, rfl, _, rfl⟩
  simp only [strV, acC, bl, i64] at h66 h33
  have hlen : (H ++ [o]).length = H.length + 1 := by simp
  simp only [fn28L0, R28, acC, strV, h1, h2, h3, hpc, h66, hlen, h33, g1, e1, Bool.not_true, List.append_assoc, List.take, List.drop, List.map_cons, List.map_nil, freeze_nil, reachV, reachC, ite_self, List.flatMap_cons, List.flatMap_nil, evs, Nat.reduceAdd]
theorem r28_ord (hX : XOk m X) (hs : s ≠ []) (hsl : s.length < 4294967281) (hj : j + 1 ≤ 256) (hc : cutN 10 s = some (a, b)) (_o : Ob) {an : An} {ok : Bool} (h66 : (zenv X N).vcall 66 [strV a] = some (.tup [.agg (acC an), bl ok])) (hok : ok = true) (h33 : (zenv X N).vcall 33 [.agg (acC an)] = some (i64 (chkA an.s an.l))) (hz : chkA an.s an.l = 0) (hl : l.length = j) (hj0 : 0 < j) (hlt : strLess (l.getD (l.length - 1) a0).s an.s = false) : ∃ s', exec (zenv X N) N false fn28L0 ⟨R28 s H.length j, H ++ [.cells (aC l) j false]⟩ = some (.ret, s') ∧ nth s'.regs 1 = .c (.d .nils) ∧ nth s'.regs 2 = i64 ((j + 1 : Nat) : Int) ∧ nth s'.regs 3 = i64 (13) ∧ ∃ t, s'.heap = H ++ t := by
  have h1 : (s.length : Int) > 0 := by
    cases s with
    | nil => exact absurd rfl hs
    | cons _ _ => simp only [List.length_cons]; omega
  have h2 := wrap_succ (k := j) (by omega)
  have h3 : ¬ ((j + 1 : Nat) : Int) > 256 := by omega
  have hpc := p65 hX (N := N) hsl
  have e1 : ∀ o o2 : Ob, (H ++ o :: [o2])[H.length + 1]? = some o2 := fun o o2 => by rw [List.getElem?_append_right (by omega)]; simp
  have e0 : ∀ o o2 : Ob, (H ++ o :: [o2])[H.length]? = some o := fun o o2 => by simp
  have hget : ∀ (g : Nat) (f : Bool) (o2 : Ob), (H ++ Ob.cells (aC l) g f :: [o2])[H.length]? = some (.cells (aC l) g f) := fun g f o2 => by simp
  have hlast : 0 < l.length → ((aC l).drop ((l.length - 1) * 5)).take 1 = [.d (.str (l.getD (l.length - 1) a0).s)] := fun hp => by
    have h5 := dropA (l := l) (i := l.length - 1) (by omega)
    rw [aC, ← List.map_drop, flD_drop (f := An.ds) (k := 5) (fun _ _ => rfl), h5, List.flatMap_cons]
    rfl
  rw [hc] at hpc
  subst hok
  rw [hz] at h33
  have hlast := hlast (by omega)
  have w2 : IntKind.i64.wrap (((j + 1 : Nat) : Int) - 2) = ((j - 1 : Nat) : Int) := by rw [← wrap_nat (k := j - 1) (by omega)]; congr 1; omega
  have g2 : ((j + 1 : Nat) : Int) > 1 := by omega
  have g3 : j - 1 < j := by omega
  rw [hl] at hlast hlt
  refine ⟨⟨[strV s, .c (.d .nils), i64 ((j + 1 : Nat) : Int), i64 13, strV a, strV b, bl true, .c (.ptr (H.length + 1) 0 0), bl true, i64 0, .any, bl true, bl false, bl false, bl false, bl true], H ++ [.cells (aC l) j false, .cells (acC an) 0 false]⟩, ?_, rfl, rfl, rfl, _, rfl⟩
  simp only [strV, acC, bl, i64, Int.natCast_zero] at h66 h33
  have hlen : (H ++ [Ob.cells (aC l) j false]).length = H.length + 1 := by simp
  simp only [fn28L0, R28, acC, strV, h1, h2, h3, hpc, h66, hlen, binStr, h33, e0, e1, w2, g2, g3, hlast, hlt, Bool.not_true, Bool.not_false, List.append_assoc, List.take, List.drop, List.map_cons, List.map_nil, freeze_nil, reachV, reachC, ite_self, List.flatMap_cons, List.flatMap_nil, ↓sp_ixa, evs, Nat.reduceAdd]
theorem r28_ok (hX : XOk m X) (hN : 10 ≤ N) (hs : s ≠ []) (hsl : s.length < 4294967281) (hj : j + 1 ≤ 256) (hc : cutN 10 s = some (a, b)) {an : An} {ok : Bool} (h66 : (zenv X N).vcall 66 [strV a] = some (.tup [.agg (acC an), bl ok])) (hok : ok = true) (h33 : (zenv X N).vcall 33 [.agg (acC an)] = some (i64 (chkA an.s an.l))) (hz : chkA an.s an.l = 0) (hl : l.length = j) (hlt : 0 < j → strLess (l.getD (l.length - 1) a0).s an.s = true) (hset : isSet an.w an.l) (hwf : wfS an.l) (hw : an.w = slO an.l) (hH : Hp H.length H) : ∃ s', exec (zenv X N) N false fn28L0 ⟨R28 s H.length j, H ++ [.cells (aC l) j false]⟩ = some (.nrm, s') ∧ tidy (H.length + 1) (some [0, 1, 2]) s' = ⟨R28 b H.length (j + 1), H ++ [.cells (aC (l ++ [an])) (j + 1) false]⟩ := by
  have h1 : (s.length : Int) > 0 := by
    cases s with
    | nil => exact absurd rfl hs
    | cons _ _ => simp only [List.length_cons]; omega
  have h2 := wrap_succ (k := j) (by omega)
  have h3 : ¬ ((j + 1 : Nat) : Int) > 256 := by omega
  have hpc := p65 hX (N := N) hsl
  have e1 : ∀ o o2 : Ob, (H ++ o :: [o2])[H.length + 1]? = some o2 := fun o o2 => by rw [List.getElem?_append_right (by omega)]; simp
  have e0 : ∀ o o2 : Ob, (H ++ o :: [o2])[H.length]? = some o := fun o o2 => by simp
  have hget : ∀ (g : Nat) (f : Bool) (o2 : Ob), (H ++ Ob.cells (aC l) g f :: [o2])[H.length]? = some (.cells (aC l) g f) := fun g f o2 => by simp
  have hlast : 0 < l.length → ((aC l).drop ((l.length - 1) * 5)).take 1 = [.d (.str (l.getD (l.length - 1) a0).s)] := fun hp => by
    have h5 := dropA (l := l) (i := l.length - 1) (by omega)
    rw [aC, ← List.map_drop, flD_drop (f := An.ds) (k := 5) (fun _ _ => rfl), h5, List.flatMap_cons]
    rfl
  rw [hc] at hpc
  subst hok
  rw [hz] at h33
  have hne := chkA_ne hz
  obtain ⟨w', h67, hw'⟩ := f67v hX (N := N) (by omega) hset hwf (by have := chkS_len (chkA_zero hz); omega)
  have hww : w' = an.w := by
    rw [hw]
    rcases hw' with ⟨_, h⟩ | h
    · exact absurd h hne
    · exact h
  rw [hww] at h67
  have k1 : j + 1 ≤ 1073741824 := by omega
  have k2 : j + 1 < genK := by show j + 1 < 1000000; omega
  have hal := aC_len l
  rw [hl] at hal
  have htk : (aC l).take (j * 5) = aC l := List.take_of_length_le (by omega)
  have hap := aC_snoc l an
  have q1 : ∀ o2 o3 : Ob, (H ++ [Ob.cells (aC l) j false, o2, o3])[H.length + 1]? = some o2 := fun o2 o3 => by rw [List.getElem?_append_right (by omega)]; simp
  have q0 : ∀ o2 o3 : Ob, (H ++ [Ob.cells (aC l) j false, o2, o3])[H.length]? = some (.cells (aC l) j false) := fun o2 o3 => by simp
  have q2 : ∀ o2 o3 : Ob, (H ++ [Ob.cells (aC l) j false, o2, o3])[H.length + 2]? = some o3 := fun o2 o3 => by rw [List.getElem?_append_right (by omega)]; simp
  have s1 : ∀ o2 x : Ob, (H ++ [Ob.cells (aC l) j false, o2]).set (H.length + 1) x = H ++ [Ob.cells (aC l) j false, x] := fun o2 x => by rw [List.set_append_right _ _ (by omega)]; simp
  have s0 : ∀ o2 o3 x : Ob, (H ++ [Ob.cells (aC l) j false, o2, o3]).set H.length x = H ++ [x, o2, o3] := fun o2 o3 x => by simp
  have hlen : (H ++ [Ob.cells (aC l) j false]).length = H.length + 1 := by simp
  have hlen2 : ∀ x : Ob, (H ++ [Ob.cells (aC l) j false, x]).length = H.length + 2 := fun x => by simp
  refine ⟨⟨[strV b, .c (.os H.length (j + 1) 0 (j + 1) 5 none), i64 ((j + 1 : Nat) : Int), .any, strV a, strV b, bl true, .c (.ptr (H.length + 1) 0 0), bl true, i64 0, .any, bl true, bl false, bl false, bl false, bl false], H ++ [.cells (aC l ++ acC an) (j + 1) false] ++ [.cells (acC an) 0 false, .cells (acC an) 0 false]⟩, ?_, ?_⟩
  · simp only [strV, acC, bl, i64, Int.natCast_zero] at h66 h33
    by_cases hj0 : 0 < j
    · have hlast := hlast (by omega)
      have hlt := hlt hj0
      have w2 : IntKind.i64.wrap (((j + 1 : Nat) : Int) - 2) = ((j - 1 : Nat) : Int) := by rw [← wrap_nat (k := j - 1) (by omega)]; congr 1; omega
      have g2 : ((j + 1 : Nat) : Int) > 1 := by omega
      have g3 : j - 1 < j := by omega
      rw [hl] at hlast hlt
      simp only [fn28L0, R28, acC, strV, binStr, elems, splice, lay, rep, h1, h2, h3, hpc, h66, h33, h67, hlen, hlen2, e0, e1, w2, g2, g3, hlast, hlt, q0, q2, s0, s1, k1, k2, htk, hal, Nat.one_ne_zero, Nat.le_refl, Bool.not_true, List.append_assoc, List.take, List.drop, List.map_cons, List.map_nil, freeze_nil, reachV, reachC, ite_self, List.flatMap_cons, List.flatMap_nil, ↓sp_ixa, evs, Nat.reduceAdd, Nat.reduceLeDiff]
    · have g2 : ¬ ((j + 1 : Nat) : Int) > 1 := by omega
      simp only [fn28L0, R28, acC, strV, elems, splice, lay, rep, h1, h2, h3, hpc, h66, h33, h67, hlen, hlen2, e1, g2, q0, q2, s0, s1, k1, k2, htk, hal, Nat.one_ne_zero, Nat.le_refl, Bool.not_true, List.append_assoc, List.take, List.drop, List.map_cons, List.map_nil, freeze_nil, reachV, reachC, ite_self, List.flatMap_cons, List.flatMap_nil, evs, Nat.reduceAdd, Nat.reduceLeDiff]
  · rw [hap]
    refine tidy_back (by simp) rfl ?_ ?_
    · simp [V.under, C.under, strV, i64]
    · refine Hp.app (hH.mono (by simp)) (Hp.cons ?_ Hp.nil)
      simp only [uO, List.all_append, Bool.and_eq_true]
      refine ⟨?_, rfl⟩
      rw [List.all_eq_true]
      intro c hc
      obtain ⟨d, _, rfl⟩ := List.mem_map.1 hc
      rfl
end
end Mini
end Go.Proofs.YtgjlofpfbhioaaaGreatDoor
namespace Go.Proofs.YtgjlofpfbhioaaaGreatDoor
namespace Mini
open Go
variable {m : Int} {X : Ctx}
/-- The list of a text, the line, the error. -/
def parseN : Nat → List An → List Nat → List An × Nat × Nat
  | 0, l, _ => (l, 0, 0)
  | f + 1, l, s =>
    if s = [] then (l, 0, 0)
    else if 256 < l.length + 1 then ([], l.length + 1, 3)
    else match cutN 10 s with
      | none => ([], l.length + 1, 6)
      | some (a, b) =>
        if (readA a).2 = false then ([], l.length + 1, 6)
        else if chkA (readA a).1.s (readA a).1.l ≠ 0 then ([], l.length + 1, chkA (readA a).1.s (readA a).1.l)
        else if 0 < l.length ∧ strLess (l.getD (l.length - 1) a0).s (readA a).1.s = false then ([], l.length + 1, 13)
        else parseN f (l ++ [(readA a).1]) b
theorem getD_len (q : List (List Nat)) (b j : Nat) (h : ∀ x ∈ q, x.length ≤ b) : (q.getD j []).length ≤ b := by
  rw [List.getD_eq_getElem?_getD]
  cases hx : q[j]? with
  | none => simp
  | some x => exact h x (List.mem_of_getElem? hx)
theorem readA_wf (s : List Nat) : isSet (readA s).1.w (readA s).1.l ∧ wfS (readA s).1.l ∧ (readA s).1.s.length ≤ s.length ∧ (readA s).1.l.length ≤ s.length + 1 ∧ ((readA s).2 = true → (readA s).1.w = slO (readA s).1.l) := by
  have h0 : isSet a0.w a0.l ∧ wfS a0.l ∧ a0.s.length ≤ s.length ∧ a0.l.length ≤ s.length + 1 ∧ (false = true → a0.w = slO a0.l) := ⟨.inl ⟨rfl, rfl⟩, (fun _ h => by cases h), Nat.zero_le _, Nat.zero_le _, fun h => by cases h⟩
  obtain ⟨h1, h2⟩ := splitN_len 32 s
  obtain ⟨h3, _⟩ := splitN_len 44 ((splitN 32 s).getD 2 [])
  have h4 := getD_len _ _ 2 h2
  have h5 := getD_len _ _ 1 h2
  unfold readA
  split
  · exact h0
  split
  · exact h0
  · refine ⟨.inr rfl, osP_wf _ _, h5, ?_, fun _ => rfl⟩
    simp only [anR]
    rw [osP_len _ (Nat.le_refl _)]
    omega
abbrev E28 (id n : Nat) : List V := [strV [], .c (.os id n 0 n 5 none), i64 (n : Int), .any, .any, .any, .any, .any, .any, .any, .any, bl false, .any, .any, .any, .any]
theorem it28 (hX : XOk m X) {N : Nat} {H : Heap} (hH : Hp H.length H) : ∀ (f fuel : Nat) (l : List An) (s : List Nat), s.length < f → f ≤ fuel → s.length + 600 ≤ N → s.length < 800000 → l.length ≤ 256 →
    ∃ e s', iter (some [0, 1, 2]) (H.length + 1) (exec (zenv X N) N false fn28L0) fuel ⟨R28 s H.length l.length, H ++ [.cells (aC l) l.length false]⟩ = some (e, s') ∧
      (if (parseN f l s).2.2 = 0 then e = .exit 0 ∧ (parseN f l s).2.1 = 0 ∧ s' = ⟨E28 H.length (parseN f l s).1.length, H ++ [.cells (aC (parseN f l s).1) (parseN f l s).1.length false]⟩
       else e = .ret ∧ nth s'.regs 1 = .c (.d .nils) ∧ nth s'.regs 2 = i64 ((parseN f l s).2.1 : Nat) ∧ nth s'.regs 3 = i64 ((parseN f l s).2.2 : Nat) ∧ ∃ t, s'.heap = H ++ t) := by
  intro f
  induction f with
  | zero => intro fuel l s h; exact absurd h (Nat.not_lt_zero _)
  | succ f ih =>
    intro fuel l s hf hfu hN hs hl
    obtain ⟨fuel, rfl⟩ : ∃ k, fuel = k + 1 := ⟨fuel - 1, by omega⟩
    unfold parseN
    have out : ∀ {e : Ex} {s' : St} {st : St}, exec (zenv X N) N false fn28L0 st = some (e, s') → e ≠ .nrm → iter (some [0, 1, 2]) (H.length + 1) (exec (zenv X N) N false fn28L0) (fuel + 1) st = some (e, s') := by
      intro e s' st h he
      simp only [iter, h]
      cases e with
      | nrm => exact absurd rfl he
      | _ => rfl
    by_cases hs0 : s = []
    · subst hs0
      rw [if_pos rfl]
      exact ⟨_, _, out (r28_end hX H.length) (by simp), by rw [if_pos rfl]; exact ⟨rfl, rfl, rfl⟩⟩
    rw [if_neg hs0]
    by_cases h256 : 256 < l.length + 1
    · rw [if_pos h256]
      obtain ⟨s', h1, h2, h3, h4, h5⟩ := r28_lim hX (N := N) (H := H ++ [.cells (aC l) l.length false]) H.length hs0 h256 (by omega)
      exact ⟨_, _, out h1 (by simp), by rw [if_neg (by simp)]; exact ⟨rfl, h2, h3, h4, _, h5⟩⟩
    rw [if_neg h256]
    cases hc : cutN 10 s with
    | none =>
      have h66 := hX.vc (k := 66) (F := fn66) rfl (f66 hX (N := N) (s := s) (by omega) (by omega))
      obtain ⟨s', h1, h2, h3, h4, t, h5⟩ := r28_cut hX (N := N) (H := H) (j := l.length) hs0 (by omega) (by omega) hc (.cells (aC l) l.length false) h66
      exact ⟨_, _, out h1 (by simp), by simp only; rw [if_neg (by simp)]; exact ⟨trivial, h2, h3, h4, t, h5⟩⟩
    | some p =>
      obtain ⟨a, b⟩ := p
      simp only
      have hcl := cut_len hc
      have h66 := hX.vc (k := 66) (F := fn66) rfl (f66 hX (N := N) (s := a) (by omega) (by omega))
      obtain ⟨w1, w2, w3, w4, w5⟩ := readA_wf a
      have h33 : (zenv X N).vcall 33 [.agg (acC (readA a).1)] = some (i64 (chkA (readA a).1.s (readA a).1.l)) := hX.vc (k := 33) (F := fn33) rfl (f33g hX (by omega) (by omega) w1 w2 (by omega))
      cases hok : (readA a).2 with
      | false =>
        rw [if_pos rfl]
        rw [hok] at h66
        obtain ⟨s', h1, h2, h3, h4, t, h5⟩ := r28_form hX (N := N) (H := H) (j := l.length) hs0 (by omega) (by omega) hc (.cells (aC l) l.length false) h66 rfl
        exact ⟨_, _, out h1 (by simp), by rw [if_neg (by simp)]; exact ⟨rfl, h2, h3, h4, t, h5⟩⟩
      | true =>
        rw [if_neg (by simp)]
        rw [hok] at h66
        by_cases hz : chkA (readA a).1.s (readA a).1.l = 0
        case neg =>
          rw [if_pos hz]
          obtain ⟨s', h1, h2, h3, h4, t, h5⟩ := r28_chk hX (N := N) (H := H) (j := l.length) hs0 (by omega) (by omega) hc (.cells (aC l) l.length false) h66 rfl h33 hz
          exact ⟨_, _, out h1 (by simp), by rw [if_neg hz]; exact ⟨rfl, h2, h3, h4, t, h5⟩⟩
        rw [if_neg (by rw [hz]; simp)]
        by_cases ho : 0 < l.length ∧ strLess (l.getD (l.length - 1) a0).s (readA a).1.s = false
        · rw [if_pos ho]
          obtain ⟨s', h1, h2, h3, h4, t, h5⟩ := r28_ord hX (N := N) (H := H) (j := l.length) (l := l) hs0 (by omega) (by omega) hc (.cells (aC l) l.length false) h66 rfl h33 hz rfl ho.1 ho.2
          exact ⟨_, _, out h1 (by simp), by rw [if_neg (by simp)]; exact ⟨rfl, h2, h3, h4, t, h5⟩⟩
        · rw [if_neg ho]
          obtain ⟨s', h1, h2⟩ := r28_ok hX (N := N) (H := H) (j := l.length) (l := l) (by omega) hs0 (by omega) (by omega) hc h66 rfl h33 hz rfl (fun hp => by
            cases hq : strLess (l.getD (l.length - 1) a0).s (readA a).1.s
            · exact absurd ⟨hp, hq⟩ ho
            · rfl) w1 w2 (w5 hok) hH
          have hlen : (l ++ [(readA a).1]).length = l.length + 1 := by simp
          have := ih fuel (l ++ [(readA a).1]) b (by omega) (by omega) (by omega) (by omega) (by omega)
          rw [hlen] at this
          obtain ⟨e, s2, h3, h4⟩ := this
          refine ⟨e, s2, ?_, h4⟩
          rw [iter_step h1, h2]
          exact h3
theorem f28 (hX : XOk m X) {N : Nat} {s : List Nat} {H : Heap} (hN : s.length + 700 ≤ N) (hs : s.length < 800000) (hH : Hp H.length H) : ∃ r t, callN X N (.d (.fn 28 [] [])) [strV s] H = some (.tup [r, i64 ((parseN (s.length + 1) [] s).2.1 : Nat), i64 ((parseN (s.length + 1) [] s).2.2 : Nat)], H ++ t) ∧
      (if (parseN (s.length + 1) [] s).2.2 = 0 then (parseN (s.length + 1) [] s).2.1 = 0 ∧ r = .c (.os H.length (parseN (s.length + 1) [] s).1.length 0 (parseN (s.length + 1) [] s).1.length 5 (some (parseN (s.length + 1) [] s).1.length)) ∧ t = [.cells (aC (parseN (s.length + 1) [] s).1) (parseN (s.length + 1) [] s).1.length false] else r = .c (.d .nils)) := by
  obtain ⟨N, rfl⟩ : ∃ M, N = M + 1 := ⟨N - 1, by omega⟩
  have hF : fnsA 28 = some fn28' := rfl
  obtain ⟨e, s', hit, hres⟩ := it28 hX (N := N) hH (s.length + 1) N [] s (by omega) (by omega) (by omega) hs (by simp)
  have hc : ¬ (s.length : Int) > 1048576 := by omega
  have ha0 : aC [] = [] := rfl
  have hlen1 : ∀ o : Ob, (H ++ [o]).length = H.length + 1 := fun o => by simp
  rw [hX.fn hF]
  generalize parseN (s.length + 1) [] s = P at *
  simp only [R28, strV, i64, ha0, List.length_nil, Int.natCast_zero] at hit
  by_cases hz : P.2.2 = 0
  · rw [if_pos hz] at hres
    simp only [if_pos hz]
    obtain ⟨rfl, hline, rfl⟩ := hres
    obtain ⟨N, rfl⟩ : ∃ M, N = M + 1 := ⟨N - 1, by omega⟩
    have h68 : callN X (N + 1) (.d (.fn 68 [] [])) [.c (.os H.length P.1.length 0 P.1.length 5 none)] (H ++ [.cells (aC P.1) P.1.length false]) = some (.c (.os H.length P.1.length 0 P.1.length 5 (some P.1.length)), H ++ [.cells (aC P.1) P.1.length false]) := by
      rw [hX.fn (F := fn68) rfl]
      refine (rf_fin _ _ _ _ _ _ _ _ _ (by rfl)).trans ?_
      simp only [optNat, Option.map_none, Option.getD_none, Nat.zero_le, Nat.le_refl, Nat.sub_zero, ↓sp_len, evs, Nat.reduceMul, Nat.reduceSub]
    refine ⟨_, _, (rf_fin _ _ _ _ _ _ _ _ _ (by rfl)).trans ?_, hline, rfl, rfl⟩
    rw [hline, hz]
    simp only [E28, strV, i64, bl] at hit
    simp only [strV, hc, ex_fresh, frn_nil, hlen1, hit, h68, Int.natCast_zero, List.map_cons, List.map_nil, evs, Nat.reduceAdd, Nat.reduceBEq, Nat.reduceSub]
  · rw [if_neg hz] at hres
    simp only [if_neg hz]
    obtain ⟨rfl, h1, h2, h3, t, h4⟩ := hres
    obtain ⟨r, HH⟩ := s'
    simp only at h1 h2 h3 h4
    subst h4
    refine ⟨_, t, (rf_fin _ _ _ _ _ _ _ _ _ (by rfl)).trans ?_, rfl⟩
    simp only [i64] at h2 h3
    simp only [strV, hc, ex_fresh, frn_nil, hlen1, hit, h1, h2, h3, evs, Nat.reduceAdd, Nat.reduceBEq, Nat.reduceSub]
end Mini
end Go.Proofs.YtgjlofpfbhioaaaGreatDoor
namespace Go.Proofs.YtgjlofpfbhioaaaGreatDoor
namespace Mini
open Go
/-! ### Numbers in decimal -/
theorem isDig_of {n : Nat} (h : n < 10) : isDig (48 + n) = true := by
  simp only [isDig, Bool.and_eq_true, Nat.ble_eq]; omega
theorem decF_dig : ∀ f n, ∀ b ∈ decF f n, isDig b = true
  | 0, n, b, h => by
    simp only [decF, List.mem_singleton] at h
    subst h; exact isDig_of (by omega)
  | f + 1, n, b, h => by
    unfold decF at h
    split at h
    · rename_i hn
      rw [List.mem_singleton] at h
      subst h; exact isDig_of hn
    · rw [List.mem_append, List.mem_singleton] at h
      rcases h with h | h
      · exact decF_dig f _ b h
      · subst h; exact isDig_of (by omega)
theorem numN_decF : ∀ f n, n < 10 ^ (f + 1) → numN 0 (decF f n) = n
  | 0, n, h => by
    have : n < 10 := by simpa using h
    simp only [decF, numN, List.foldl_cons, List.foldl_nil]
    omega
  | f + 1, n, h => by
    unfold decF
    split
    · rename_i hn
      simp only [numN, List.foldl_cons, List.foldl_nil]
      omega
    · rw [numN_snoc, numN_decF f (n / 10) (by rw [Nat.pow_succ] at h; omega)]
      omega
theorem decF_head : ∀ f n, 0 < n → n < 10 ^ (f + 1) → (decF f n).getD 0 0 ≠ 48
  | 0, n, h0, h => by
    have : n < 10 := by simpa using h
    simp only [decF, List.getD_cons_zero]
    omega
  | f + 1, n, h0, h => by
    unfold decF
    split
    · simp only [List.getD_cons_zero]; omega
    · have ih := decF_head f (n / 10) (by omega) (by rw [Nat.pow_succ] at h; omega)
      have hne := (decF_len f (n / 10)).2
      cases hd : decF f (n / 10) with
      | nil => rw [hd] at hne; exact absurd hne (by simp)
      | cons x t =>
        rw [hd] at ih
        simpa using ih
theorem decN_num {n : Nat} (h : n < 4294967296) : numN 0 (decN n) = n := numN_decF 20 n (Nat.lt_of_lt_of_le h (by decide))
theorem decN_dec {n : Nat} (h : n < 4294967296) : decB (decN n) = true := by
  have hd : (decN n).all isDig = true := List.all_eq_true.2 (decF_dig 20 n)
  rcases Nat.eq_zero_or_pos n with rfl | hp
  · decide
  · have h1 := decF_head 20 n hp (Nat.lt_of_lt_of_le h (by decide))
    have h2 : decN n ≠ [] := fun he => by
      have := (decF_len 20 n).2
      change 0 < (decN n).length at this
      rw [he] at this; exact absurd this (by simp)
    unfold decB
    rw [decide_eq_true h2, decide_eq_true (show (decN n).getD 0 0 ≠ 48 from h1), hd]
    simp
/-! ### Words between a byte -/
theorem splitN_word {c : Nat} : ∀ {x : List Nat}, c ∉ x → splitN c x = [x]
  | [], _ => rfl
  | y :: x, h => by
    rw [List.mem_cons, not_or] at h
    rw [splitN, if_neg (fun he => h.1 he.symm), splitN_word h.2]
theorem splitN_cons {c : Nat} (rest : List Nat) : ∀ {x : List Nat}, c ∉ x → splitN c (x ++ c :: rest) = x :: splitN c rest
  | [], _ => by rw [List.nil_append, splitN, if_pos rfl]
  | y :: x, h => by
    rw [List.mem_cons, not_or] at h
    rw [List.cons_append, splitN, if_neg (fun he => h.1 he.symm), splitN_cons rest h.2]
theorem splitN_join {c : Nat} : ∀ {l : List (List Nat)}, l ≠ [] → (∀ x ∈ l, c ∉ x) → splitN c (joinN [c] l) = l
  | [], h, _ => absurd rfl h
  | [x], _, h => by rw [joinN]; exact splitN_word (h x (by simp))
  | x :: y :: l, _, h => by
    rw [joinN, List.append_assoc, List.singleton_append, splitN_cons _ (h x (by simp)), splitN_join (by simp) (fun z hz => h z (List.mem_cons_of_mem _ hz))]
theorem cutN_word {c : Nat} (rest : List Nat) : ∀ {x : List Nat}, c ∉ x → cutN c (x ++ c :: rest) = some (x, rest)
  | [], _ => by rw [List.nil_append, cutN, if_pos rfl]
  | y :: x, h => by
    rw [List.mem_cons, not_or] at h
    rw [List.cons_append, cutN, if_neg (fun he => h.1 he.symm), cutN_word rest h.2]
/-! ### OIDs -/
theorem textO_char (o : Oid) : ∀ c ∈ textO o, isDig c = true ∨ c = 46 := fun c hc => by
  rcases joinN_mem [46] hc with h | ⟨x, h1, h2⟩
  · rw [List.mem_singleton] at h; exact .inr h
  · obtain ⟨n, _, rfl⟩ := List.mem_map.1 h1
    exact .inl (decF_dig 20 n c h2)
theorem isDig_rng {c : Nat} (h : isDig c = true) : 48 ≤ c ∧ c ≤ 57 := by
  simpa [isDig, Nat.ble_eq] using h
theorem arrP_eq (ps : List (List Nat)) : ∀ j, j ≤ 16 → j ≤ ps.length → arrP ps j = (ps.take j).map valP ++ List.replicate (16 - j) 0
  | 0, _, _ => by simp [arrP]
  | j + 1, h1, h2 => by
    have ih := arrP_eq ps j (by omega) (by omega)
    have hx : ps[j]? = some (ps.getD j []) := by rw [List.getD_eq_getElem?_getD, List.getElem?_eq_getElem (by omega)]; rfl
    have hl : ((ps.take j).map valP).length = j := by simp; omega
    rw [arrP, if_pos (by omega), ih, List.take_add_one, hx, Option.toList_some, List.map_append, List.set_append_right _ _ (by omega), hl, Nat.sub_self, show 16 - j = (16 - (j + 1)) + 1 by omega, List.replicate_succ, List.set_cons_zero]
    simp
theorem largeP_no (ps : List (List Nat)) (h : ∀ x ∈ ps, numN 0 x ≤ 4294967295) : ∀ j, largeP ps j = false
  | 0 => rfl
  | j + 1 => by
    rw [largeP, largeP_no ps h j, Bool.false_or, decide_eq_false_iff_not]
    rw [List.getD_eq_getElem?_getD]
    cases hx : ps[j]? with
    | none => simp [numN]
    | some x =>
      have := h x (List.mem_of_getElem? hx)
      simp only [Option.getD_some]
      omega
theorem chkO_tail {o : Oid} (h : chkO o = 0) : (o.2.drop o.1).all (· == 0) = true := by
  unfold chkO at h
  split at h
  · cases h
  split at h
  · cases h
  split at h
  · assumption
  · cases h
theorem parse_text {o : Oid} (hw : wfO o) (hc : chkO o = 0) : parseO (textO o) = (o, 0) := by
  have hn := chkO_n hc
  have hal := arcsO_len hw
  rw [Nat.min_eq_left hn.2] at hal
  have hlt : ∀ x ∈ arcsO o, x < 4294967296 := fun x hx => hw.2.2 x (List.mem_of_mem_take hx)
  have hsp : splitN 46 (textO o) = (arcsO o).map decN := by
    refine splitN_join (fun he => ?_) (fun x hx => ?_)
    · have := congrArg List.length he
      rw [List.length_map, hal] at this
      simp only [List.length_nil] at this
      omega
    · obtain ⟨n, _, rfl⟩ := List.mem_map.1 hx
      intro h
      have := isDig_rng (decF_dig 20 n 46 h)
      omega
  have hpl : ((arcsO o).map decN).length = o.1 := by rw [List.length_map, hal]
  have h1 : ((arcsO o).map decN).all decB = true := List.all_eq_true.2 fun x hx => by
    obtain ⟨n, hn, rfl⟩ := List.mem_map.1 hx
    exact decN_dec (hlt n hn)
  have h2 : ∀ x ∈ (arcsO o).map decN, numN 0 x ≤ 4294967295 := fun x hx => by
    obtain ⟨n, hn, rfl⟩ := List.mem_map.1 hx
    rw [decN_num (hlt n hn)]
    have := hlt n hn
    omega
  have h3 : arrP ((arcsO o).map decN) o.1 = o.2 := by
    rw [arrP_eq _ _ hn.2 (by omega), List.take_of_length_le (by omega), List.map_map]
    have e1 : (arcsO o).map (valP ∘ decN) = arcsO o := by
      conv => rhs; rw [← List.map_id (arcsO o)]
      refine List.map_congr_left fun x hx => ?_
      simp only [Function.comp, valP, decN_num (hlt x hx), id]
      have := hlt x hx
      rw [if_pos (by omega)]
    have e2 : List.replicate (16 - o.1) 0 = o.2.drop o.1 := by
      have ht := chkO_tail hc
      rw [List.all_eq_true] at ht
      symm
      rw [List.eq_replicate_iff]
      refine ⟨by rw [List.length_drop, hw.2.1], fun x hx => by simpa using ht x hx⟩
    rw [e1, e2, arcsO, List.take_append_drop]
  unfold parseO
  rw [hsp, hpl, h3, if_neg (by rw [h1]; simp), if_neg (by omega), if_neg (by rw [largeP_no _ h2]; simp), if_neg (by rw [hc]; simp)]
/-! ### Lines -/
def fwA (a : An) : List (List Nat) := (if a.e then [wExp] else []) ++ (if a.nm then [wMap] else []) ++ (if a.na then [wAny] else [])
def lineA (a : An) : List Nat := joinN [32] ([wAnc, a.s, setT a.l] ++ fwA a)
theorem textA_line (a : An) : textA a = lineA a ++ [10] := by
  unfold textA lineA fwA fl0 fl1 fl2
  cases a.e <;> cases a.nm <;> cases a.na <;> simp [joinN, ancT, wAnc]
def nrm (a : An) : An := { a with w := slO a.l }
theorem okB_rng {c : Nat} (h : okB c = true) : 45 ≤ c := by
  simp only [okB, letB, digB, Bool.or_eq_true, Bool.and_eq_true, decide_eq_true_eq] at h
  omega
theorem setT_char (l : List Oid) : ∀ c ∈ setT l, 44 ≤ c := fun c hc => by
  rcases joinN_mem [44] hc with h | ⟨x, h1, h2⟩
  · rw [List.mem_singleton] at h; omega
  · obtain ⟨o, _, rfl⟩ := List.mem_map.1 h1
    rcases textO_char o c h2 with h | h
    · have := isDig_rng h; omega
    · omega
theorem fwA_rest (a : An) : restP (fwA a) 3 = [] ∧ flgP (fwA a) 0 = a.e ∧ flgP (fwA a) 1 = a.nm ∧ flgP (fwA a) 2 = a.na := by
  unfold fwA
  cases a.e <;> cases a.nm <;> cases a.na <;> decide
theorem fwA_char (a : An) : ∀ x ∈ fwA a, ∀ c ∈ x, 44 ≤ c := by
  have h1 : ∀ c ∈ wExp, 44 ≤ c := by decide
  have h2 : ∀ c ∈ wMap, 44 ≤ c := by decide
  have h3 : ∀ c ∈ wAny, 44 ≤ c := by decide
  intro x hx
  simp only [fwA, List.mem_append] at hx
  rcases hx with (h | h) | h <;> split at h <;> simp at h <;> subst h <;> assumption
theorem words_char {a : An} (hc : chkA a.s a.l = 0) : ∀ x ∈ [wAnc, a.s, setT a.l] ++ fwA a, ∀ c ∈ x, 44 ≤ c := by
  have h1 := nameB_ok (chkA_name hc)
  have h2 : ∀ c ∈ wAnc, 44 ≤ c := by decide
  intro x hx
  simp only [List.mem_append, List.mem_cons, List.not_mem_nil, or_false] at hx
  rcases hx with (rfl | rfl | rfl) | h
  · exact h2
  · exact fun c hc => by have := okB_rng (h1.2.2 c hc); omega
  · exact setT_char _
  · exact fwA_char a x h
theorem split_line {a : An} (hc : chkA a.s a.l = 0) : splitN 32 (lineA a) = [wAnc, a.s, setT a.l] ++ fwA a := by
  refine splitN_join (by simp) (fun x hx h => ?_)
  have := words_char hc x hx 32 h
  omega
theorem split_set {l : List Oid} (h : l ≠ []) : splitN 44 (setT l) = l.map textO := by
  refine splitN_join (by simpa using h) (fun x hx => ?_)
  obtain ⟨o, _, rfl⟩ := List.mem_map.1 hx
  intro h
  rcases textO_char o 44 h with h | h
  · have := isDig_rng h; omega
  · omega
theorem read_line {a : An} (hw : wfS a.l) (hc : chkA a.s a.l = 0) : readA (lineA a) = (nrm a, true) := by
  have hs := split_line hc
  have hne := chkA_ne hc
  have hck := chkS_ok (chkA_zero hc)
  have hp : ∀ j, j < (a.l.map textO).length → parseO ((a.l.map textO).getD j []) = (a.l.getD j o0, 0) := fun j hj => by
    rw [List.length_map] at hj
    have hm := getD_mem hj
    rw [List.getD_eq_getElem?_getD, List.getElem?_map, List.getElem?_eq_getElem hj]
    simp only [Option.map_some, Option.getD_some]
    have : a.l.getD j o0 = a.l[j] := by rw [List.getD_eq_getElem?_getD, List.getElem?_eq_getElem hj]; rfl
    rw [this] at hm ⊢
    exact parse_text (hw _ hm) (hck _ hm)
  have h0 : ([wAnc, a.s, setT a.l] ++ fwA a).getD 0 [] = wAnc := rfl
  have h1 : ([wAnc, a.s, setT a.l] ++ fwA a).getD 1 [] = a.s := rfl
  have h2 : ([wAnc, a.s, setT a.l] ++ fwA a).getD 2 [] = setT a.l := rfl
  have h3 : ([wAnc, a.s, setT a.l] ++ fwA a).drop 3 = fwA a := rfl
  have hok : itemsOk (a.l.map textO) := fun j hj => by rw [hp j hj]
  have hos : osP (a.l.map textO) (a.l.map textO).length = a.l := by
    unfold osP
    rw [List.take_length, List.map_map]
    conv => rhs; rw [← List.map_id a.l]
    refine List.map_congr_left fun o ho => ?_
    simp only [Function.comp, parse_text (hw o ho) (hck o ho), id]
  obtain ⟨r1, r2, r3, r4⟩ := fwA_rest a
  unfold readA
  rw [hs, h2, split_set hne, h0]
  rw [if_neg (fun h => h.elim (fun h => by simp only [List.length_append, List.length_cons, List.length_nil] at h; omega) (fun h => h rfl)), if_neg (by simpa using hok)]
  unfold anR
  rw [h1, h2, h3, split_set hne, hos, r1, r2, r3, r4]
  rfl
theorem cut_line {a : An} (hc : chkA a.s a.l = 0) (rest : List Nat) : cutN 10 (textA a ++ rest) = some (lineA a, rest) := by
  rw [textA_line, List.append_assoc, List.singleton_append]
  refine cutN_word rest (fun h => ?_)
  rcases joinN_mem [32] h with h | ⟨x, h1, h2⟩
  · rw [List.mem_singleton] at h; omega
  · have := words_char hc x h1 10 h2
    omega
/-- Names ascend. -/
def Asc (l : List An) : Prop := ∀ i, 0 < i → i < l.length → strLess (l.getD (i - 1) a0).s (l.getD i a0).s = true
theorem parse_one {f : Nat} {l : List An} {a : An} {rest : List Nat} (hw : wfS a.l) (hc : chkA a.s a.l = 0) (hl : l.length < 256) (ho : 0 < l.length → strLess (l.getD (l.length - 1) a0).s a.s = true) : parseN (f + 1) l (textA a ++ rest) = parseN f (l ++ [nrm a]) rest := by
  have hne : textA a ++ rest ≠ [] := by rw [textA_line]; simp
  rw [parseN, if_neg hne, if_neg (by omega), cut_line hc]
  simp only [read_line hw hc]
  rw [if_neg (by simp), if_neg (by simp [nrm, hc]), if_neg (by rintro ⟨h1, h2⟩; rw [nrm, ho h1] at h2; cases h2)]
theorem getD_left {l : List An} {u : List An} {i : Nat} (h : i < l.length) : (l ++ u).getD i a0 = l.getD i a0 := by
  rw [List.getD_eq_getElem?_getD, List.getD_eq_getElem?_getD, List.getElem?_append_left h]
theorem parse_many : ∀ (us : List An) {f : Nat} {l : List An} {rest : List Nat}, (∀ a ∈ us, wfS a.l) → (∀ a ∈ us, chkA a.s a.l = 0) → l.length + us.length ≤ 256 → Asc (l ++ us) → parseN (f + us.length) l (textL us ++ rest) = parseN f (l ++ us.map nrm) rest
  | [], f, l, rest, _, _, _, _ => by simp [textL]
  | a :: us, f, l, rest, h1, h2, h3, h4 => by
    have hl : l.length < 256 := by simp only [List.length_cons] at h3; omega
    have hg : (l ++ a :: us).getD l.length a0 = a := by
      rw [List.getD_eq_getElem?_getD, List.getElem?_append_right (Nat.le_refl _), Nat.sub_self]; rfl
    have hstep := parse_one (f := f + us.length) (l := l) (a := a) (rest := textL us ++ rest) (h1 a List.mem_cons_self) (h2 a List.mem_cons_self) hl (fun hp => by
      have := h4 l.length hp (by simp)
      rw [hg, getD_left (by omega)] at this
      exact this)
    have ht : textL (a :: us) ++ rest = textA a ++ (textL us ++ rest) := by simp [textL]
    rw [ht, List.length_cons, ← Nat.add_assoc, hstep]
    have ih := parse_many us (f := f) (l := l ++ [nrm a]) (rest := rest) (fun x hx => h1 x (List.mem_cons_of_mem _ hx)) (fun x hx => h2 x (List.mem_cons_of_mem _ hx)) (by simp only [List.length_append, List.length_cons, List.length_nil] at h3 ⊢; omega) (by
      intro i hi hi2
      have hlen : (l ++ [nrm a] ++ us).length = (l ++ a :: us).length := by simp
      have hs : ∀ k, ((l ++ [nrm a] ++ us).getD k a0).s = ((l ++ a :: us).getD k a0).s := by
        intro k
        rw [List.append_assoc, List.singleton_append]
        rcases Nat.lt_trichotomy k l.length with h | h | h
        · rw [getD_left h, getD_left h]
        · subst h
          rw [hg, List.getD_eq_getElem?_getD, List.getElem?_append_right (Nat.le_refl _), Nat.sub_self]
          rfl
        · rw [List.getD_eq_getElem?_getD, List.getD_eq_getElem?_getD, List.getElem?_append_right (by omega), List.getElem?_append_right (by omega)]
          obtain ⟨d, hd⟩ : ∃ d, k - l.length = d + 1 := ⟨k - l.length - 1, by omega⟩
          rw [hd]
          rfl
      rw [hs, hs]
      exact h4 i hi (by omega))
    rw [ih, List.map_cons, List.append_assoc, List.singleton_append]
theorem aC_u (n : Nat) (l : List An) : (aC l).all (uC n) = true := by
  rw [List.all_eq_true]
  intro c hc
  obtain ⟨d, _, rfl⟩ := List.mem_map.1 hc
  rfl
theorem textL_ge {l : List An} (h : ∀ a ∈ l, chkA a.s a.l = 0) : l.length ≤ (textL l).length := by
  induction l with
  | nil => simp
  | cons a l ih =>
    have := ih (fun x hx => h x (List.mem_cons_of_mem _ hx))
    have h2 := (textA_len (h a List.mem_cons_self)).1
    simp only [textL, List.flatMap_cons, List.length_append, List.length_cons] at this ⊢
    omega
theorem deep_an {H : Heap} {id g n : Nat} {l : List An} {f : Bool} {c : Option Nat} (hH : H[id]? = some (.cells (aC l) g f)) (hn : l.length = n) : deepC H deepMax (.os id g 0 n 5 c) = some (.sl (l.flatMap An.ds) n) := by
  have hal := aC_len l
  have p2 : ((aC l).drop 0).take (n * 5) = (l.flatMap An.ds).map .d := by
    rw [List.drop_zero, List.take_of_length_le (by omega)]; rfl
  have p1 : 0 + n * 5 ≤ (aC l).length := by omega
  simp only [deepMax, deepC, ob_eq, hH, if_true, if_pos p1, p2, mapO_d, Option.map_some]
theorem alike_self (l : List An) : alikeL l l := ⟨rfl, fun _ _ => eqA_refl _⟩
theorem reach_d (H : Heap) (k : Nat) : ∀ {cs : List C}, cs.all C.isD = true → cs.flatMap (reachC H k) = []
  | [], _ => rfl
  | c :: cs, h => by
    rw [List.all_cons, Bool.and_eq_true] at h
    rw [List.flatMap_cons, reach_d H k h.2, List.append_nil]
    cases c with
    | d x => simp [reachC]
    | _ => cases h.1
theorem oC_d (o : Oid) : (oC o).all C.isD = true := by
  rw [List.all_eq_true]
  intro c hc
  obtain ⟨d, _, rfl⟩ := List.mem_map.1 hc
  rfl
end Mini
end Go.Proofs.YtgjlofpfbhioaaaGreatDoor
namespace Go.Proofs.YtgjlofpfbhioaaaGreatDoor
namespace Mini
open Go
variable {m : Int} {X : Ctx}
theorem f26 (hX : XOk m X) {N : Nat} (hN : 400 ≤ N) {a : An} (ha : isSet a.w a.l) (hw : wfS a.l) (hc : chkA a.s a.l = 0) : vcallN X N 26 [.agg (acC a)] = some (strV (textA a)) := by
  obtain ⟨N, rfl⟩ : ∃ M, N = M + 1 := ⟨N - 1, by omega⟩
  have hF : fnsA 26 = some fn26' := rfl
  have k1 := nameB_ok (chkA_name hc)
  have k3 := chkS_len (chkA_zero hc)
  have k4 := chkS_ok (chkA_zero hc)
  have hlw := ha.len
  have hst := setT_take a.l (fun o ho => (chkO_n (k4 o ho)).2)
  have hit : iter (some [1, 3, 4]) 1 (exec (zenv X N) N false fn26L0) N ⟨[.any, .c (.ptr 0 0 0), .any, strV (ancT ++ a.s ++ [32] ++ setT (a.l.take 0)), i64 ((0 : Nat) : Int), .any, .any, .any, .any, .any], [.cells (acC a) 0 false]⟩ = some (.exit 0, ⟨[.any, .c (.ptr 0 0 0), .any, strV (ancT ++ a.s ++ [32] ++ setT (a.l.take a.l.length)), i64 (a.l.length : Int), bl false, .any, .any, .any, .any], [.cells (acC a) 0 false]⟩) := by
    refine iter_to (fun j => ⟨[.any, .c (.ptr 0 0 0), .any, strV (ancT ++ a.s ++ [32] ++ setT (a.l.take j)), i64 (j : Int), .any, .any, .any, .any, .any], [.cells (acC a) 0 false]⟩) (e := .exit 0) (fun h => by cases h) a.l.length 0 N (fun j _ hj => ?_) ?_ (by omega)
    · have hj1 : j < a.l.length := by omega
      have ho := hw.at hj1
      have h1 := ha.at hw hj1
      have h2 := flatO_at hw hj1
      have h4 : (j : Int) < (a.l.length : Int) := by omega
      have h6 := wrap_succ (k := j) (by omega)
      have hon := chkO_n (k4 _ (getD_mem hj1))
      have h58 := hX.vc (k := 58) (F := fn58) rfl (f58 hX (N := N) (by omega) ho hon.2)
      have hto := textO_len _ hon.2
      have hlo := oC_len ho
      have hsl := hst j
      have hsu := setT_succ a.l hj1
      rw [hsu]
      have hlen : (ancT ++ a.s ++ [32] ++ setT (a.l.take j)).length ≤ 200000 := by
        simp only [ancT, List.length_append, List.length_cons, List.length_nil]; omega
      have hm : ∀ H : Heap, mapO (deepC H deepMax) (oC (a.l.getD j o0)) = some (oD (a.l.getD j o0)) := fun H => mapO_d H _ _
      have hd : List.map C.d (oD (a.l.getD j o0)) = oC (a.l.getD j o0) := rfl
      rw [show ancT ++ a.s ++ [32] ++ (setT (a.l.take j) ++ (if j = 0 then [] else [44]) ++ textO (a.l.getD j o0)) = ancT ++ a.s ++ [32] ++ setT (a.l.take j) ++ (if j = 0 then [] else [44]) ++ textO (a.l.getD j o0) by simp only [List.append_assoc]]
      generalize ancT ++ a.s ++ [32] ++ setT (a.l.take j) = T at *
      generalize a.l.getD j o0 = o at *
      simp only [strV] at h58
      simp only [acC]
      by_cases hz : j = 0
      · have g1 : ¬ (j : Int) > 0 := by omega
        have g2 : T.length + (textO o).length ≤ 1073741824 := by omega
        rw [if_pos hz, List.append_nil]
        refine ⟨⟨[.any, .c (.ptr 0 0 0), .any, strV (T ++ textO o), i64 ((j + 1 : Nat) : Int), bl true, bl false, .any, .any, .any], [.cells (acC a) 0 false]⟩, ?_, gc_le (Nat.le_refl 1)⟩
        simp only [fn26L0, acC, ob?, strV, binStr, hlw, h1, h2, h4, h6, h58, hm, hd, hlo, g1, g2, List.take, List.drop, ↓sp_len, ↓sp_ixa, evs]
      · have g1 : (j : Int) > 0 := by omega
        have g2 : T.length + 1 ≤ 1073741824 := by omega
        have g3 : T.length + 1 + (textO o).length ≤ 1073741824 := by omega
        have g4 : T.length ≤ 1073741823 := by omega
        rw [if_neg hz]
        refine ⟨⟨[.any, .c (.ptr 0 0 0), .any, strV (T ++ [44] ++ textO o), i64 ((j + 1 : Nat) : Int), bl true, bl true, .any, .any, .any], [.cells (acC a) 0 false]⟩, ?_, gc_le (Nat.le_refl 1)⟩
        simp only [fn26L0, acC, ob?, strV, binStr, hlw, h1, h2, h4, h6, h58, hm, hd, hlo, g1, g2, g3, List.length_append, List.take, List.drop, ↓sp_len, ↓sp_ixa, evs]
    · rw [Nat.zero_add]
      simp only [fn26L0, acC, ob?, hlw, List.take, List.drop, ↓sp_len, evs]
  have hl5 := fl_len a
  have hT := textA_len hc
  have hTl : (ancT ++ a.s ++ [32] ++ setT a.l).length ≤ 200000 := by
    have := hst a.l.length
    rw [List.take_length] at this
    simp only [ancT, List.length_append, List.length_cons, List.length_nil]; omega
  rw [List.take_length] at hit
  have hs0 : ancT ++ a.s ++ [32] ++ setT (a.l.take 0) = ancT ++ a.s ++ [32] := by rw [List.take_zero]; simp [setT, joinN]
  rw [hs0] at hit
  refine vcall_of (r := strV (textA a)) (H := [.cells (acC a) 0 false]) ?_ rfl
  rw [hX.fn hF]
  refine (rf_fin _ _ _ _ _ _ _ _ _ (by rfl)).trans ?_
  have htx : textA a = ancT ++ a.s ++ [32] ++ setT a.l ++ fl0 a ++ fl1 a ++ fl2 a ++ [10] := rfl
  rw [htx]
  have g1 : 7 + a.s.length ≤ 1073741824 := by omega
  have g2 : 7 + a.s.length + 1 ≤ 1073741824 := by omega
  have g3 : a.s.length ≤ 1073741816 := by omega
  have g4 : a.s.length ≤ 1073741817 := by omega
  unfold fl0 fl1 fl2
  generalize ancT ++ a.s ++ [32] ++ setT a.l = T at *
  simp only [strV, i64, bl, ancT, acC, Int.natCast_zero, List.cons_append, List.nil_append] at hit
  have gT : T.length ≤ 200000 := hTl
  have b0 : T.length ≤ 1073741823 := by omega
  have b1 : T.length ≤ 1073741818 := by omega
  have b2 : T.length ≤ 1073741817 := by omega
  have b3 : T.length ≤ 1073741815 := by omega
  have b4 : T.length ≤ 1073741814 := by omega
  have b5 : T.length ≤ 1073741813 := by omega
  have b6 : T.length ≤ 1073741809 := by omega
  have b7 : T.length ≤ 1073741808 := by omega
  have b8 : T.length ≤ 1073741807 := by omega
  have b9 : T.length ≤ 1073741805 := by omega
  have b10 : T.length ≤ 1073741804 := by omega
  have b11 : T.length ≤ 1073741799 := by omega
  have b12 : T.length ≤ 1073741798 := by omega
  obtain ⟨as', aw, al, ae, an, aa⟩ := a
  simp only at *
  cases ae <;> cases an <;> cases aa <;>
    simp only [acC, ob?, strV, binStr, wExp, wMap, wAny, hit, g1, g3, b0, b1, b2, b3, b4, b5, b6, b7, b8, b9, b10, b11, b12, List.length_append, List.append_nil, List.append_assoc, List.take, List.drop, evs, Nat.reduceAdd, Nat.reduceLeDiff, Nat.reduceBEq, Nat.reduceSub]
end Mini
end Go.Proofs.YtgjlofpfbhioaaaGreatDoor
namespace Go.Proofs.YtgjlofpfbhioaaaGreatDoor
namespace Mini
open Go
variable {m : Int} {X : Ctx}
theorem splitN_no {c : Nat} : ∀ {s : List Nat}, c ∉ s → splitN c s = [s]
  | [], _ => rfl
  | x :: s, h => by
    rw [List.mem_cons, not_or] at h
    simp only [splitN, if_neg (Ne.symm h.1), splitN_no h.2]
theorem cutN_no {c : Nat} : ∀ {s : List Nat}, c ∉ s → cutN c s = none
  | [], _ => rfl
  | x :: s, h => by
    rw [List.mem_cons, not_or] at h
    simp only [cutN, if_neg (Ne.symm h.1), cutN_no h.2]
theorem f66z (hX : XOk m X) {N : Nat} {s : List Nat} (hN : 1 ≤ N) (hs : s.length < 4294967281) (h32 : 32 ∉ s) : vcallN X N 66 [strV s] = some (.tup [.agg (acC a0), bl false]) := by
  obtain ⟨N, rfl⟩ : ∃ M, N = M + 1 := ⟨N - 1, by omega⟩
  have hF : fnsA 66 = some fn66'' := rfl
  have hpc : (zenv X N).prim 92 [.c (.d (.str s)), .c (.d (.str [32]))] = some (.c (.d (slS [s]))) := by
    rw [zenv_pr]
    refine hX.prim _ _ _ ?_
    have e : ∀ x : List Nat, prim0 92 [.c (.d (.str x)), .c (.d (.str [32]))] = if x.length < 4294967281 then some (.c (.d (.sl ((splitN 32 x).map .str) (splitN 32 x).length))) else none := fun _ => rfl
    rw [e, if_pos hs, splitN_no h32]
    rfl
  have hlw := slS_len [s]
  have c1 : ((([s] : List (List Nat)).length : Nat) : Int) < 3 := by simp
  have hza : acC a0 = zA := rfl
  rw [hza]
  generalize slS [s] = q at *
  generalize ([s] : List (List Nat)).length = n at *
  refine vcall_of (r := .tup [.agg zA, bl false]) (H := [.cells zA 0 false, .cells [.d (.bool false)] 0 false]) ?_ rfl
  rw [hX.fn hF]
  refine (rf_fin _ _ _ _ _ _ _ _ _ (by rfl)).trans ?_
  simp only [ob?, strV, hpc, hlw, c1, lay, splice, List.take, List.drop, List.map_cons, List.map_nil, List.set_cons_zero, List.set_cons_succ, freeze_nil, reachV, reachC, ite_self, List.flatMap_cons, List.flatMap_nil, ↓sp_len, evs, Nat.reduceAdd, Nat.reduceLeDiff, Nat.reduceSub]
/-- A text that is too long. -/
theorem f28_big (hX : XOk m X) {N : Nat} {s : List Nat} (hN : 1 ≤ N) (hs : 1048576 < s.length) : vcallN X N 28 [strV s] = some (.tup [.c (.d .nils), i64 0, i64 3]) := by
  obtain ⟨N, rfl⟩ : ∃ M, N = M + 1 := ⟨N - 1, by omega⟩
  have hF : fnsA 28 = some fn28' := rfl
  have hc : (s.length : Int) > 1048576 := by omega
  refine vcall_of (r := .tup [.c (.d .nils), i64 0, i64 3]) (H := []) ?_ rfl
  rw [hX.fn hF]
  refine (rf_fin _ _ _ _ _ _ _ _ _ (by rfl)).trans ?_
  simp only [strV, hc, evs, Nat.reduceSub]
/-- A text of one line that is not ended, without blanks. -/
theorem f28z (hX : XOk m X) {N : Nat} {s : List Nat} (hN : 10 ≤ N) (h0 : s ≠ []) (hs : s.length ≤ 1048576) (h10 : 10 ∉ s) (h32 : 32 ∉ s) : vcallN X N 28 [strV s] = some (.tup [.c (.d .nils), i64 1, i64 6]) := by
  obtain ⟨N, rfl⟩ : ∃ M, N = M + 1 := ⟨N - 1, by omega⟩
  have hF : fnsA 28 = some fn28' := rfl
  have hc : ¬ (s.length : Int) > 1048576 := by omega
  have h66 := hX.vc (k := 66) (F := fn66) rfl (f66z hX (N := N) (s := s) (by omega) (by omega) h32)
  obtain ⟨s', h1, h2, h3, h4, t, h5⟩ := r28_cut hX (N := N) (H := []) (j := 0) h0 (by omega) (by omega) (cutN_no h10) (.cells [] 0 false) h66
  obtain ⟨N', rfl⟩ : ∃ k, N = k + 1 := ⟨N - 1, by omega⟩
  have hit : iter (some [0, 1, 2]) 1 (exec (zenv X (N' + 1)) (N' + 1) false fn28L0) (N' + 1) ⟨R28 s 0 0, [.cells [] 0 false]⟩ = some (.ret, s') := by
    have h1 : exec (zenv X (N' + 1)) (N' + 1) false fn28L0 ⟨R28 s 0 0, [.cells [] 0 false]⟩ = some (.ret, s') := h1
    simp only [iter, h1]
  obtain ⟨r, HH⟩ := s'
  simp only at h2 h3 h4 h5
  simp only [R28, strV, i64, Int.natCast_zero] at hit h2 h3 h4
  refine vcall_of (r := .tup [.c (.d .nils), i64 1, i64 6]) (H := HH) ?_ rfl
  rw [hX.fn hF]
  refine (rf_fin _ _ _ _ _ _ _ _ _ (by rfl)).trans ?_
  simp only [strV, hc, ex_fresh, frn_nil, hit, h2, h3, h4, Nat.zero_add, Int.natCast_one, List.length_nil, List.nil_append, evs, Nat.reduceAdd, Nat.reduceBEq, Nat.reduceSub]
end Mini
end Go.Proofs.YtgjlofpfbhioaaaGreatDoor
namespace Go.Proofs.YtgjlofpfbhioaaaGreatDoor
namespace Mini
open Go
variable {m : Int} {X : Ctx}
def o7 : Oid := (3, [1, 2, 3, 0, 0, 0, 0, 0, 0, 0, 0, 0, 0, 0, 0, 0])
theorem few0_run (m : Int) : vcallF (XA m) 60 32 [.c (.d (.int .u8 0))] = some (.agg (oC o7)) := by kernel_rfl
theorem f32o (hX : XOk m X) {N : Nat} (hN : 60 ≤ N) : (zenv X N).vcall 32 [.c (.d (.int .u8 0))] = some (.agg (oC o7)) := by
  refine hX.vc (k := 32) (F := fn32) rfl (hX.run ?_ hN)
  rw [← vcallF_eq]
  exact few0_run m
def nm7 (j : Nat) : List Nat := [110, 48 + j / 100, 48 + j / 10 % 10, 48 + j % 10]
def an7 (j : Nat) : An := ⟨nm7 j, slO [o7], [o7], false, false, false⟩
def l7 (n : Nat) : List An := (List.range n).map an7
theorem l7_len (n : Nat) : (l7 n).length = n := by simp [l7]
theorem l7_succ (n : Nat) : l7 (n + 1) = l7 n ++ [an7 n] := by simp [l7, List.range_succ]
theorem l7_at {n i : Nat} (h : i < n) : (l7 n).getD i a0 = an7 i := by
  rw [List.getD_eq_getElem?_getD, l7, List.getElem?_map, List.getElem?_range h]; rfl
theorem l7_mem {n : Nat} {a : An} (h : a ∈ l7 n) : ∃ j, j < n ∧ a = an7 j := by
  obtain ⟨j, h1, h2⟩ := List.mem_map.1 h
  exact ⟨j, List.mem_range.1 h1, h2.symm⟩
def nm7ok (j : Nat) : Bool := nameB (nm7 j) && (textA (an7 j)).length == 18 && (j == 0 || strLess (nm7 (j - 1)) (nm7 j))
theorem nm7_all : (List.range 257).all nm7ok = true := by decide +kernel
theorem nm7_at {j : Nat} (h : j < 257) : nameB (nm7 j) = true ∧ (textA (an7 j)).length = 18 ∧ (0 < j → strLess (nm7 (j - 1)) (nm7 j) = true) := by
  have h1 := List.all_eq_true.1 nm7_all j (List.mem_range.2 h)
  simp only [nm7ok, Bool.and_eq_true, Bool.or_eq_true, beq_iff_eq] at h1
  exact ⟨h1.1.1, h1.1.2, fun hj => by rcases h1.2 with h | h; omega; exact h⟩
theorem chkS_o7 : chkS [o7] = 0 := by decide
theorem chkA_of7 {s : List Nat} {l : List Oid} (h1 : nameB s = true) (h2 : chkS l = 0) (h3 : 0 < l.length) : chkA s l = 0 := by
  unfold chkA
  rw [if_neg (by simp [h1]), if_neg (by simp [h2]), if_neg (by omega)]
theorem chkA_7 {j : Nat} (h : j < 257) : chkA (an7 j).s (an7 j).l = 0 := chkA_of7 (nm7_at h).1 chkS_o7 (by simp [an7])
theorem wfS_o7 : wfS [o7] := fun o ho => by
  rw [List.mem_singleton] at ho
  subst ho
  exact ⟨by decide, rfl, by decide⟩
theorem wfA_7 (j : Nat) : wfA (an7 j) := ⟨.inr rfl, wfS_o7, by simp [an7, nm7], by simp [an7]⟩
theorem wfAs_7 (n : Nat) : wfAs (l7 n) := fun a ha => by
  obtain ⟨j, _, rfl⟩ := l7_mem ha
  exact wfA_7 j
theorem asc_7 {n : Nat} (hn : n ≤ 257) : Asc (l7 n) := fun i h0 hi => by
  rw [l7_len] at hi
  rw [l7_at (by omega), l7_at hi]
  exact (nm7_at (by omega)).2.2 h0
theorem nrm_7 (n : Nat) : (l7 n).map nrm = l7 n := by simp [l7, nrm, an7]
theorem chkL_of {l : List An} (h0 : l.length ≤ 256) (h1 : ∀ a ∈ l, chkA a.s a.l = 0) (h2 : Asc l) : chkL l = 0 := by
  unfold chkL
  rw [if_neg (by omega)]
  refine firstE_none _ _ fun i hi => ?_
  have hm : l.getD i a0 ∈ l := getA_mem hi
  unfold errAn
  rw [if_neg (by rw [h1 _ hm]; simp)]
  by_cases h0 : i = 0
  · rw [if_pos h0]; simp
  · rw [if_neg h0, if_pos (h2 i (by omega) hi)]; simp
theorem chkL_256 : chkL (l7 256) = 0 := chkL_of (by rw [l7_len]; omega) (fun a ha => by
  obtain ⟨j, hj, rfl⟩ := l7_mem ha
  exact chkA_7 (by omega)) (asc_7 (by omega))
theorem chkL_257 : chkL (l7 257) = 3 := by
  unfold chkL
  rw [l7_len, if_pos (by omega)]
theorem text7_succ (n : Nat) : textL (l7 (n + 1)) = textL (l7 n) ++ textA (an7 n) := by
  rw [l7_succ]; simp [textL]
theorem text7_len : ∀ {n : Nat}, n ≤ 257 → (textL (l7 n)).length = 18 * n
  | 0, _ => rfl
  | n + 1, h => by rw [text7_succ, List.length_append, text7_len (n := n) (by omega), (nm7_at (j := n) (by omega)).2.1]; omega
theorem chk7 {n : Nat} (hn : n ≤ 257) : ∀ a ∈ l7 n, chkA a.s a.l = 0 := fun a ha => by
  obtain ⟨j, hj, rfl⟩ := l7_mem ha
  exact chkA_7 (by omega)
theorem wfs7 (n : Nat) : ∀ a ∈ l7 n, wfS a.l := fun a ha => (wfAs_7 n a ha).2.1
theorem parse_nil (f : Nat) (l : List An) : parseN (f + 1) l [] = (l, 0, 0) := by rw [parseN, if_pos rfl]
theorem parse_lim (f : Nat) {l : List An} {s : List Nat} (hs : s ≠ []) (hl : 256 < l.length + 1) : parseN (f + 1) l s = ([], l.length + 1, 3) := by rw [parseN, if_neg hs, if_pos hl]
theorem parse_7 : parseN ((textL (l7 256)).length + 1) [] (textL (l7 256)) = (l7 256, 0, 0) := by
  have h := parse_many (l7 256) (f := 18 * 256 - 256 + 1) (l := []) (rest := []) (wfs7 256) (chk7 (by omega)) (by rw [l7_len]; simp) (asc_7 (by omega))
  rw [List.append_nil, List.nil_append, nrm_7, l7_len, parse_nil] at h
  rw [text7_len (by omega)]
  exact h
theorem parse_7x : parseN ((textL (l7 257)).length + 1) [] (textL (l7 257)) = ([], 257, 3) := by
  have h := parse_many (l7 256) (f := 18 * 257 - 256 + 1) (l := []) (rest := textA (an7 256)) (wfs7 256) (chk7 (by omega)) (by rw [l7_len]; simp) (asc_7 (by omega))
  have hne : textA (an7 256) ≠ [] := fun h => by
    have := (nm7_at (j := 256) (by omega)).2.1
    rw [h] at this; cases this
  rw [List.nil_append, nrm_7, parse_lim _ hne (by rw [l7_len]; omega), l7_len, ← text7_succ] at h
  rw [text7_len (by omega)]
  exact h
theorem text7_cut : (textL (l7 257)).take (18 * 257 - 18) = textL (l7 256) := by
  rw [text7_succ, List.take_append_of_le_length (by rw [text7_len (by omega)]; omega), List.take_of_length_le (by rw [text7_len (by omega)]; omega)]
/-! ### The great list -/
def g7 (k : Nat) : Oid := (16, [2, 4294967215, 4294967295, 4294967295, 4294967295, 4294967295, 4294967295, 4294967295, 4294967295, 4294967295, 4294967295, 4294967295, 4294967295, 4294967295, 4294967295, k])
def gL (n : Nat) : List Oid := (List.range n).map g7
theorem gL_len (n : Nat) : (gL n).length = n := by simp [gL]
theorem gL_succ (n : Nat) : gL (n + 1) = gL n ++ [g7 n] := by simp [gL, List.range_succ]
theorem gL_ok : chkS (gL 256) = 0 := by decide +kernel
theorem gL_text : 4097 < (setT (gL 256)).length := by decide +kernel
theorem gL_wf {n : Nat} (hn : n ≤ 256) : wfS (gL n) := fun o ho => by
  obtain ⟨j, h1, rfl⟩ := List.mem_map.1 ho
  have := List.mem_range.1 h1
  refine ⟨by simp [g7], rfl, fun x hx => ?_⟩
  simp only [g7, List.mem_cons, List.not_mem_nil, or_false] at hx
  omega
def an8 (j : Nat) : An := ⟨nm7 j, slO (gL 256), gL 256, false, false, false⟩
def l8 (n : Nat) : List An := (List.range n).map an8
theorem l8_len (n : Nat) : (l8 n).length = n := by simp [l8]
theorem l8_succ (n : Nat) : l8 (n + 1) = l8 n ++ [an8 n] := by simp [l8, List.range_succ]
theorem l8_at {n i : Nat} (h : i < n) : (l8 n).getD i a0 = an8 i := by
  rw [List.getD_eq_getElem?_getD, l8, List.getElem?_map, List.getElem?_range h]; rfl
theorem l8_mem {n : Nat} {a : An} (h : a ∈ l8 n) : ∃ j, j < n ∧ a = an8 j := by
  obtain ⟨j, h1, h2⟩ := List.mem_map.1 h
  exact ⟨j, List.mem_range.1 h1, h2.symm⟩
theorem wfAs_8 (n : Nat) : wfAs (l8 n) := fun a ha => by
  obtain ⟨j, _, rfl⟩ := l8_mem ha
  exact ⟨.inr rfl, gL_wf (Nat.le_refl _), by simp [an8, nm7], by simp [an8, gL_len]⟩
theorem chkL_8 : chkL (l8 256) = 0 := chkL_of (by rw [l8_len]; omega) (fun a ha => by
  obtain ⟨j, hj, rfl⟩ := l8_mem ha
  exact chkA_of7 (nm7_at (by omega)).1 gL_ok (by simp [an8, gL_len])) (fun i h0 hi => by
  rw [l8_len] at hi
  rw [l8_at (by omega), l8_at hi]
  exact (nm7_at (by omega)).2.2 h0)
theorem text8_len : ∀ n, 4097 * n ≤ (textL (l8 n)).length
  | 0 => Nat.le_refl _
  | n + 1 => by
    have h1 := text8_len n
    have h2 := gL_text
    have h3 : textL (l8 (n + 1)) = textL (l8 n) ++ textA (an8 n) := by rw [l8_succ]; simp [textL]
    have h4 : (setT (gL 256)).length ≤ (textA (an8 n)).length := by
      simp only [textA, List.length_append, an8]; omega
    rw [h3, List.length_append]
    omega
theorem textE_8 : textE (l8 256) = 3 := by
  have := text8_len 256
  unfold textE
  rw [if_neg (by rw [chkL_8]; simp), if_pos (by omega)]
theorem textS_8 : textS (l8 256) = [] := by
  unfold textS
  rw [textE_8, if_neg (by omega)]
end Mini
end Go.Proofs.YtgjlofpfbhioaaaGreatDoor
namespace Go.Proofs.YtgjlofpfbhioaaaGreatDoor
namespace Mini

def fn7L0 : I := .seq (.seq (.reg false [⟨none, .mov (.r 14)⟩, ⟨none, .bin .lss (.l 0) (.v (.c (.d (.int .i64 256))))⟩] [(26, 0)] []) ( .cond (.r 26) ( .skip) ( .exit 6))) ( .seq (.block 7 ( .reg false [⟨none, .mov (.r 3)⟩, ⟨none, .mov (.r 14)⟩, ⟨none, .mov (.r 10)⟩, ⟨none, .ixa 5 (.l 2) (.l 1)⟩, ⟨none, .fa 1 (.l 0)⟩, ⟨none, .st 1 (.l 0) (.l 2)⟩] [] [])) ( .reg false [⟨none, .mov (.r 14)⟩, ⟨none, .bin .add (.l 0) (.v (.c (.d (.int .i64 1))))⟩, ⟨none, .mov (.l 0)⟩] [(14, 0)] []))

def fn7L1 : I := .seq (.seq (.reg false [⟨none, .mov (.r 13)⟩, ⟨none, .bin .lss (.l 0) (.v (.c (.d (.int .i64 16))))⟩] [(25, 0)] []) ( .cond (.r 25) ( .skip) ( .exit 4))) ( .seq (.block 5 ( .reg false [⟨none, .mov (.r 13)⟩, ⟨none, .fa 1 (.r 12)⟩, ⟨none, .ixp 16 1 (.l 0) (.l 1)⟩, ⟨none, .st 1 (.l 0) (.v (.c (.d (.int .u32 4294967295))))⟩] [] [])) ( .reg false [⟨none, .mov (.r 13)⟩, ⟨none, .bin .add (.l 0) (.v (.c (.d (.int .i64 1))))⟩, ⟨none, .mov (.l 0)⟩] [(13, 0)] []))

def fn7L2 : I := .seq (.seq (.reg false [⟨none, .mov (.r 11)⟩, ⟨none, .bin .lss (.l 0) (.v (.c (.d (.int .u32 256))))⟩] [(24, 0)] []) ( .cond (.r 24) ( .skip) ( .exit 2))) ( .seq (.block 3 ( .seq (.reg false [⟨none, .bld [.int .u32 0, .int .u32 0, .int .u32 0, .int .u32 0, .int .u32 0, .int .u32 0, .int .u32 0, .int .u32 0, .int .u32 0, .int .u32 0, .int .u32 0, .int .u32 0, .int .u32 0, .int .u32 0, .int .u32 0, .int .u32 0] [(0, 1, (.v (.c (.d (.int .u32 2))))), (1, 1, (.v (.c (.d (.int .u32 4294967215)))))]⟩, ⟨none, .bld [.int .u8 0, .int .u32 0, .int .u32 0, .int .u32 0, .int .u32 0, .int .u32 0, .int .u32 0, .int .u32 0, .int .u32 0, .int .u32 0, .int .u32 0, .int .u32 0, .int .u32 0, .int .u32 0, .int .u32 0, .int .u32 0, .int .u32 0] [(0, 1, (.v (.c (.d (.int .u8 16))))), (1, 16, (.l 0))]⟩, ⟨none, .pre⟩, ⟨none, .ini 17 (.l 1)⟩] [(12, 0)] []) ( .seq (.seq (.reg false [⟨none, .mov (.v (.c (.d (.int .i64 2))))⟩] [(13, 0)] []) ( .block 4 ( .loop (some [3, 10, 11, 12, 13]) fn7L1))) ( .seq (.reg false [⟨none, .mov (.r 11)⟩, ⟨none, .fa 1 (.r 12)⟩, ⟨none, .ixp 16 1 (.l 0) (.v (.c (.d (.int .i64 15))))⟩, ⟨none, .st 1 (.l 0) (.l 2)⟩] [] []) ( .reg false [⟨none, .mov (.r 10)⟩, ⟨none, .ld true 17 (.r 12)⟩, ⟨none, .bsl 1 17 [.int .u8 0, .int .u32 0, .int .u32 0, .int .u32 0, .int .u32 0, .int .u32 0, .int .u32 0, .int .u32 0, .int .u32 0, .int .u32 0, .int .u32 0, .int .u32 0, .int .u32 0, .int .u32 0, .int .u32 0, .int .u32 0, .int .u32 0] [(0, 17, (.l 0))]⟩, ⟨none, .app 17 (.l 2) (.l 0)⟩, ⟨none, .mov (.l 0)⟩] [(10, 0)] []))))) ( .reg false [⟨none, .mov (.r 11)⟩, ⟨none, .bin .add (.l 0) (.v (.c (.d (.int .u32 1))))⟩, ⟨none, .mov (.l 0)⟩] [(11, 0)] []))

def fn7L3 : I := .seq (.seq (.reg false [⟨none, .mov (.r 5)⟩, ⟨none, .bin .lss (.l 0) (.v (.c (.d (.int .i64 257))))⟩] [(21, 0)] []) ( .cond (.r 21) ( .skip) ( .exit 0))) ( .seq (.block 1 ( .seq (.reg false [⟨none, .mov (.r 5)⟩, ⟨none, .bin .quo (.l 0) (.v (.c (.d (.int .i64 100))))⟩, ⟨none, .bin .add (.v (.c (.d (.int .i64 48)))) (.l 0)⟩, ⟨none, .cvi .u8 (.l 0)⟩, ⟨none, .mov (.r 5)⟩, ⟨none, .bin .quo (.l 0) (.v (.c (.d (.int .i64 10))))⟩, ⟨none, .bin .rem (.l 0) (.v (.c (.d (.int .i64 10))))⟩, ⟨none, .bin .add (.v (.c (.d (.int .i64 48)))) (.l 0)⟩, ⟨none, .cvi .u8 (.l 0)⟩, ⟨none, .mov (.r 5)⟩, ⟨none, .bin .rem (.l 0) (.v (.c (.d (.int .i64 10))))⟩, ⟨none, .bin .add (.v (.c (.d (.int .i64 48)))) (.l 0)⟩, ⟨none, .cvi .u8 (.l 0)⟩, ⟨none, .bsl 3 1 [.int .u8 0] [(0, 1, (.l 9)), (1, 1, (.l 4)), (2, 1, (.l 0))]⟩, ⟨none, .b2s (.l 0)⟩, ⟨none, .bin .add (.v (.c (.d (.str [110])))) (.l 0)⟩, ⟨none, .mov (.r 1)⟩, ⟨none, .bld [.str [], .nils, .bool false, .bool false, .bool false] [(0, 1, (.l 1)), (1, 1, (.l 0))]⟩, ⟨none, .pre⟩, ⟨none, .ini 5 (.l 1)⟩] [(6, 0)] []) ( .seq (.reg false [⟨none, .mov (.r 3)⟩, ⟨none, .ld true 5 (.r 6)⟩, ⟨none, .bsl 1 5 [.str [], .nils, .bool false, .bool false, .bool false] [(0, 5, (.l 0))]⟩, ⟨none, .app 5 (.l 2) (.l 0)⟩, ⟨none, .mov (.l 0)⟩] [(3, 0)] []) ( .reg false [⟨none, .mov (.r 4)⟩, ⟨none, .ld true 5 (.r 6)⟩, ⟨none, .vc 26 [(.l 0)]⟩, ⟨none, .bin .add (.l 2) (.l 0)⟩, ⟨none, .mov (.l 0)⟩] [(4, 0)] [])))) ( .reg false [⟨none, .mov (.r 5)⟩, ⟨none, .bin .add (.l 0) (.v (.c (.d (.int .i64 1))))⟩, ⟨none, .mov (.l 0)⟩] [(5, 0)] []))

def fn7Z1 : I := .reg false [⟨none, .mks 1 1 [.int .u8 0] (.v (.c (.d (.int .i64 1048577)))) (.v (.c (.d (.int .i64 1048577))))⟩, ⟨none, .b2s (.l 0)⟩, ⟨none, .vc 28 [(.l 0)]⟩, ⟨none, .mov (.l 0)⟩, ⟨none, .ext (.l 0) 0⟩, ⟨none, .ext (.l 1) 1⟩, ⟨none, .ext (.l 2) 2⟩, ⟨none, .mov (.l 2)⟩, ⟨none, .mov (.l 2)⟩, ⟨none, .mov (.l 2)⟩] [(16, 1), (17, 0)] []

def fn7Z2 : I := .reg false [⟨none, .mks 1 1 [.int .u8 0] (.v (.c (.d (.int .i64 1048576)))) (.v (.c (.d (.int .i64 1048576))))⟩, ⟨none, .b2s (.l 0)⟩, ⟨none, .vc 28 [(.l 0)]⟩, ⟨none, .mov (.l 0)⟩, ⟨none, .ext (.l 0) 0⟩, ⟨none, .ext (.l 1) 1⟩, ⟨none, .ext (.l 2) 2⟩, ⟨none, .mov (.l 2)⟩, ⟨none, .mov (.l 2)⟩, ⟨none, .mov (.l 2)⟩] [(18, 1), (19, 0)] []

def fn7A : I := .seq (.reg false [⟨none, .mov (.r 2)⟩, ⟨none, .mov (.r 1)⟩, ⟨none, .bld [.str [], .nils, .bool false, .bool false, .bool false] [(0, 1, (.l 1)), (1, 1, (.l 0))]⟩, ⟨none, .vc 33 [(.l 0)]⟩, ⟨none, .bin .neq (.l 0) (.v (.c (.d (.int .i64 0))))⟩, ⟨none, .mov (.l 0)⟩, ⟨some (0, false), .mov (.r 2)⟩, ⟨some (1, false), .bin .add (.l 0) (.v (.c (.d (.str [51]))))⟩, ⟨some (2, false), .mov (.r 1)⟩, ⟨some (3, false), .bld [.str [], .nils, .bool false, .bool false, .bool false] [(0, 1, (.l 1)), (1, 1, (.l 0))]⟩, ⟨some (4, false), .vc 33 [(.l 0)]⟩, ⟨some (5, false), .bin .neq (.l 0) (.v (.c (.d (.int .i64 18))))⟩, ⟨none, .pick (.l 6) (.v (.c (.d (.bool true)))) (.l 0)⟩, ⟨none, .mov (.l 0)⟩, ⟨some (0, false), .mov (.r 1)⟩, ⟨some (1, false), .bld [.str [], .nils, .bool false, .bool false, .bool false] [(0, 1, (.v (.c (.d (.str [97, 45]))))), (1, 1, (.l 0))]⟩, ⟨some (2, false), .vc 33 [(.l 0)]⟩, ⟨some (3, false), .bin .neq (.l 0) (.v (.c (.d (.int .i64 0))))⟩, ⟨none, .pick (.l 4) (.v (.c (.d (.bool true)))) (.l 0)⟩, ⟨none, .mov (.l 0)⟩, ⟨some (0, false), .mov (.r 1)⟩, ⟨some (1, false), .bld [.str [], .nils, .bool false, .bool false, .bool false] [(0, 1, (.v (.c (.d (.str [45, 97]))))), (1, 1, (.l 0))]⟩, ⟨some (2, false), .vc 33 [(.l 0)]⟩, ⟨some (3, false), .bin .neq (.l 0) (.v (.c (.d (.int .i64 18))))⟩, ⟨none, .pick (.l 4) (.v (.c (.d (.bool true)))) (.l 0)⟩, ⟨none, .mov (.l 0)⟩, ⟨some (0, false), .mov (.r 1)⟩, ⟨some (1, false), .bld [.str [], .nils, .bool false, .bool false, .bool false] [(1, 1, (.l 0))]⟩, ⟨some (2, false), .vc 33 [(.l 0)]⟩, ⟨some (3, false), .bin .neq (.l 0) (.v (.c (.d (.int .i64 18))))⟩, ⟨none, .pick (.l 4) (.v (.c (.d (.bool true)))) (.l 0)⟩, ⟨none, .mov (.l 0)⟩, ⟨some (0, false), .bld [.str [], .nils, .bool false, .bool false, .bool false] [(0, 1, (.v (.c (.d (.str [97])))))]⟩, ⟨some (1, false), .vc 33 [(.l 0)]⟩, ⟨some (2, false), .bin .neq (.l 0) (.v (.c (.d (.int .i64 17))))⟩, ⟨none, .pick (.l 3) (.v (.c (.d (.bool true)))) (.l 0)⟩] [(20, 0)] []) ( .cond (.r 20) ( .seq (.reg false [⟨none, .mov (.v (.c (.d (.bool false))))⟩] [(0, 0)] []) ( .ret)) ( .skip))

def fn7B : I := .seq (.reg false [⟨none, .mov (.r 8)⟩, ⟨none, .bin .neq (.l 0) (.v (.c (.d (.int .i64 3))))⟩, ⟨none, .mov (.l 0)⟩, ⟨some (0, false), .mov (.r 7)⟩, ⟨some (1, false), .bin .neq (.l 0) (.v (.c (.d (.int .i64 257))))⟩, ⟨none, .pick (.l 2) (.v (.c (.d (.bool true)))) (.l 0)⟩, ⟨none, .mov (.l 0)⟩, ⟨some (0, false), .mov (.r 3)⟩, ⟨some (1, false), .vc 34 [(.l 0)]⟩, ⟨some (2, false), .bin .neq (.l 0) (.v (.c (.d (.int .i64 3))))⟩, ⟨none, .pick (.l 3) (.v (.c (.d (.bool true)))) (.l 0)⟩, ⟨none, .mov (.l 0)⟩, ⟨some (0, false), .mov (.r 3)⟩, ⟨some (1, false), .slc 5 (.l 0) none (some (.v (.c (.d (.int .i64 256))))) none⟩, ⟨some (2, false), .vc 34 [(.l 0)]⟩, ⟨some (3, false), .bin .neq (.l 0) (.v (.c (.d (.int .i64 0))))⟩, ⟨none, .pick (.l 4) (.v (.c (.d (.bool true)))) (.l 0)⟩] [(22, 0)] []) ( .cond (.r 22) ( .seq (.reg false [⟨none, .mov (.v (.c (.d (.bool false))))⟩] [(0, 0)] []) ( .ret)) ( .skip))

def fn7C : I := .seq (.reg false [⟨none, .mov (.r 8)⟩, ⟨none, .bin .neq (.l 0) (.v (.c (.d (.int .i64 0))))⟩, ⟨none, .mov (.l 0)⟩, ⟨some (0, false), .mov (.r 7)⟩, ⟨some (1, false), .bin .neq (.l 0) (.v (.c (.d (.int .i64 0))))⟩, ⟨none, .pick (.l 2) (.v (.c (.d (.bool true)))) (.l 0)⟩, ⟨none, .mov (.l 0)⟩, ⟨some (0, false), .mov (.r 9)⟩, ⟨some (1, false), .mov (.r 3)⟩, ⟨some (2, false), .slc 5 (.l 0) none (some (.v (.c (.d (.int .i64 256))))) none⟩, ⟨some (3, false), .vc 29 [(.l 2), (.l 0)]⟩, ⟨some (4, false), .bin .eql (.l 0) (.v (.c (.d (.int .i64 0))))⟩, ⟨none, .pick (.l 5) (.v (.c (.d (.bool true)))) (.l 0)⟩] [(23, 0)] []) ( .cond (.r 23) ( .seq (.reg false [⟨none, .mov (.v (.c (.d (.bool false))))⟩] [(0, 0)] []) ( .ret)) ( .skip))

def fn7E : I := .reg false [⟨none, .mov (.r 3)⟩, ⟨none, .slc 5 (.l 0) none (some (.v (.c (.d (.int .i64 256))))) none⟩, ⟨none, .vc 27 [(.l 0)]⟩, ⟨none, .mov (.l 0)⟩, ⟨none, .ext (.l 0) 0⟩, ⟨none, .ext (.l 1) 1⟩, ⟨none, .mov (.l 1)⟩, ⟨none, .mov (.l 1)⟩] [(15, 0)] []

def fn7' : Fn := ⟨0, 27, [0, 1, 2, 3, 4, 5, 6, 8, 9, 10, 11, 12, 13, 14, 15, 17, 19, 20, 22, 23, 61, 63, 114, 137, 139, 145, 159], [.r 0], .seq (.reg false [⟨none, .mov (.v (.c (.d (.bool false))))⟩] [(0, 0)] []) ( .seq (.reg false [⟨none, .vc 32 [(.v (.c (.d (.int .u8 0))))]⟩, ⟨none, .bsl 1 17 [.int .u8 0, .int .u32 0, .int .u32 0, .int .u32 0, .int .u32 0, .int .u32 0, .int .u32 0, .int .u32 0, .int .u32 0, .int .u32 0, .int .u32 0, .int .u32 0, .int .u32 0, .int .u32 0, .int .u32 0, .int .u32 0, .int .u32 0] [(0, 17, (.l 0))]⟩, ⟨none, .mov (.l 0)⟩] [(1, 0)] []) ( .seq (.reg false [⟨none, .mov (.v (.c (.d (.str [97, 50, 51, 52, 53, 54, 55, 56, 57, 48, 49, 50, 51, 52, 53, 54, 55, 56, 57, 48, 49, 50, 51, 52, 53, 54, 55, 56, 57, 48, 49, 50]))))⟩] [(2, 0)] []) ( .seq fn7A ( .seq (.reg false [⟨none, .mov (.v (.c (.d (.nils))))⟩] [(3, 0)] []) ( .seq (.reg false [⟨none, .mov (.v (.c (.d (.str []))))⟩] [(4, 0)] []) ( .seq (.seq (.reg false [⟨none, .mov (.v (.c (.d (.int .i64 0))))⟩] [(5, 0)] []) ( .block 0 ( .seq (.fresh 3 none 5) ( .loop (some [1, 3, 4, 5]) fn7L3)))) ( .seq (.reg false [⟨none, .mov (.r 4)⟩, ⟨none, .vc 28 [(.l 0)]⟩, ⟨none, .mov (.l 0)⟩, ⟨none, .ext (.l 0) 0⟩, ⟨none, .ext (.l 1) 1⟩, ⟨none, .ext (.l 2) 2⟩, ⟨none, .mov (.l 2)⟩, ⟨none, .mov (.l 2)⟩, ⟨none, .mov (.l 2)⟩] [(7, 1), (8, 0)] []) ( .seq fn7B ( .seq (.reg false [⟨none, .mov (.r 4)⟩, ⟨none, .mov (.r 4)⟩, ⟨none, .lns (.l 0)⟩, ⟨none, .bin .sub (.l 0) (.v (.c (.d (.int .i64 18))))⟩, ⟨none, .sls (.l 3) none (some (.l 0))⟩, ⟨none, .vc 28 [(.l 0)]⟩, ⟨none, .mov (.l 0)⟩, ⟨none, .ext (.l 0) 0⟩, ⟨none, .ext (.l 1) 1⟩, ⟨none, .ext (.l 2) 2⟩, ⟨none, .mov (.l 2)⟩, ⟨none, .mov (.l 2)⟩, ⟨none, .mov (.l 2)⟩] [(9, 2), (7, 1), (8, 0)] []) ( .seq fn7C ( .seq (.reg false [⟨none, .mov (.v (.c (.d (.nils))))⟩] [(10, 0)] []) ( .seq (.seq (.reg false [⟨none, .mov (.v (.c (.d (.int .u32 0))))⟩] [(11, 0)] []) ( .block 2 ( .seq (.fresh 10 none 17) ( .loop (some [3, 10, 11]) fn7L2)))) ( .seq (.seq (.reg false [⟨none, .mov (.v (.c (.d (.int .i64 0))))⟩] [(14, 0)] []) ( .block 6 ( .loop (some [3, 10, 14]) fn7L0))) ( .seq fn7E ( .seq fn7Z1 ( .seq fn7Z2 ( .seq (.reg false [⟨none, .mov (.r 15)⟩, ⟨none, .bin .eql (.l 0) (.v (.c (.d (.int .i64 3))))⟩, ⟨none, .mov (.l 0)⟩, ⟨some (0, true), .mov (.r 17)⟩, ⟨some (1, true), .bin .eql (.l 0) (.v (.c (.d (.int .i64 3))))⟩, ⟨none, .pick (.l 2) (.l 0) (.v (.c (.d (.bool false))))⟩, ⟨none, .mov (.l 0)⟩, ⟨some (0, true), .mov (.r 16)⟩, ⟨some (1, true), .bin .eql (.l 0) (.v (.c (.d (.int .i64 0))))⟩, ⟨none, .pick (.l 2) (.l 0) (.v (.c (.d (.bool false))))⟩, ⟨none, .mov (.l 0)⟩, ⟨some (0, true), .mov (.r 19)⟩, ⟨some (1, true), .bin .eql (.l 0) (.v (.c (.d (.int .i64 6))))⟩, ⟨none, .pick (.l 2) (.l 0) (.v (.c (.d (.bool false))))⟩, ⟨none, .mov (.l 0)⟩, ⟨some (0, true), .mov (.r 18)⟩, ⟨some (1, true), .bin .eql (.l 0) (.v (.c (.d (.int .i64 1))))⟩, ⟨none, .pick (.l 2) (.l 0) (.v (.c (.d (.bool false))))⟩, ⟨none, .mov (.l 0)⟩, ⟨some (0, true), .vc 16 []⟩, ⟨none, .pick (.l 1) (.l 0) (.v (.c (.d (.bool false))))⟩, ⟨none, .mov (.l 0)⟩] [(0, 0)] []) ( .ret))))))))))))))))))⟩
theorem fn7_is : fn7 = fn7' := rfl

end Mini
end Go.Proofs.YtgjlofpfbhioaaaGreatDoor
namespace Go.Proofs.YtgjlofpfbhioaaaGreatDoor
namespace Mini
open Go
variable {m : Int} {X : Ctx}
abbrev os0 : C := .os 0 0 0 1 17 (some 1)
def rw7 (j : Nat) : List C := [.d (.str (nm7 j)), os0, .d (.bool false), .d (.bool false), .d (.bool false)]
def c7 (n : Nat) : List C := (List.range n).flatMap rw7
theorem c7_succ (n : Nat) : c7 (n + 1) = c7 n ++ rw7 n := by simp [c7, List.range_succ]
theorem c7_len : ∀ n, (c7 n).length = n * 5
  | 0 => rfl
  | n + 1 => by rw [c7_succ, List.length_append, c7_len n, rw7]; simp only [List.length_cons, List.length_nil]; omega
theorem c7_u (n : Nat) : (c7 n).all (uC 2) = true := by
  rw [List.all_eq_true]
  intro c hc
  obtain ⟨j, _, h⟩ := List.mem_flatMap.1 hc
  simp only [rw7, List.mem_cons, List.not_mem_nil, or_false] at h
  rcases h with rfl | rfl | rfl | rfl | rfl <;> rfl
theorem oD_o7 {H : Heap} {k : Nat} : mapO (deepC H k) (oC o7) = some (oD o7) := mapO_d H k _
abbrev R7 (x0 x2 x20 : V) (j : Nat) : List V := [x0, .c os0, x2, .c (.os 1 j 0 j 5 none), strV (textL (l7 j)), i64 (j : Int), .any, .any, .any, .any, .any, .any, .any, .any, .any, .any, .any, .any, .any, .any, x20, .any, .any, .any, .any, .any, .any]
theorem digs7 {j : Nat} (h : j < 257) : ((j : Int).tdiv 100 = ((j / 100 : Nat) : Int)) ∧ ((j : Int).tdiv 10 = ((j / 10 : Nat) : Int)) ∧ (((j / 10 : Nat) : Int).tmod 10 = ((j / 10 % 10 : Nat) : Int)) ∧ ((j : Int).tmod 10 = ((j % 10 : Nat) : Int)) := by
  refine ⟨?_, ?_, ?_, ?_⟩
  · rw [Int.tdiv_eq_ediv_of_nonneg (by omega)]; omega
  · rw [Int.tdiv_eq_ediv_of_nonneg (by omega)]; omega
  · rw [Int.tmod_eq_emod_of_nonneg (by omega)]; omega
  · rw [Int.tmod_eq_emod_of_nonneg (by omega)]; omega
theorem wrap_48 {k : Nat} (h : k < 10) : IntKind.i64.wrap (48 + (k : Int)) = ((48 + k : Nat) : Int) := by
  rw [← wrap_nat (k := 48 + k) (by omega)]; rfl
theorem wrap8_48 {k : Nat} (h : k < 10) : IntKind.u8.wrap ((48 + k : Nat) : Int) = ((48 + k : Nat) : Int) := by
  simp only [IntKind.wrap, IntKind.bits, IntKind.signed]
  simp
  omega
theorem byte_48 {k : Nat} (h : k < 10) : byteOf (.d (.int .u8 ((48 + k : Nat) : Int))) = some (48 + k) := by
  simp only [byteOf]
  congr 1
  omega
theorem r7a (hX : XOk m X) {N : Nat} (hN : 500 ≤ N) {x0 x2 x20 : V} {j : Nat} (hj : j < 257) :
    ∃ s', exec (zenv X N) N false fn7L3 ⟨R7 x0 x2 x20 j, [.cells (oC o7) 0 false, .cells (c7 j) j false]⟩ = some (.nrm, s') ∧ tidy 2 (some [1, 3, 4, 5]) s' = ⟨R7 .any .any .any (j + 1), [.cells (oC o7) 0 false, .cells (c7 (j + 1)) (j + 1) false]⟩ := by
  have h4 : (j : Int) < 257 := by omega
  obtain ⟨d1, d2, d3, d4⟩ := digs7 hj
  have q1 : j / 100 < 10 := by omega
  have q2 : j / 10 % 10 < 10 := by omega
  have q3 : j % 10 < 10 := by omega
  have w1 := wrap_nat (k := j / 100) (by omega)
  have w2 := wrap_nat (k := j / 10) (by omega)
  have a1 := wrap_48 q1
  have a2 := wrap_48 q2
  have a3 := wrap_48 q3
  have b1 := wrap8_48 q1
  have b2 := wrap8_48 q2
  have b3 := wrap8_48 q3
  have y1 := byte_48 q1
  have y2 := byte_48 q2
  have y3 := byte_48 q3
  have h6 := wrap_succ (k := j) (by omega)
  have h26 := hX.vc (k := 26) (F := fn26) rfl (f26 hX (N := N) (a := an7 j) (by omega) (.inr rfl) wfS_o7 (chkA_7 hj))
  have tl := text7_len (n := j) (by omega)
  have tal := (nm7_at hj).2.1
  have k0 : (textL (l7 j)).length + (textA (an7 j)).length ≤ 1073741824 := by omega
  have hcl := c7_len j
  have hu := c7_u j
  have htk : (c7 j).take (j * 5) = c7 j := List.take_of_length_le (by omega)
  have k1 : j + 1 ≤ 1073741824 := by omega
  have k2 : j + 1 < genK := by show j + 1 < 1000000; omega
  have hax : acC (an7 j) = [.d (.str [110, 48 + j / 100, 48 + j / 10 % 10, 48 + j % 10]), .d (.sl (oD o7) 1), .d (.bool false), .d (.bool false), .d (.bool false)] := by
    simp [acC, an7, nm7, slO]
  have hrw : rw7 j = [.d (.str [110, 48 + j / 100, 48 + j / 10 % 10, 48 + j % 10]), os0, .d (.bool false), .d (.bool false), .d (.bool false)] := rfl
  have ho := fun H k => oD_o7 (H := H) (k := k)
  have hol : (oC o7).length = 17 := rfl
  have hot : (oC o7).take 17 = oC o7 := rfl
  have hou : (oC o7).all (uC 2) = true := rfl
  have htx := text7_succ j
  rw [c7_succ, hrw]
  unfold R7
  rw [htx]
  rw [hax] at h26
  generalize textA (an7 j) = ta at *
  generalize textL (l7 j) = tt at *
  generalize c7 j = cs at *
  generalize oD o7 = od at *
  generalize oC o7 = oc at *
  generalize j / 100 = e1 at *
  generalize j / 10 % 10 = e2 at *
  generalize j % 10 = e3 at *
  simp only [strV] at h26 ⊢
  refine ⟨⟨[x0, .c os0, x2, .c (.os 1 (j + 1) 0 (j + 1) 5 none), .c (.d (.str (tt ++ ta))), i64 ((j + 1 : Nat) : Int), .c (.ptr 3 0 0), .any, .any, .any, .any, .any, .any, .any, .any, .any, .any, .any, .any, .any, x20, bl true, .any, .any, .any, .any, .any], [.cells oc 0 false, .cells (cs ++ [.d (.str [110, 48 + e1, 48 + e2, 48 + e3]), os0, .d (.bool false), .d (.bool false), .d (.bool false)]) (j + 1) false] ++ [.cells [.d (.int .u8 ((48 + e1 : Nat) : Int)), .d (.int .u8 ((48 + e2 : Nat) : Int)), .d (.int .u8 ((48 + e3 : Nat) : Int))] 0 false, .cells [.d (.str [110, 48 + e1, 48 + e2, 48 + e3]), os0, .d (.bool false), .d (.bool false), .d (.bool false)] 0 false, .cells [.d (.str [110, 48 + e1, 48 + e2, 48 + e3]), os0, .d (.bool false), .d (.bool false), .d (.bool false)] 0 false]⟩, ?_, ?_⟩
  · simp only [fn7L3, ob?, elems, lay, rep, splice, bytesOf, binStr, deepMax, h4, d1, d2, d3, d4, w1, w2, a1, a2, a3, b1, b2, b3, y1, y2, y3, h6, h26, k0, k1, k2, hcl, htk, ho, hol, hot, Option.map_none, Nat.one_ne_zero, Nat.le_succ, Nat.le_refl, List.take, List.drop, List.map_cons, List.map_nil, List.set_cons_zero, List.set_cons_succ, reachV, reachC, List.flatMap_cons, List.flatMap_nil, evs, Int.reduceEq, Nat.reduceAdd, Nat.reduceLeDiff]
  · refine tidy_back (by simp) rfl (by rfl) (Hp.cons hou (Hp.cons ?_ Hp.nil))
    simp only [uO, List.all_append, Bool.and_eq_true]
    exact ⟨hu, rfl⟩
end Mini
end Go.Proofs.YtgjlofpfbhioaaaGreatDoor
namespace Go.Proofs.YtgjlofpfbhioaaaGreatDoor
namespace Mini
open Go
variable {m : Int} {X : Ctx}
abbrev osL : V := .c (.os 1 257 0 257 5 none)
/-- A policy while its arcs are filled. -/
def pc7 (i : Nat) : List C := .d (.int .u8 16) :: (List.range 16).map fun k => .d (.int .u32 (if k = 0 then 2 else if k = 1 then 4294967215 else if k < i then 4294967295 else 0))
theorem pc7_len (i : Nat) : (pc7 i).length = 17 := by simp [pc7]
theorem pc7_st {i : Nat} (h2 : 2 ≤ i) (h : i < 16) : splice (pc7 i) (1 + i) [.d (.int .u32 4294967295)] = pc7 (i + 1) := by
  have : i = 2 ∨ i = 3 ∨ i = 4 ∨ i = 5 ∨ i = 6 ∨ i = 7 ∨ i = 8 ∨ i = 9 ∨ i = 10 ∨ i = 11 ∨ i = 12 ∨ i = 13 ∨ i = 14 ∨ i = 15 := by omega
  rcases this with rfl | rfl | rfl | rfl | rfl | rfl | rfl | rfl | rfl | rfl | rfl | rfl | rfl | rfl <;> rfl
theorem pc7_end (k : Nat) : splice (pc7 16) 16 [.d (.int .u32 (k : Int))] = oC (g7 k) := rfl
abbrev Q7 (x : Nat → V) (v3 v10 v11 : V) (i : Nat) (y : V) : List V := [x 0, x 1, x 2, v3, x 4, x 5, x 6, x 7, x 8, x 9, v10, v11, .c (.ptr 3 0 0), i64 (i : Int), x 14, x 15, x 16, x 17, x 18, x 19, x 20, x 21, x 22, x 23, x 24, y, x 26]
abbrev no7 : Nat → V := fun _ => .any
theorem r7c {N : Nat} {x : Nat → V} {v3 v10 v11 y : V} {i : Nat} {h0 h1 h2 : Ob} (hi2 : 2 ≤ i) (hi : i < 16) :
    ∃ s', exec (zenv X N) N false fn7L1 ⟨Q7 x v3 v10 v11 i y, [h0, h1, h2, .cells (pc7 i) 0 false]⟩ = some (.nrm, s') ∧ tidy 4 (some [3, 10, 11, 12, 13]) s' = ⟨Q7 no7 v3 v10 v11 (i + 1) .any, [h0, h1, h2, .cells (pc7 (i + 1)) 0 false]⟩ := by
  have h4 : (i : Int) < 16 := by omega
  have h5 := pc7_st hi2 hi
  have h6 := wrap_succ (k := i) (by omega)
  have hl := pc7_len i
  have k1 : 1 + i + 1 ≤ 17 := by omega
  generalize pc7 i = pc at *
  generalize pc7 (i + 1) = pd at *
  refine ⟨⟨Q7 x v3 v10 v11 (i + 1) (bl true), [h0, h1, h2, .cells pd 0 false]⟩, ?_, ?_⟩
  · simp only [fn7L1, Q7, ob?, h4, h5, h6, hl, k1, hi, List.set_cons_zero, List.set_cons_succ, evs]
  · show gc 4 ⟨_, _⟩ = _
    rw [gc_le (by simp)]
    rfl
theorem it7c {N : Nat} (hN : 20 ≤ N) {x : Nat → V} {v3 v10 v11 y : V} {h0 h1 h2 : Ob} :
    iter (some [3, 10, 11, 12, 13]) 4 (exec (zenv X N) N false fn7L1) N ⟨Q7 x v3 v10 v11 2 y, [h0, h1, h2, .cells (pc7 2) 0 false]⟩ = some (.exit 4, ⟨Q7 no7 v3 v10 v11 16 (bl false), [h0, h1, h2, .cells (pc7 16) 0 false]⟩) := by
  obtain ⟨F, hF⟩ : ∃ k, N = k + 1 := ⟨N - 1, by omega⟩
  obtain ⟨s', e1, e2⟩ := r7c (X := X) (N := N) (x := x) (v3 := v3) (v10 := v10) (v11 := v11) (y := y) (h0 := h0) (h1 := h1) (h2 := h2) (i := 2) (by omega) (by omega)
  have h : iter (some [3, 10, 11, 12, 13]) 4 (exec (zenv X N) N false fn7L1) F ⟨Q7 no7 v3 v10 v11 3 .any, [h0, h1, h2, .cells (pc7 3) 0 false]⟩ = some (.exit 4, ⟨Q7 no7 v3 v10 v11 16 (bl false), [h0, h1, h2, .cells (pc7 16) 0 false]⟩) := by
    refine iter_to (fun i => ⟨Q7 no7 v3 v10 v11 i .any, [h0, h1, h2, .cells (pc7 i) 0 false]⟩) (e := .exit 4) (fun h => by cases h) 13 3 F (fun j h3 h4 => r7c (by omega) (by omega)) ?_ (by omega)
    generalize pc7 (3 + 13) = pc at *
    simp only [fn7L1, Q7, no7, Int.cast_ofNat_Int, evs, Nat.reduceAdd]
  generalize hFF : N = M at *
  obtain rfl : M = F + 1 := by omega
  exact (iter_step e1).trans (e2 ▸ h)
abbrev R8 (x : Nat → V) (k : Nat) : List V := [x 0, x 1, x 2, osL, x 4, x 5, x 6, x 7, x 8, x 9, .c (.os 2 k 0 k 17 none), .c (.d (.int .u32 (k : Int))), x 12, x 13, x 14, x 15, x 16, x 17, x 18, x 19, x 20, x 21, x 22, x 23, x 24, x 25, x 26]
theorem gC_u (n : Nat) (l : List Oid) : (flC l).all (uC n) = true := by
  rw [List.all_eq_true]
  intro c hc
  obtain ⟨d, _, rfl⟩ := List.mem_map.1 hc
  rfl
theorem wrap32_succ {k : Nat} (h : k < 256) : IntKind.u32.wrap ((k : Int) + 1) = ((k + 1 : Nat) : Int) := by
  simp only [IntKind.wrap, IntKind.bits, IntKind.signed]
  simp
  omega
theorem r7b {N : Nat} (hN : 20 ≤ N) {x : Nat → V} {k : Nat} (hk : k < 256) {h0 : Ob} {cs : List C} (hu0 : uO 3 h0 = true) (hu : cs.all (uC 3) = true) :
    ∃ s', exec (zenv X N) N false fn7L2 ⟨R8 x k, [h0, .cells cs 257 false, .cells (flC (gL k)) k false]⟩ = some (.nrm, s') ∧ tidy 3 (some [3, 10, 11]) s' = ⟨R8 no7 (k + 1), [h0, .cells cs 257 false, .cells (flC (gL (k + 1))) (k + 1) false]⟩ := by
  have h4 : (k : Int) < 256 := by omega
  have h5 := pc7_end k
  have h6 := wrap32_succ hk
  have hl := pc7_len 16
  have hpo : (oC (g7 k)).length = 17 := rfl
  have hpt : (oC (g7 k)).take 17 = oC (g7 k) := rfl
  have hgl : (flC (gL k)).length = k * 17 := by rw [flC_len (gL_wf (by omega)), gL_len]
  have hgt : (flC (gL k)).take (k * 17) = flC (gL k) := List.take_of_length_le (by omega)
  have hgs : flC (gL (k + 1)) = flC (gL k) ++ oC (g7 k) := by rw [gL_succ]; simp [flC, oC]
  have hgu := gC_u 3 (gL k)
  have hou : (oC (g7 k)).all (uC 3) = true := rfl
  have k1 : k + 1 ≤ 1073741824 := by omega
  have k2 : k + 1 < genK := by show k + 1 < 1000000; omega
  have hp2 : pc7 2 = [.d (.int .u8 16), .d (.int .u32 2), .d (.int .u32 4294967215), .d (.int .u32 0), .d (.int .u32 0), .d (.int .u32 0), .d (.int .u32 0), .d (.int .u32 0), .d (.int .u32 0), .d (.int .u32 0), .d (.int .u32 0), .d (.int .u32 0), .d (.int .u32 0), .d (.int .u32 0), .d (.int .u32 0), .d (.int .u32 0), .d (.int .u32 0)] := rfl
  have hit := it7c (X := X) hN (x := no7) (v3 := osL) (v10 := .c (.os 2 k 0 k 17 none)) (v11 := .c (.d (.int .u32 (k : Int)))) (y := .any) (h0 := h0) (h1 := .cells cs 257 false) (h2 := .cells (flC (gL k)) k false)
  rw [hgs]
  rw [hp2] at hit
  have an15 : asNat (.c (.d (.int .i64 15))) = some 15 := rfl
  simp only [splice, List.length_cons, List.length_nil, Nat.reduceAdd] at h5
  generalize oC (g7 k) = oc at *
  generalize pc7 16 = pc at *
  generalize flC (gL k) = gc at *
  simp only [Q7, no7, Int.cast_ofNat_Int, i64, bl] at hit
  refine ⟨⟨[.any, .any, .any, osL, .any, .any, .any, .any, .any, .any, .c (.os 2 (k + 1) 0 (k + 1) 17 none), .c (.d (.int .u32 ((k + 1 : Nat) : Int))), .c (.ptr 3 0 0), i64 16, .any, .any, .any, .any, .any, .any, .any, .any, .any, .any, .any, bl false, .any], [h0, .cells cs 257 false, .cells (gc ++ oc) (k + 1) false] ++ [.cells oc 0 false, .cells oc 0 false]⟩, ?_, ?_⟩
  · simp only [fn7L2, R8, an15, ob?, elems, lay, rep, h4, h5, h6, hl, hit, hpo, hpt, hgl, hgt, k1, k2, Option.map_none, Nat.one_ne_zero, Nat.le_refl, splice, List.take, List.drop, List.map_cons, List.map_nil, List.set_cons_zero, List.set_cons_succ, evs, Nat.reduceAdd, Nat.reduceLeDiff, Nat.reduceLT, Nat.reduceBEq]
  · refine tidy_back (by simp) rfl (by rfl) (Hp.cons hu0 (Hp.cons hu (Hp.cons ?_ Hp.nil)))
    simp only [uO, List.all_append, Bool.and_eq_true]
    exact ⟨hgu, hou⟩
/-! ### The great set put into the anchors -/
def rw8 (j : Nat) : List C := [.d (.str (nm7 j)), .os 2 256 0 256 17 none, .d (.bool false), .d (.bool false), .d (.bool false)]
def b8 (n : Nat) : List C := (List.range n).flatMap rw8
theorem b8_succ (n : Nat) : b8 (n + 1) = b8 n ++ rw8 n := by simp [b8, List.range_succ]
theorem b8_len : ∀ n, (b8 n).length = n * 5
  | 0 => rfl
  | n + 1 => by rw [b8_succ, List.length_append, b8_len n, rw8]; simp only [List.length_cons, List.length_nil]; omega
def t7 (i n : Nat) : List C := (List.range' i n).flatMap rw7
theorem t7_len : ∀ n i, (t7 i n).length = n * 5
  | 0, _ => rfl
  | n + 1, i => by
    have := t7_len n (i + 1)
    unfold t7 at this ⊢
    rw [List.range'_succ, List.flatMap_cons, List.length_append, this, rw7]; simp only [List.length_cons, List.length_nil]; omega
def c8 (i : Nat) : List C := b8 i ++ t7 i (257 - i)
theorem c8_len {i : Nat} (h : i ≤ 257) : (c8 i).length = 257 * 5 := by
  rw [c8, List.length_append, b8_len, t7_len]; omega
theorem c8_zero : c8 0 = c7 257 := by
  rw [c8, t7, c7, List.range_eq_range']; rfl
theorem splice_at (A R : List C) (x y z : C) : splice (A ++ (x :: y :: R)) (A.length + 1) [z] = A ++ (x :: z :: R) := by
  unfold splice
  rw [List.length_singleton, Nat.add_assoc, List.take_length_add_append, List.drop_length_add_append]
  simp
theorem c8_st {i : Nat} (h : i < 257) : splice (c8 i) (i * 5 + 1) [.os 2 256 0 256 17 none] = c8 (i + 1) := by
  have h1 : t7 i (257 - i) = rw7 i ++ t7 (i + 1) (257 - (i + 1)) := by
    rw [show 257 - i = (257 - (i + 1)) + 1 by omega]
    unfold t7
    rw [List.range'_succ, List.flatMap_cons]
  have h2 : c8 i = b8 i ++ (.d (.str (nm7 i)) :: os0 :: ([.d (.bool false), .d (.bool false), .d (.bool false)] ++ t7 (i + 1) (257 - (i + 1)))) := by rw [c8, h1]; rfl
  rw [h2, ← b8_len i, splice_at, c8, b8_succ]
  simp [rw8]
abbrev R9 (x : Nat → V) (i : Nat) : List V := [x 0, x 1, x 2, osL, x 4, x 5, x 6, x 7, x 8, x 9, .c (.os 2 256 0 256 17 none), x 11, x 12, x 13, i64 (i : Int), x 15, x 16, x 17, x 18, x 19, x 20, x 21, x 22, x 23, x 24, x 25, x 26]
theorem r7d {N : Nat} {x : Nat → V} {i : Nat} (hi : i < 256) {h0 h2 : Ob} :
    ∃ s', exec (zenv X N) N false fn7L0 ⟨R9 x i, [h0, .cells (c8 i) 257 false, h2]⟩ = some (.nrm, s') ∧ tidy 3 (some [3, 10, 14]) s' = ⟨R9 no7 (i + 1), [h0, .cells (c8 (i + 1)) 257 false, h2]⟩ := by
  have h4 : (i : Int) < 256 := by omega
  have h5 := c8_st (i := i) (by omega)
  have h6 := wrap_succ (k := i) (by omega)
  have hl := c8_len (i := i) (by omega)
  have k1 : i * 5 + 1 + 1 ≤ 257 * 5 := by omega
  have k2 : i < 257 := by omega
  simp only [Nat.reduceMul] at hl k1
  generalize c8 i = pc at *
  generalize c8 (i + 1) = pd at *
  refine ⟨⟨[x 0, x 1, x 2, osL, x 4, x 5, x 6, x 7, x 8, x 9, .c (.os 2 256 0 256 17 none), x 11, x 12, x 13, i64 ((i + 1 : Nat) : Int), x 15, x 16, x 17, x 18, x 19, x 20, x 21, x 22, x 23, x 24, x 25, bl true], [h0, .cells pd 257 false, h2]⟩, ?_, ?_⟩
  · simp only [fn7L0, R9, ob?, h4, h5, h6, hl, k1, k2, List.set_cons_zero, List.set_cons_succ, ↓sp_ixa, evs]
  · show gc 3 ⟨_, _⟩ = _
    rw [gc_le (by simp)]
    rfl
end Mini
end Go.Proofs.YtgjlofpfbhioaaaGreatDoor
namespace Go.Proofs.YtgjlofpfbhioaaaGreatDoor
namespace Mini
open Go
variable {m : Int} {X : Ctx}
theorem mapO_append {α β : Type} {f : α → Option β} : ∀ {a b : List α} {x y : List β}, mapO f a = some x → mapO f b = some y → mapO f (a ++ b) = some (x ++ y)
  | [], b, x, y, h1, h2 => by cases h1; exact h2
  | c :: a, b, x, y, h1, h2 => by
    simp only [mapO] at h1
    cases hc : f c with
    | none => rw [hc] at h1; cases h1
    | some d =>
      rw [hc] at h1
      cases ha : mapO f a with
      | none => rw [ha] at h1; cases h1
      | some z =>
        rw [ha] at h1
        cases h1
        simp only [List.cons_append, mapO, hc, mapO_append ha h2]
theorem mapO_flat {α β γ : Type} {f : β → Option γ} {g : α → List β} {h : α → List γ} : ∀ {l : List α}, (∀ a ∈ l, mapO f (g a) = some (h a)) → mapO f (l.flatMap g) = some (l.flatMap h)
  | [], _ => rfl
  | a :: l, hl => by
    rw [List.flatMap_cons, List.flatMap_cons]
    exact mapO_append (hl a List.mem_cons_self) (mapO_flat fun x hx => hl x (List.mem_cons_of_mem _ hx))
theorem deep_os0 {t : Heap} (k : Nat) : deepC (.cells (oC o7) 0 false :: t) (k + 1) os0 = some (.sl (oD o7) 1) := by
  have h : ((oC o7).drop 0).take (1 * 17) = (oD o7).map .d := rfl
  have h2 : 0 + 1 * 17 ≤ (oC o7).length := by decide
  simp only [deepC, ob?, if_true, if_pos h2, h, mapO_d, Option.map_some]
theorem dC {H : Heap} {k : Nat} {x : D} : deepC H k (.d x) = some x := by cases k <;> rfl
theorem deep_rw7 {t : Heap} (k j : Nat) : mapO (deepC (.cells (oC o7) 0 false :: t) (k + 1)) (rw7 j) = some (an7 j).ds := by
  simp only [rw7, mapO, deep_os0, dC, An.ds, an7, slO, List.flatMap_cons, List.flatMap_nil, List.append_nil, List.length_cons, List.length_nil, Nat.zero_add]
theorem c7_take (n d : Nat) : (c7 (n + d)).take (n * 5) = c7 n := by
  induction d with
  | zero => exact List.take_of_length_le (by rw [Nat.add_zero, c7_len]; exact Nat.le_refl _)
  | succ d ih => rw [← Nat.add_assoc, c7_succ, List.take_append_of_le_length (by rw [c7_len]; omega), ih]
theorem l7_ds (n : Nat) : (l7 n).flatMap An.ds = (List.range n).flatMap fun j => (an7 j).ds := by rw [l7, List.flatMap_map]
theorem deep_7 {t : Heap} {n d g : Nat} {f : Bool} : deepC (.cells (oC o7) 0 false :: .cells (c7 (n + d)) g f :: t) deepMax (.os 1 g 0 n 5 none) = some (.sl ((l7 n).flatMap An.ds) n) := by
  have h1 : 0 + n * 5 ≤ (c7 (n + d)).length := by rw [c7_len]; omega
  have h2 : ((c7 (n + d)).drop 0).take (n * 5) = c7 n := by rw [List.drop_zero, c7_take]
  have h3 : mapO (deepC (.cells (oC o7) 0 false :: .cells (c7 (n + d)) g f :: t) 7) (c7 n) = some ((l7 n).flatMap An.ds) := by
    rw [l7_ds]
    exact mapO_flat fun j _ => deep_rw7 6 j
  simp only [deepMax, deepC, ob?, if_true, if_pos h1, h2, h3, Option.map_some]
theorem deep_os2 {h0 h1 : Ob} {t : Heap} (k : Nat) : deepC (h0 :: h1 :: .cells (flC (gL 256)) 256 false :: t) (k + 1) (.os 2 256 0 256 17 none) = some (slO (gL 256)) := by
  have hl := flC_len (gL_wf (n := 256) (Nat.le_refl _))
  rw [gL_len] at hl
  have h : ((flC (gL 256)).drop 0).take (256 * 17) = ((gL 256).flatMap oD).map .d := by
    rw [List.drop_zero, List.take_of_length_le (by omega)]; rfl
  have h2 : 0 + 256 * 17 ≤ (flC (gL 256)).length := by omega
  generalize flC (gL 256) = cs at *
  simp only [deepC, ob?, if_true, if_pos h2, h, mapO_d, Option.map_some]
  rw [slO, gL_len]
theorem deep_rw8 {h0 h1 : Ob} {t : Heap} (k j : Nat) : mapO (deepC (h0 :: h1 :: .cells (flC (gL 256)) 256 false :: t) (k + 1)) (rw8 j) = some (an8 j).ds := by
  simp only [rw8, mapO, deep_os2, dC, An.ds, an8]
theorem l8_ds (n : Nat) : (l8 n).flatMap An.ds = (List.range n).flatMap fun j => (an8 j).ds := by rw [l8, List.flatMap_map]
theorem deep_8 {h0 : Ob} {t : Heap} {f : Bool} : deepC (h0 :: .cells (c8 256) 257 f :: .cells (flC (gL 256)) 256 false :: t) deepMax (.os 1 257 0 256 5 none) = some (.sl ((l8 256).flatMap An.ds) 256) := by
  have h1 : 0 + 256 * 5 ≤ (c8 256).length := by rw [c8_len (by omega)]; omega
  have h2 : ((c8 256).drop 0).take (256 * 5) = b8 256 := by
    rw [List.drop_zero, c8, List.take_append_of_le_length (by rw [b8_len]; exact Nat.le_refl _), List.take_of_length_le (by rw [b8_len]; exact Nat.le_refl _)]
  have h3 : mapO (deepC (h0 :: .cells (c8 256) 257 f :: .cells (flC (gL 256)) 256 false :: t) 7) (b8 256) = some ((l8 256).flatMap An.ds) := by
    rw [l8_ds]
    exact mapO_flat fun j _ => deep_rw8 6 j
  generalize c8 256 = cs at *
  simp only [deepMax, deepC, ob?, if_true, if_pos h1, h2, h3, Option.map_some]
/-! ### What is called -/
theorem v34 (hX : XOk m X) {N : Nat} (hN : 401 ≤ N) : (zenv X N).vcall 34 [.c (.d (.sl ((l7 257).flatMap An.ds) 257))] = some (i64 3) ∧ (zenv X N).vcall 34 [.c (.d (.sl ((l7 256).flatMap An.ds) 256))] = some (i64 0) := by
  have h1 := f34 hX (N := N) (w := .sl ((l7 257).flatMap An.ds) 257) (l := l7 257) hN (.inr (by rw [l7_len])) (wfAs_7 257) (by rw [l7_len]; omega)
  have h2 := f34 hX (N := N) (w := .sl ((l7 256).flatMap An.ds) 256) (l := l7 256) hN (.inr (by rw [l7_len])) (wfAs_7 256) (by rw [l7_len]; omega)
  rw [chkL_257] at h1
  rw [chkL_256] at h2
  exact ⟨hX.vc (k := 34) (F := fn34) rfl h1, hX.vc (k := 34) (F := fn34) rfl h2⟩
theorem v28no (hX : XOk m X) {N : Nat} {s : List Nat} {l : List An} {a b : Nat} (hN : s.length + 700 ≤ N) (hs : s.length < 800000) (hp : parseN (s.length + 1) [] s = (l, a, b)) (hb : b ≠ 0) : (zenv X N).vcall 28 [strV s] = some (.tup [.c (.d .nils), i64 (a : Nat), i64 (b : Nat)]) := by
  obtain ⟨r, t, h28, hr⟩ := f28 hX (N := N) (s := s) (H := []) hN hs Hp.nil
  rw [hp] at h28 hr
  rw [if_neg hb] at hr
  subst hr
  exact hX.vc (k := 28) (F := fn28) rfl (vcall_of h28 rfl)
theorem v28ok (hX : XOk m X) {N : Nat} {s : List Nat} {l : List An} (hN : s.length + 700 ≤ N) (hs : s.length < 800000) (hp : parseN (s.length + 1) [] s = (l, 0, 0)) : (zenv X N).vcall 28 [strV s] = some (.tup [.c (.d (.sl (l.flatMap An.ds) l.length)), i64 0, i64 0]) := by
  obtain ⟨r, t, h28, hr⟩ := f28 hX (N := N) (s := s) (H := []) hN hs Hp.nil
  rw [hp] at h28 hr
  rw [if_pos rfl] at hr
  obtain ⟨_, rfl, rfl⟩ := hr
  have hdp := deep_an (H := [.cells (aC l) l.length false]) (id := 0) (c := some l.length) (l := l) (n := l.length) rfl rfl
  refine hX.vc (k := 28) (F := fn28) rfl (vcall_of h28 ?_)
  simp only [deepV, mapO, deepV1, List.length_nil, List.nil_append, hdp, Option.map_some, i64]
  rfl
theorem v28x (hX : XOk m X) {N : Nat} (hN : 6000 ≤ N) : (zenv X N).vcall 28 [strV (textL (l7 257))] = some (.tup [.c (.d .nils), i64 257, i64 3]) :=
  v28no hX (s := textL (l7 257)) (l := []) (a := 257) (b := 3) (by rw [text7_len (by omega)]; omega) (by rw [text7_len (by omega)]; omega) parse_7x (by decide)
theorem v28 (hX : XOk m X) {N : Nat} (hN : 6000 ≤ N) : (zenv X N).vcall 28 [strV (textL (l7 256))] = some (.tup [.c (.d (.sl ((l7 256).flatMap An.ds) 256)), i64 0, i64 0]) := by
  have h := v28ok hX (N := N) (s := textL (l7 256)) (by rw [text7_len (by omega)]; omega) (by rw [text7_len (by omega)]; omega) parse_7
  rw [l7_len] at h
  exact h
theorem v29 (hX : XOk m X) {N : Nat} (hN : 1000 ≤ N) : (zenv X N).vcall 29 [.c (.d (.sl ((l7 256).flatMap An.ds) 256)), .c (.d (.sl ((l7 256).flatMap An.ds) 256))] = some (i64 1) := by
  have hi : isAns (.sl ((l7 256).flatMap An.ds) 256) (l7 256) := .inr (by rw [l7_len])
  have h := f29 hX (N := N) (w := .sl ((l7 256).flatMap An.ds) 256) (w' := .sl ((l7 256).flatMap An.ds) 256) (u := l7 256) (v := l7 256) (by rw [l7_len]; omega) hi hi (wfAs_7 256) (wfAs_7 256) (by rw [l7_len]; omega) (fun a ha => by
    obtain ⟨j, _, rfl⟩ := l7_mem ha
    simp [an7])
  rw [if_pos (alike_self _)] at h
  exact hX.vc (k := 29) (F := fn29) rfl h
theorem v27 (hX : XOk m X) {N : Nat} (hN : 1000 ≤ N) : (zenv X N).vcall 27 [.c (.d (.sl ((l8 256).flatMap An.ds) 256))] = some (.tup [strV [], i64 3]) := by
  have h := f27 hX (N := N) (w := .sl ((l8 256).flatMap An.ds) 256) (l := l8 256) (by omega) (.inr (by rw [l8_len])) (wfAs_8 256) (by rw [l8_len]; omega)
  rw [textE_8, textS_8] at h
  exact hX.vc (k := 27) (F := fn27) rfl h
/-- A text of zeros. -/
theorem zeros (n : Nat) : bytesOf (rep [.d (.int .u8 0)] n) = some (List.replicate n 0) := by
  induction n with
  | zero => rfl
  | succ n ih =>
    show mapO byteOf (C.d (.int .u8 0) :: rep _ n) = _
    simp only [mapO, byteOf]
    rw [show mapO byteOf (rep [C.d (.int .u8 0)] n) = some (List.replicate n 0) from ih, List.replicate_succ]
    rfl
theorem v28b (hX : XOk m X) {N : Nat} (hN : 100 ≤ N) {n : Nat} (hn : 1048576 < n) : (zenv X N).vcall 28 [strV (List.replicate n 0)] = some (.tup [.c (.d .nils), i64 0, i64 3]) := hX.vc (k := 28) (F := fn28) rfl (f28_big hX (by omega) (by rw [List.length_replicate]; exact hn))
theorem v28z (hX : XOk m X) {N : Nat} (hN : 100 ≤ N) {n : Nat} (h0 : 0 < n) (hn : n ≤ 1048576) : (zenv X N).vcall 28 [strV (List.replicate n 0)] = some (.tup [.c (.d .nils), i64 1, i64 6]) := hX.vc (k := 28) (F := fn28) rfl (f28z hX (by omega) (fun h => by
    have := congrArg List.length h
    rw [List.length_replicate] at this; simp at this; omega) (by rw [List.length_replicate]; exact hn) (fun h => by have := List.eq_of_mem_replicate h; omega) (fun h => by have := List.eq_of_mem_replicate h; omega))
end Mini
end Go.Proofs.YtgjlofpfbhioaaaGreatDoor
namespace Go.Proofs.YtgjlofpfbhioaaaGreatDoor
namespace Mini
open Go
variable {m : Int} {X : Ctx}
theorem it7a (hX : XOk m X) {N : Nat} (hN : 500 ≤ N) : iter (some [1, 3, 4, 5]) 2 (exec (zenv X N) N false fn7L3) N ⟨R7 .any .any .any 0, [.cells (oC o7) 0 false, .cells [] 0 false]⟩ = some (.exit 0, ⟨[.any, .c os0, .any, osL, strV (textL (l7 257)), i64 257, .any, .any, .any, .any, .any, .any, .any, .any, .any, .any, .any, .any, .any, .any, .any, bl false, .any, .any, .any, .any, .any], [.cells (oC o7) 0 false, .cells (c7 257) 257 false]⟩) := by
  refine iter_to (fun j => ⟨R7 .any .any .any j, [.cells (oC o7) 0 false, .cells (c7 j) j false]⟩) (e := .exit 0) (fun h => by cases h) 257 0 N (fun j _ hj => r7a hX hN (by omega)) ?_ (by omega)
  rw [Nat.zero_add]
  generalize oC o7 = oc
  generalize c7 257 = cs
  unfold R7
  generalize textL (l7 257) = tt
  simp only [fn7L3, strV, Int.cast_ofNat_Int, evs]
theorem it7b {N : Nat} (hN : 300 ≤ N) : iter (some [3, 10, 11]) 3 (exec (zenv X N) N false fn7L2) N ⟨R8 no7 0, [.cells (oC o7) 0 false, .cells (c7 257) 257 false, .cells [] 0 false]⟩ = some (.exit 2, ⟨[.any, .any, .any, osL, .any, .any, .any, .any, .any, .any, .c (.os 2 256 0 256 17 none), .c (.d (.int .u32 256)), .any, .any, .any, .any, .any, .any, .any, .any, .any, .any, .any, .any, bl false, .any, .any], [.cells (oC o7) 0 false, .cells (c7 257) 257 false, .cells (flC (gL 256)) 256 false]⟩) := by
  have hu : (c7 257).all (uC 3) = true := by
    rw [List.all_eq_true]
    intro c hc
    have h := List.all_eq_true.1 (c7_u 257) c hc
    cases c with
    | d _ => rfl
    | ptr _ _ _ => simp only [uC, decide_eq_true_eq] at h ⊢; omega
    | os _ _ _ _ _ _ => simp only [uC, decide_eq_true_eq] at h ⊢; omega
    | _ => cases h
  refine iter_to (fun k => ⟨R8 no7 k, [.cells (oC o7) 0 false, .cells (c7 257) 257 false, .cells (flC (gL k)) k false]⟩) (e := .exit 2) (fun h => by cases h) 256 0 N (fun j _ hj => r7b (by omega) (by omega) rfl hu) ?_ (by omega)
  rw [Nat.zero_add]
  generalize oC o7 = oc
  generalize c7 257 = cs
  generalize flC (gL 256) = gc
  simp only [fn7L2, R8, no7, Int.cast_ofNat_Int, evs]
theorem it7d {N : Nat} (hN : 300 ≤ N) {h0 h2 : Ob} : iter (some [3, 10, 14]) 3 (exec (zenv X N) N false fn7L0) N ⟨R9 no7 0, [h0, .cells (c7 257) 257 false, h2]⟩ = some (.exit 6, ⟨[.any, .any, .any, osL, .any, .any, .any, .any, .any, .any, .c (.os 2 256 0 256 17 none), .any, .any, .any, i64 256, .any, .any, .any, .any, .any, .any, .any, .any, .any, .any, .any, bl false], [h0, .cells (c8 256) 257 false, h2]⟩) := by
  rw [← c8_zero]
  refine iter_to (fun i => ⟨R9 no7 i, [h0, .cells (c8 i) 257 false, h2]⟩) (e := .exit 6) (fun h => by cases h) 256 0 N (fun j _ hj => r7d (by omega)) ?_ (by omega)
  rw [Nat.zero_add]
  generalize c8 256 = cs
  simp only [fn7L0, R9, no7, Int.cast_ofNat_Int, evs]
def long7 : List Nat := [97, 50, 51, 52, 53, 54, 55, 56, 57, 48, 49, 50, 51, 52, 53, 54, 55, 56, 57, 48, 49, 50, 51, 52, 53, 54, 55, 56, 57, 48, 49, 50]
theorem chk_ex : chkA long7 [o7] = 0 ∧ chkA (long7 ++ [51]) [o7] = 18 ∧ chkA [97, 45] [o7] = 0 ∧ chkA [45, 97] [o7] = 18 ∧ chkA [] [o7] = 18 ∧ chkA [97] [] = 17 := by decide
theorem z71 (hX : XOk m X) {N : Nat} (hN : 100 ≤ N) {x : Nat → V} {h0 h1 h2 : Ob} : ∃ y, exec (zenv X N) N false fn7Z1 ⟨[x 0, x 1, x 2, x 3, x 4, x 5, x 6, x 7, x 8, x 9, x 10, x 11, x 12, x 13, x 14, x 15, x 16, x 17, x 18, x 19, x 20, x 21, x 22, x 23, x 24, x 25, x 26], [h0, h1, h2]⟩ = some (.nrm, ⟨[x 0, x 1, x 2, x 3, x 4, x 5, x 6, x 7, x 8, x 9, x 10, x 11, x 12, x 13, x 14, x 15, i64 0, i64 3, x 18, x 19, x 20, x 21, x 22, x 23, x 24, x 25, x 26], [h0, h1, h2, .cells y 0 false]⟩) := by
  have key : ∀ n : Nat, n = 1048577 → ∃ y, exec (zenv X N) N false (.reg false [⟨none, .mks 1 1 [.int .u8 0] (.v (i64 (n : Int))) (.v (i64 (n : Int)))⟩, ⟨none, .b2s (.l 0)⟩, ⟨none, .vc 28 [(.l 0)]⟩, ⟨none, .mov (.l 0)⟩, ⟨none, .ext (.l 0) 0⟩, ⟨none, .ext (.l 1) 1⟩, ⟨none, .ext (.l 2) 2⟩, ⟨none, .mov (.l 2)⟩, ⟨none, .mov (.l 2)⟩, ⟨none, .mov (.l 2)⟩] [(16, 1), (17, 0)] []) ⟨[x 0, x 1, x 2, x 3, x 4, x 5, x 6, x 7, x 8, x 9, x 10, x 11, x 12, x 13, x 14, x 15, x 16, x 17, x 18, x 19, x 20, x 21, x 22, x 23, x 24, x 25, x 26], [h0, h1, h2]⟩ = some (.nrm, ⟨[x 0, x 1, x 2, x 3, x 4, x 5, x 6, x 7, x 8, x 9, x 10, x 11, x 12, x 13, x 14, x 15, i64 0, i64 3, x 18, x 19, x 20, x 21, x 22, x 23, x 24, x 25, x 26], [h0, h1, h2, .cells y 0 false]⟩) := by
    intro n hn
    have v := v28b hX (N := N) (by omega) (n := n) (by omega)
    have z1 := zeros n
    have z3 := rep_len [.d (.int .u8 0)] n
    rw [List.length_singleton, Nat.mul_one] at z3
    have z5 := List.take_of_length_le (l := rep [.d (.int .u8 0)] n) (i := n) (by omega)
    have k1 : n ≤ 1099511627776 := by omega
    refine ⟨rep [.d (.int .u8 0)] n, ?_⟩
    generalize hy : rep [C.d (.int .u8 0)] n = y at *
    generalize List.replicate n 0 = s at *
    simp only [strV, i64] at v
    simp only [ob?, elems, hy, v, z1, z3, z5, k1, Nat.le_refl, List.drop, List.map_cons, List.map_nil, freeze_nil, reachV, reachC, ite_self, List.flatMap_cons, List.flatMap_nil, evs, Nat.reduceAdd]
  exact key 1048577 (by omega)
theorem z72 (hX : XOk m X) {N : Nat} (hN : 100 ≤ N) {x : Nat → V} {h0 h1 h2 h3 : Ob} : ∃ y, exec (zenv X N) N false fn7Z2 ⟨[x 0, x 1, x 2, x 3, x 4, x 5, x 6, x 7, x 8, x 9, x 10, x 11, x 12, x 13, x 14, x 15, x 16, x 17, x 18, x 19, x 20, x 21, x 22, x 23, x 24, x 25, x 26], [h0, h1, h2, h3]⟩ = some (.nrm, ⟨[x 0, x 1, x 2, x 3, x 4, x 5, x 6, x 7, x 8, x 9, x 10, x 11, x 12, x 13, x 14, x 15, x 16, x 17, i64 1, i64 6, x 20, x 21, x 22, x 23, x 24, x 25, x 26], [h0, h1, h2, h3, .cells y 0 false]⟩) := by
  have key : ∀ n : Nat, n = 1048576 → ∃ y, exec (zenv X N) N false (.reg false [⟨none, .mks 1 1 [.int .u8 0] (.v (i64 (n : Int))) (.v (i64 (n : Int)))⟩, ⟨none, .b2s (.l 0)⟩, ⟨none, .vc 28 [(.l 0)]⟩, ⟨none, .mov (.l 0)⟩, ⟨none, .ext (.l 0) 0⟩, ⟨none, .ext (.l 1) 1⟩, ⟨none, .ext (.l 2) 2⟩, ⟨none, .mov (.l 2)⟩, ⟨none, .mov (.l 2)⟩, ⟨none, .mov (.l 2)⟩] [(18, 1), (19, 0)] []) ⟨[x 0, x 1, x 2, x 3, x 4, x 5, x 6, x 7, x 8, x 9, x 10, x 11, x 12, x 13, x 14, x 15, x 16, x 17, x 18, x 19, x 20, x 21, x 22, x 23, x 24, x 25, x 26], [h0, h1, h2, h3]⟩ = some (.nrm, ⟨[x 0, x 1, x 2, x 3, x 4, x 5, x 6, x 7, x 8, x 9, x 10, x 11, x 12, x 13, x 14, x 15, x 16, x 17, i64 1, i64 6, x 20, x 21, x 22, x 23, x 24, x 25, x 26], [h0, h1, h2, h3, .cells y 0 false]⟩) := by
    intro n hn
    have v := v28z hX (N := N) (by omega) (n := n) (by omega) (by omega)
    have z1 := zeros n
    have z3 := rep_len [.d (.int .u8 0)] n
    rw [List.length_singleton, Nat.mul_one] at z3
    have z5 := List.take_of_length_le (l := rep [.d (.int .u8 0)] n) (i := n) (by omega)
    have k1 : n ≤ 1099511627776 := by omega
    refine ⟨rep [.d (.int .u8 0)] n, ?_⟩
    generalize hy : rep [C.d (.int .u8 0)] n = y at *
    generalize List.replicate n 0 = s at *
    simp only [strV, i64] at v
    simp only [ob?, elems, hy, v, z1, z3, z5, k1, Nat.le_refl, List.drop, List.map_cons, List.map_nil, freeze_nil, reachV, reachC, ite_self, List.flatMap_cons, List.flatMap_nil, evs, Nat.reduceAdd]
  exact key 1048576 (by omega)
theorem rE7 {E : Env} {N : Nat} {d3 : List D} {h0 h1 h2 : Ob} (v6 : E.vcall 27 [.c (.d (.sl d3 256))] = some (.tup [strV [], i64 3])) (hd3 : deepC [h0, h1, h2] deepMax (.os 1 257 0 256 5 none) = some (.sl d3 256)) : exec E N false fn7E ⟨[.any, .any, .any, osL, .any, .any, .any, .any, .any, .any, .c (.os 2 256 0 256 17 none), .any, .any, .any, i64 256, .any, .any, .any, .any, .any, .any, .any, .any, .any, .any, .any, bl false], [h0, h1, h2]⟩ = some (.nrm, ⟨[.any, .any, .any, osL, .any, .any, .any, .any, .any, .any, .c (.os 2 256 0 256 17 none), .any, .any, .any, i64 256, i64 3, .any, .any, .any, .any, .any, .any, .any, .any, .any, .any, bl false], [h0, h1, h2]⟩) := by
  have b2 : asNat (.c (.d (.int .i64 256))) = some 256 := rfl
  have gfl : [V.c (.d (.str [])), V.c (.d (.int .i64 3))].all V.flat1 = true := rfl
  simp only [strV, i64] at v6
  simp only [fn7E, optNat, b2, hd3, v6, gfl, Option.map_none, Option.map_some, Nat.zero_le, evs, Nat.reduceLeDiff, Nat.reduceMul, Nat.reduceSub]
theorem f7 (hX : XOk m X) {N : Nat} (hN : 10000 ≤ N) : vcallN X N 7 [] = some (bl true) := by
  obtain ⟨N, rfl⟩ : ∃ M, N = M + 1 := ⟨N - 1, by omega⟩
  have hF : fnsA 7 = some fn7' := rfl
  have hlv := f16 hX (N := N) (by omega)
  have h32 := f32o hX (N := N) (by omega)
  have hso : slO [o7] = .sl (oD o7) 1 := by simp [slO]
  have e33 : ∀ s : List Nat, s.length ≤ 300 → (zenv X N).vcall 33 [.agg [.d (.str s), .d (.sl (oD o7) 1), .d (.bool false), .d (.bool false), .d (.bool false)]] = some (i64 (chkA s [o7])) := fun s hs => hX.vc (k := 33) (F := fn33) rfl (by
    have h := f33 hX (N := N) (s := s) (w := slO [o7]) (u := [o7]) (b1 := false) (b2 := false) (b3 := false) (by omega) hs (.inr rfl) wfS_o7 (by simp)
    rw [hso] at h
    exact h)
  obtain ⟨k1, k2, k3, k4, k5, k6⟩ := chk_ex
  have c1 := e33 long7 (by decide)
  have c2 := e33 (long7 ++ [51]) (by decide)
  have c3 := e33 [97, 45] (by decide)
  have c4 := e33 [45, 97] (by decide)
  have c5 := e33 [] (by decide)
  have c6 : (zenv X N).vcall 33 [.agg [.d (.str [97]), .d .nils, .d (.bool false), .d (.bool false), .d (.bool false)]] = some (i64 (chkA [97] [])) := hX.vc (k := 33) (F := fn33) rfl (f33 hX (N := N) (s := [97]) (w := .nils) (u := []) (b1 := false) (b2 := false) (b3 := false) (by omega) (by decide) (.inl ⟨rfl, rfl⟩) (fun _ h => by cases h) (by simp))
  rw [k1] at c1
  rw [k2] at c2
  rw [k3] at c3
  rw [k4] at c4
  rw [k5] at c5
  rw [k6] at c6
  have ia := it7a hX (N := N) (by omega)
  have ib := it7b (X := X) (N := N) (by omega)
  have id7 := it7d (X := X) (N := N) (by omega) (h0 := .cells (oC o7) 0 false) (h2 := .cells (flC (gL 256)) 256 false)
  have v1 := v28x hX (N := N) (by omega)
  have v2 := v28 hX (N := N) (by omega)
  obtain ⟨v3, v4⟩ := v34 hX (N := N) (by omega)
  have v5 := v29 hX (N := N) (by omega)
  have v6 := v27 hX (N := N) (by omega)
  have hd0 : ∀ t, deepC (.cells (oC o7) 0 false :: t) deepMax os0 = some (.sl (oD o7) 1) := fun t => deep_os0 7
  have hd1 := deep_7 (t := []) (n := 257) (d := 0) (g := 257) (f := false)
  have hd2 := deep_7 (t := []) (n := 256) (d := 1) (g := 257) (f := false)
  have hd3 := deep_8 (h0 := .cells (oC o7) 0 false) (t := []) (f := false)
  simp only [Nat.add_zero, Nat.reduceAdd] at hd1 hd2
  have ht0 : textL (l7 0) = [] := rfl
  have htl := text7_len (n := 257) (by omega)
  have htc := text7_cut
  have hol : (oC o7).length = 17 := rfl
  simp only [Nat.reduceMul, Nat.reduceSub] at htl htc
  unfold R7 at ia
  rw [ht0] at ia
  have hr1 : long7 ++ [51] = [97, 50, 51, 52, 53, 54, 55, 56, 57, 48, 49, 50, 51, 52, 53, 54, 55, 56, 57, 48, 49, 50, 51, 52, 53, 54, 55, 56, 57, 48, 49, 50, 51] := rfl
  rw [hr1] at c2
  generalize (l7 257).flatMap An.ds = d1 at *
  generalize (l7 256).flatMap An.ds = d2 at *
  generalize (l8 256).flatMap An.ds = d3 at *
  generalize textL (l7 257) = t1 at *
  generalize textL (l7 256) = t2 at *
  generalize c7 257 = cs at *
  generalize c8 256 = cu at *
  generalize flC (gL 256) = gg at *
  generalize oC o7 = oc at *
  generalize oD o7 = od at *
  have gfl : [V.c (.d (.str [])), V.c (.d (.int .i64 3))].all V.flat1 = true := rfl
  have g10 : ((1 : Int) == 0) = false := rfl
  have rep1 : ∀ z : List C, rep z 1 = z := fun z => by simp [rep]
  obtain ⟨y1, hz1⟩ := z71 hX (N := N) (by omega) (x := fun i => nth [.any, .any, .any, osL, .any, .any, .any, .any, .any, .any, .c (.os 2 256 0 256 17 none), .any, .any, .any, i64 256, i64 3, .any, .any, .any, .any, .any, .any, .any, .any, .any, .any, bl false] i) (h0 := .cells oc 0 false) (h1 := .cells cu 257 false) (h2 := .cells gg 256 false)
  obtain ⟨y2, hz2⟩ := z72 hX (N := N) (by omega) (x := fun i => nth [.any, .any, .any, osL, .any, .any, .any, .any, .any, .any, .c (.os 2 256 0 256 17 none), .any, .any, .any, i64 256, i64 3, i64 0, i64 3, .any, .any, .any, .any, .any, .any, .any, .any, bl false] i) (h0 := .cells oc 0 false) (h1 := .cells cu 257 false) (h2 := .cells gg 256 false) (h3 := .cells y1 0 false)
  simp only [nth, i64, bl] at hz1 hz2
  have a18 : IntKind.i64.wrap (4626 - 18) = 4608 := rfl
  have b1 : asNat (.c (.d (.int .i64 4608))) = some 4608 := rfl
  have b2 : asNat (.c (.d (.int .i64 256))) = some 256 := rfl
  simp only [long7, strV, i64, bl, R8, R9, no7, Int.cast_ofNat_Int] at ia ib id7 c1 c2 c3 c4 c5 c6 v1 v2 v3 v4 v5 v6 hlv
  have hA : exec (zenv X N) N false fn7A ⟨[bl false, .c os0, strV long7, .any, .any, .any, .any, .any, .any, .any, .any, .any, .any, .any, .any, .any, .any, .any, .any, .any, .any, .any, .any, .any, .any, .any, .any], [.cells oc 0 false]⟩ = some (.nrm, ⟨[bl false, .c os0, strV long7, .any, .any, .any, .any, .any, .any, .any, .any, .any, .any, .any, .any, .any, .any, .any, .any, .any, bl false, .any, .any, .any, .any, .any, .any], [.cells oc 0 false]⟩) := by
    simp only [long7, strV, fn7A, lay, binStr, splice, c1, c2, c3, c4, c5, c6, hd0, Option.map_some, List.take, List.drop, List.map_cons, List.map_nil, freeze_nil, reachV, reachC, ite_self, List.flatMap_cons, List.flatMap_nil, evs, Nat.reduceAdd, Nat.reduceLeDiff]
  have hB : exec (zenv X N) N false fn7B ⟨[.any, .c os0, .any, osL, strV t1, i64 257, .any, i64 257, i64 3, .any, .any, .any, .any, .any, .any, .any, .any, .any, .any, .any, .any, bl false, .any, .any, .any, .any, .any], [.cells oc 0 false, .cells cs 257 false]⟩ = some (.nrm, ⟨[.any, .c os0, .any, osL, strV t1, i64 257, .any, i64 257, i64 3, .any, .any, .any, .any, .any, .any, .any, .any, .any, .any, .any, .any, bl false, bl false, .any, .any, .any, .any], [.cells oc 0 false, .cells cs 257 false]⟩) := by
    simp only [strV, fn7B, optNat, v3, v4, hd1, hd2, b2, Option.map_none, Option.map_some, Nat.zero_le, reachV, List.flatMap_cons, List.flatMap_nil, evs, Nat.reduceLeDiff, Nat.reduceMul, Nat.reduceSub]
  have hC : exec (zenv X N) N false fn7C ⟨[.any, .c os0, .any, osL, strV t1, i64 257, .any, i64 0, i64 0, .c (.d (.sl d2 256)), .any, .any, .any, .any, .any, .any, .any, .any, .any, .any, .any, bl false, bl false, .any, .any, .any, .any], [.cells oc 0 false, .cells cs 257 false]⟩ = some (.nrm, ⟨[.any, .c os0, .any, osL, strV t1, i64 257, .any, i64 0, i64 0, .c (.d (.sl d2 256)), .any, .any, .any, .any, .any, .any, .any, .any, .any, .any, .any, bl false, bl false, bl false, .any, .any, .any], [.cells oc 0 false, .cells cs 257 false]⟩) := by
    simp only [strV, fn7C, g10, optNat, v5, hd2, b2, Option.map_none, Option.map_some, Nat.zero_le, reachV, reachC, List.flatMap_cons, List.flatMap_nil, evs, Nat.reduceLeDiff, Nat.reduceMul, Nat.reduceSub]
  have hE := rE7 (E := zenv X N) (N := N) v6 hd3
  simp only [long7, strV, i64, bl] at hA hB hC hE
  refine vcall_of (r := bl true) (H := [.cells oc 0 false, .cells cu 257 false, .cells gg 256 false, .cells y1 0 false, .cells y2 0 false]) ?_ rfl
  rw [hX.fn hF]
  refine (rf_fin _ _ _ _ _ _ _ _ _ (by rfl)).trans ?_
  simp only [hA, hB, hC, hE, rep1, Int.cast_ofNat_Int, ex_fresh, frn_nil, optNat, lay, splice, h32, ia, ib, id7, v1, v2, hlv, htl, htc, hz1, hz2, hol, a18, b1, Option.map_none, Option.map_some, Nat.zero_le, Nat.le_refl, List.take, List.drop, List.map_cons, List.map_nil, freeze_nil, reachV, reachC, ite_self, List.flatMap_cons, List.flatMap_nil, evs, Nat.reduceAdd, Nat.reduceLeDiff, Nat.reduceBEq, Nat.reduceSub]
end Mini
end Go.Proofs.YtgjlofpfbhioaaaGreatDoor
